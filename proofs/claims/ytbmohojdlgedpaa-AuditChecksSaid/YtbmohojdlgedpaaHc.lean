/-
  Contracts of the package tree: trees.
-/
import Derived.Test.YtbmohojdlgedpaaHb
namespace Go.Proofs.Ytbmohojdlgedpaa
open Go.RowKit Gw Pl
set_option linter.unusedVariables false
set_option linter.unusedSimpArgs false
theorem cb54 : callB Try.prog 54 = true := by kernel_rfl
theorem cb67 : callB Try.prog 67 = true := by kernel_rfl
theorem cb83 : callB Try.prog 83 = true := by kernel_rfl
theorem fld138_0 : fldB Try.prog 138 0 0 = true := by kernel_rfl
theorem fld138_1 : fldB Try.prog 138 1 1 = true := by kernel_rfl
theorem sz136 : szB Try.prog 136 1 = true := by kernel_rfl
theorem sz3 : szB Try.prog 3 1 = true := by kernel_rfl
def kO : Option Kv → ByteArray
  | some p => p.1
  | none => ⟨#[]⟩
def vO : Option Kv → ByteArray
  | some p => p.2
  | none => ⟨#[]⟩
def topK : Tr → Option Kv
  | .nil => none
  | .node _ k v _ _ _ => some (k, v)
def gO : Option ByteArray → ByteArray
  | some v => v
  | none => ⟨#[]⟩
theorem seek_go_r {t cur : List Kv} {key k v : ByteArray} {b : Option Kv} {L R : List Kv} {X : Option Kv} (hs : SortK (L ++ (k, v) :: R)) (h : X = (seekK (L ++ (k, v) :: R) key).or b) (hk : slt k key) : X = (seekK R key).or b := by
  rw [h, seekK_gt (fun p hp => (sortK_app hs).2.2.1 p hp) hk]
theorem seek_go_l {key k v : ByteArray} {b : Option Kv} {L R : List Kv} {X : Option Kv} (h : X = (seekK (L ++ (k, v) :: R) key).or b) (hk : ¬ slt k key) : X = (seekK L key).or (some (k, v)) := by
  rw [h, seekK_le hk, Option.or_assoc]
  rfl
theorem seek_end {key : ByteArray} {cur : Tr} {b X : Option Kv} (h : X = (seekK cur.kvs key).or b) (hn : cur = .nil) : X = b := by
  subst hn
  rw [h]
  rfl
theorem get_none1 {l : List Kv} {key : ByteArray} (hs : SortK l) (h : (seekK l key).isSome = false) : getK l key = none := by
  rw [getK_seek hs]
  cases hx : seekK l key with
  | none => rfl
  | some p => rw [hx] at h; cases h
theorem get_none2 {l : List Kv} {key : ByteArray} (hs : SortK l) (h1 : (seekK l key).isSome = true) (h : kO (seekK l key) ≠ key) : getK l key = none := by
  rw [getK_seek hs]
  cases hx : seekK l key with
  | none => rfl
  | some p => rw [hx] at h; exact if_neg h
theorem get_some {l : List Kv} {key : ByteArray} (hs : SortK l) (h1 : (seekK l key).isSome = true) (h : ¬ kO (seekK l key) ≠ key) : getK l key = some (vO (seekK l key)) := by
  rw [getK_seek hs]
  cases hx : seekK l key with
  | none => rw [hx] at h1; cases h1
  | some p => rw [hx] at h; exact if_pos (Decidable.not_not.1 h)
theorem get_in {l : List Kv} {key : ByteArray} (h : (getK l key).isSome = true) : ∃ p ∈ l, p.1 = key := by
  rcases Classical.em (∃ p ∈ l, p.1 = key) with q | q
  · exact q
  · rw [getK_none.2 (fun p hp e => q ⟨p, hp, e⟩)] at h
    cases h
theorem tnot {b : Bool} (h : (!b) = true) : b = false := by
  cases b
  · rfl
  · cases h
theorem tnot' {b : Bool} (h : (!b) = false) : b = true := by
  cases b
  · cases h
  · rfl
theorem told_n {w : World} :
    Runs Try.prog 83 #[.pointer none] w (fun v_ w' => w.grownBy w' none ∧ v_ = .tuple #[.string (kO (none : Option Kv)), .string (vO (none : Option Kv)), .bool ((none : Option Kv)).isSome]) := by
  have hB := gb_refl w none
  refine enter Try.func83 Try.ntmps83 rfl rfl ?_
  refine C_seq (C_reg rfl ?_)
  refine L_run (R_assign rfl) rfl ?_
  refine L_run (R_assign rfl) rfl ?_
  refine L_run (R_assign rfl) rfl ?_
  refine L_nil (N_then (C_seq (C_seq (C_reg rfl ?_))))
  refine L_run (R_move rfl) rfl ?_
  refine L_run (R_eqlpNN rfl rfl Try.underlying136) rfl ?_
  refine L_nil (N_then (C_condT rfl rfl (C_seq (C_reg rfl ?_))))
  refine L_run (R_assign rfl) rfl ?_
  refine L_nil (N_then (C_seq (C_reg rfl ?_)))
  refine L_run (R_move rfl) rfl ?_
  refine L_run (R_assign rfl) rfl ?_
  refine L_run (R_assign rfl) rfl ?_
  refine L_run (R_assign rfl) rfl ?_
  refine L_nil (N_then (C_ret (R_then ?_)))
  refine ret3 Try.results83 rfl rfl rfl ?_
  exact ⟨hB, rfl⟩

theorem told_c {w : World} {g : Nat} {k v : ByteArray} {pl pr : Value} {h : Int} (hb : Blk w g 148 [.string k, .string v, pl, pr, .int .i64 h]) :
    Runs Try.prog 83 #[.pointer (some ⟨g, 0, none⟩)] w (fun v_ w' => w.grownBy w' none ∧ v_ = .tuple #[.string (kO (some (k, v) : Option Kv)), .string (vO (some (k, v) : Option Kv)), .bool ((some (k, v) : Option Kv)).isSome]) := by
  have hB := gb_refl w none
  refine enter Try.func83 Try.ntmps83 rfl rfl ?_
  refine C_seq (C_reg rfl ?_)
  refine L_run (R_assign rfl) rfl ?_
  refine L_run (R_assign rfl) rfl ?_
  refine L_run (R_assign rfl) rfl ?_
  refine L_nil (N_then (C_seq (C_seq (C_reg rfl ?_))))
  refine L_run (R_move rfl) rfl ?_
  refine L_run (R_eqlpPN rfl rfl Try.underlying136) rfl ?_
  refine L_nil (N_then (C_condF rfl rfl (C_skip (N_then (C_seq ?_)))))
  refine C_draw2 rfl mix ?_
  intro w1 hs1 hz1
  replace hB := gb_tr hB hs1
  replace hb := hb.gb hs1
  refine ⟨fun W_ => Blk W_ g 148 [.string k, .string v, pl, pr, .int .i64 h] ∧ True, [0, 1, 2, 3, 4, 5, 6, 7, 8, 9, 10], ?_⟩
  refine T_takeA (i := 0) rfl (by kernel_rfl) (by kernel_rfl) (by kernel_rfl) (by kernel_rfl) (Y_of (fun _ ⟨hb, _⟩ => R_move rfl)) ⟨hb, trivial⟩ rfl ?_
  refine T_takeA (i := 1) rfl (by kernel_rfl) (by kernel_rfl) (by kernel_rfl) (by kernel_rfl) (Y_of (fun _ ⟨hb, _⟩ => R_nilck rfl)) ⟨hb, trivial⟩ rfl ?_
  refine T_takeA (i := 2) rfl (by kernel_rfl) (by kernel_rfl) (by kernel_rfl) (by kernel_rfl) (Y_of (fun _ ⟨hb, _⟩ => R_field (r := 0) rfl fld148_0 rfl)) ⟨hb, trivial⟩ rfl ?_
  refine T_takeA (i := 3) rfl (by kernel_rfl) (by kernel_rfl) (by kernel_rfl) (by kernel_rfl) (Y_of (fun _ ⟨hb, _⟩ => R_load1 rfl scl9 (hb.cell (i := 0) rfl))) ⟨hb, trivial⟩ rfl ?_
  refine T_takeA (i := 4) rfl (by kernel_rfl) (by kernel_rfl) (by kernel_rfl) (by kernel_rfl) (Y_of (fun _ ⟨hb, _⟩ => R_move rfl)) ⟨hb, trivial⟩ rfl ?_
  refine T_takeA (i := 5) rfl (by kernel_rfl) (by kernel_rfl) (by kernel_rfl) (by kernel_rfl) (Y_of (fun _ ⟨hb, _⟩ => R_nilck rfl)) ⟨hb, trivial⟩ rfl ?_
  refine T_takeA (i := 6) rfl (by kernel_rfl) (by kernel_rfl) (by kernel_rfl) (by kernel_rfl) (Y_of (fun _ ⟨hb, _⟩ => R_field (r := 1) rfl fld148_1 rfl)) ⟨hb, trivial⟩ rfl ?_
  refine T_takeA (i := 7) rfl (by kernel_rfl) (by kernel_rfl) (by kernel_rfl) (by kernel_rfl) (Y_of (fun _ ⟨hb, _⟩ => R_load1 rfl scl9 (hb.cell (i := 1) rfl))) ⟨hb, trivial⟩ rfl ?_
  refine T_takeA (i := 8) rfl (by kernel_rfl) (by kernel_rfl) (by kernel_rfl) (by kernel_rfl) (Y_of (fun _ ⟨hb, _⟩ => R_assign rfl)) ⟨hb, trivial⟩ rfl ?_
  refine T_takeA (i := 9) rfl (by kernel_rfl) (by kernel_rfl) (by kernel_rfl) (by kernel_rfl) (Y_of (fun _ ⟨hb, _⟩ => R_assign rfl)) ⟨hb, trivial⟩ rfl ?_
  refine T_takeA (i := 10) rfl (by kernel_rfl) (by kernel_rfl) (by kernel_rfl) (by kernel_rfl) (Y_of (fun _ ⟨hb, _⟩ => R_assign rfl)) ⟨hb, trivial⟩ rfl ?_
  refine T_done (by kernel_rfl) (CalmE.normal ?_)
  refine N_then (C_ret ?_)
  refine ret3 Try.results83 rfl rfl rfl ?_
  exact ⟨hB, rfl⟩

theorem told_ok {w : World} {hi : Nat} {t : Tr} (ht : TreeF 148 hi w t) : Runs Try.prog 83 #[.pointer (taddr t)] w (fun v_ w' => w.grownBy w' none ∧ v_ = .tuple #[.string (kO (topK t)), .string (vO (topK t)), .bool ((topK t)).isSome]) := by
  cases t with
  | nil => exact told_n
  | node g k v h l r => exact told_c ht.2.1
theorem seek_ok {w : World} {gt hi : Nat} {t : Tr} {n : Int} {key : ByteArray} (hb : Blk w gt 138 [.pointer (taddr t), .int .i64 n]) (hT : TreeF 148 hi w t) (hs : SortK t.kvs) :
    Runs Try.prog 67 #[.pointer (some ⟨gt, 0, none⟩), .string key] w (fun v_ w' => w.grownBy w' none ∧ v_ = .tuple #[.string (kO (seekK t.kvs key)), .string (vO (seekK t.kvs key)), .bool ((seekK t.kvs key)).isSome]) := by
  have hB := gb_refl w none
  refine enter Try.func67 Try.ntmps67 rfl rfl ?_
  refine C_seq (C_reg rfl ?_)
  refine L_run (R_assign rfl) rfl ?_
  refine L_run (R_assign rfl) rfl ?_
  refine L_run (R_assign rfl) rfl ?_
  refine L_nil (N_then (C_seq (C_reg rfl ?_)))
  refine L_run (R_assign rfl) rfl ?_
  refine L_nil (N_then (C_seq (C_seq (C_reg rfl ?_))))
  refine L_run (R_move rfl) rfl ?_
  refine L_run (R_neqpPN rfl rfl Try.underlying117) rfl ?_
  refine L_nil (N_then (C_condT rfl rfl (C_seq (C_reg rfl ?_))))
  refine L_run (R_move rfl) rfl ?_
  refine L_run (R_nilck rfl) rfl ?_
  refine L_run (R_field (r := 0) rfl fld138_0 rfl) rfl ?_
  refine L_run (R_load1 rfl scl136 (hb.cell (i := 0) rfl)) rfl ?_
  refine L_run (R_assign rfl) rfl ?_
  refine L_nil (N_then (C_block ?_))
  refine C_loop (fun m_ a_ w_ => ∃ (σ_ : Nat → Value) (cur : Tr) (bt : Tr), a_ = Ac 37 σ_ [] [(0, .pointer (some ⟨gt, 0, none⟩)), (1, .string key), (4, .string (⟨#[]⟩)), (5, .string (⟨#[]⟩)), (6, .bool false), (7, .pointer (taddr bt)), (8, .pointer (taddr cur))] ∧ w.grownBy w_ none ∧ Blk w_ gt 138 [.pointer (taddr t), .int .i64 n] ∧ TreeF 148 hi w_ cur ∧ TreeF 148 hi w_ bt ∧ (SortK cur.kvs) ∧ ((seekK t.kvs key) = (seekK cur.kvs key).or (topK bt)) ∧ cur.cnt = m_) (t.cnt) ?_ ?_
  · exact ⟨_, t, .nil, Ac_frg ⟨rfl, rfl, rfl, rfl, rfl, (agr rfl (by first | rfl | (congr 1; omega) | (congr 1; simp; done) | (congr 1; simp only [IntKind.wrap_u64, IntKind.wrap_i64, IntKind.wrap_u8]; omega) | (congr 1 <;> omega))), rfl, trivial⟩, hB, hb, hT, TreeF.nil, hs, (by cases (seekK t.kvs key) <;> rfl), rfl⟩
  · clear hB
    clear hb hT
    rintro m_ a_ w1 ⟨σ_, cur, bt, rfl, hB, hb, hTc, hTb, hso, hS, rfl⟩
    refine C_seq (C_seq (C_reg rfl ?_))
    refine L_run (R_move rfl) rfl ?_
    refine L_run (R_neqT rfl rfl Try.underlying136) rfl ?_
    refine L_nil (N_then ?_)
    refine C_if rfl (fun h1 => ?_) (fun h1 => ?_)
    · refine C_skip (N_then (C_block (C_seq (C_seq (C_reg rfl ?_)))))
      refine L_run (R_move rfl) rfl ?_
      obtain ⟨g1, k1, v1, h2, tr1, tr2, rfl⟩ := Tr.node_of h1
      have hb1 := hTc.2.1
      have ht1 := hTc.2.2.1
      have ht2 := hTc.2.2.2
      refine L_run (R_nilck rfl) rfl ?_
      refine L_run (R_field (r := 0) rfl fld148_0 rfl) rfl ?_
      refine L_run (R_load1 rfl scl9 (hb1.cell (i := 0) rfl)) rfl ?_
      refine L_run (R_move rfl) rfl ?_
      refine L_run (R_lssS rfl rfl) rfl ?_
      refine L_nil (N_then ?_)
      refine C_if rfl (fun h3 => ?_) (fun h3 => ?_)
      · refine C_seq (C_reg rfl ?_)
        refine L_run (R_move rfl) rfl ?_
        refine L_run (R_nilck rfl) rfl ?_
        refine L_run (R_field (r := 3) rfl fld148_3 rfl) rfl ?_
        refine L_run (R_load1 rfl scl136 (hb1.cell (i := 3) rfl)) rfl ?_
        refine L_run (R_assign rfl) rfl ?_
        refine L_nil (N_then (C_exit (X_then (X_hit (N_then ?_)))))
        exact ⟨tr2.cnt, (by rw [Tr.cnt_node]; omega), _, tr2, bt, Ac_frg ⟨rfl, rfl, rfl, rfl, rfl, rfl, rfl, trivial⟩, hB, hb, ht2, hTb, (sortK_app hso).2.1, (seek_go_r (t := []) (cur := []) hso hS h3), rfl⟩
      · refine C_skip (N_then ?_)
        refine C_draw2 rfl mix ?_
        intro w2 hs1 hz1
        replace hB := gb_tr hB hs1
        replace hb := hb.gb hs1
        replace hTb := hTb.gb hs1
        replace hTc := hTc.gb hs1
        replace hb1 := hb1.gb hs1
        replace ht1 := ht1.gb hs1
        replace ht2 := ht2.gb hs1
        refine ⟨fun W_ => Blk W_ g1 148 [.string k1, .string v1, .pointer (taddr tr1), .pointer (taddr tr2), .int .i64 h2] ∧ True, [0, 1, 2, 3, 4, 5, 6], ?_⟩
        refine T_takeA (i := 0) rfl (by kernel_rfl) (by kernel_rfl) (by kernel_rfl) (by kernel_rfl) (Y_of (fun _ ⟨hb1, _⟩ => R_move rfl)) ⟨hb1, trivial⟩ rfl ?_
        refine T_takeA (i := 1) rfl (by kernel_rfl) (by kernel_rfl) (by kernel_rfl) (by kernel_rfl) (Y_of (fun _ ⟨hb1, _⟩ => R_move rfl)) ⟨hb1, trivial⟩ rfl ?_
        refine T_takeA (i := 2) rfl (by kernel_rfl) (by kernel_rfl) (by kernel_rfl) (by kernel_rfl) (Y_of (fun _ ⟨hb1, _⟩ => R_nilck rfl)) ⟨hb1, trivial⟩ rfl ?_
        refine T_takeA (i := 3) rfl (by kernel_rfl) (by kernel_rfl) (by kernel_rfl) (by kernel_rfl) (Y_of (fun _ ⟨hb1, _⟩ => R_field (r := 2) rfl fld148_2 rfl)) ⟨hb1, trivial⟩ rfl ?_
        refine T_takeA (i := 4) rfl (by kernel_rfl) (by kernel_rfl) (by kernel_rfl) (by kernel_rfl) (Y_of (fun _ ⟨hb1, _⟩ => R_load1 rfl scl136 (hb1.cell (i := 2) rfl))) ⟨hb1, trivial⟩ rfl ?_
        refine T_takeA (i := 5) rfl (by kernel_rfl) (by kernel_rfl) (by kernel_rfl) (by kernel_rfl) (Y_of (fun _ ⟨hb1, _⟩ => R_assign rfl)) ⟨hb1, trivial⟩ rfl ?_
        refine T_takeA (i := 6) rfl (by kernel_rfl) (by kernel_rfl) (by kernel_rfl) (by kernel_rfl) (Y_of (fun _ ⟨hb1, _⟩ => R_assign rfl)) ⟨hb1, trivial⟩ rfl ?_
        refine T_done (by kernel_rfl) (CalmE.normal ?_)
        refine N_in (N_then ?_)
        exact ⟨tr1.cnt, (by rw [Tr.cnt_node]; omega), _, tr1, (Tr.node g1 k1 v1 h2 tr1 tr2), Ac_frg ⟨rfl, rfl, rfl, rfl, rfl, (agr rfl (by first | rfl | (congr 1; omega) | (congr 1; simp; done) | (congr 1; simp only [IntKind.wrap_u64, IntKind.wrap_i64, IntKind.wrap_u8]; omega) | (congr 1 <;> omega))), rfl, trivial⟩, hB, hb, ht1, hTc, (sortK_app hso).1, (seek_go_l hS h3), rfl⟩
    · refine C_exit (X_then (X_then (X_hit (N_then (C_seq (C_reg rfl ?_))))))
      refine L_run (R_move rfl) rfl ?_
      refine L_call rfl cb83 (told_ok (t := bt) hTb) rfl ?_
      rintro _ w3 ⟨hs2, rfl⟩
      replace hB := gb_tr hB hs2
      replace hb := hb.gb hs2
      replace hTc := hTc.gb hs2
      replace hTb := hTb.gb hs2
      refine L_run (R_extract rfl rfl) rfl ?_
      refine L_run (R_extract rfl rfl) rfl ?_
      refine L_run (R_extract rfl rfl) rfl ?_
      refine L_run (R_assign rfl) rfl ?_
      refine L_run (R_assign rfl) rfl ?_
      refine L_run (R_assign rfl) rfl ?_
      refine L_nil (N_then (C_ret ?_))
      refine ret3 Try.results67 rfl rfl rfl ?_
      have e_ := seek_end hS (Decidable.not_not.1 h1)
      exact ⟨hB, by rw [e_]; rfl⟩

theorem get_ok {w : World} {gt hi : Nat} {t : Tr} {n : Int} {key : ByteArray} (hb : Blk w gt 138 [.pointer (taddr t), .int .i64 n]) (hT : TreeF 148 hi w t) (hs : SortK t.kvs) :
    Runs Try.prog 54 #[.pointer (some ⟨gt, 0, none⟩), .string key] w (fun v_ w' => w.grownBy w' none ∧ v_ = .tuple #[.string (gO (getK t.kvs key)), .bool (getK t.kvs key).isSome]) := by
  have hB := gb_refl w none
  refine enter Try.func54 Try.ntmps54 rfl rfl ?_
  refine C_seq (C_reg rfl ?_)
  refine L_run (R_assign rfl) rfl ?_
  refine L_run (R_assign rfl) rfl ?_
  refine L_nil (N_then (C_seq (C_reg rfl ?_)))
  refine L_run (R_move rfl) rfl ?_
  refine L_run (R_move rfl) rfl ?_
  refine L_call rfl cb67 (seek_ok (t := t) (key := key) hb hT hs) rfl ?_
  rintro _ w1 ⟨hs1, rfl⟩
  replace hB := gb_tr hB hs1
  replace hb := hb.gb hs1
  replace hT := hT.gb hs1
  refine L_run (R_move rfl) rfl ?_
  refine L_run (R_extract rfl rfl) rfl ?_
  refine L_run (R_extract rfl rfl) rfl ?_
  refine L_run (R_extract rfl rfl) rfl ?_
  refine L_run (R_assign rfl) rfl ?_
  refine L_run (R_assign rfl) rfl ?_
  refine L_run (R_assign rfl) rfl ?_
  refine L_nil (N_then (C_seq (C_seq (C_reg rfl ?_))))
  refine L_run (R_move rfl) rfl ?_
  refine L_run (R_not rfl) rfl ?_
  refine L_run (R_move rfl) rfl ?_
  refine L_split (!((seekK t.kvs key).isSome)) (fun h1 => ?_) (fun h1 => ?_)
  · refine L_no rfl rfl rfl h1 rfl ?_
    refine L_no rfl rfl rfl h1 rfl ?_
    refine L_no rfl rfl rfl h1 rfl ?_
    refine L_run (R_pickT rfl h1 rfl) rfl ?_
    refine L_nil (N_then (C_condT rfl rfl (C_seq (C_reg rfl ?_))))
    refine L_run (R_assign rfl) rfl ?_
    refine L_nil (N_then (C_seq (C_reg rfl ?_)))
    refine L_run (R_move rfl) rfl ?_
    refine L_run (R_assign rfl) rfl ?_
    refine L_run (R_assign rfl) rfl ?_
    refine L_nil (N_then (C_ret (R_then ?_)))
    refine ret2 Try.results54 rfl rfl ?_
    have e_ := get_none1 hs (tnot h1)
    exact ⟨hB, by rw [e_]; rfl⟩
  · refine L_yes rfl rfl rfl h1 ?_
    refine L_run (R_move rfl) rfl ?_
    refine L_yes rfl rfl rfl h1 ?_
    refine L_run (R_move rfl) rfl ?_
    refine L_yes rfl rfl rfl h1 ?_
    refine L_run (R_neqS rfl rfl) rfl ?_
    refine L_run (R_pickF rfl h1 rfl) rfl ?_
    refine L_nil (N_then ?_)
    refine C_if rfl (fun h2 => ?_) (fun h2 => ?_)
    · refine C_seq (C_reg rfl ?_)
      refine L_run (R_assign rfl) rfl ?_
      refine L_nil (N_then (C_seq (C_reg rfl ?_)))
      refine L_run (R_move rfl) rfl ?_
      refine L_run (R_assign rfl) rfl ?_
      refine L_run (R_assign rfl) rfl ?_
      refine L_nil (N_then (C_ret (R_then ?_)))
      refine ret2 Try.results54 rfl rfl ?_
      have e_ := get_none2 hs (tnot' h1) h2
      exact ⟨hB, by rw [e_]; rfl⟩
    · refine C_skip (N_then (C_seq (C_reg rfl ?_)))
      refine L_run (R_move rfl) rfl ?_
      refine L_run (R_assign rfl) rfl ?_
      refine L_run (R_assign rfl) rfl ?_
      refine L_nil (N_then (C_ret ?_))
      refine ret2 Try.results54 rfl rfl ?_
      have e_ := get_some hs (tnot' h1) h2
      exact ⟨hB, by rw [e_]; rfl⟩

theorem tlen_ok {w : World} {gt : Nat} {p : Value} {n : Int} (hb : Blk w gt 138 [p, .int .i64 n]) :
    Runs Try.prog 66 #[.pointer (some ⟨gt, 0, none⟩)] w (fun v_ w' => w.grownBy w' none ∧ v_ = .int .i64 n) := by
  have hB := gb_refl w none
  refine enter Try.func66 Try.ntmps66 rfl rfl ?_
  refine C_seq (C_reg rfl ?_)
  refine L_run (R_assign rfl) rfl ?_
  refine L_nil (N_then (C_seq (C_seq (C_reg rfl ?_))))
  refine L_run (R_move rfl) rfl ?_
  refine L_run (R_eqlpPN rfl rfl Try.underlying117) rfl ?_
  refine L_nil (N_then (C_condF rfl rfl (C_skip (N_then (C_seq (C_reg rfl ?_))))))
  refine L_run (R_move rfl) rfl ?_
  refine L_run (R_nilck rfl) rfl ?_
  refine L_run (R_field (r := 1) rfl fld138_1 rfl) rfl ?_
  refine L_run (R_load1 rfl scl3 (hb.cell (i := 1) rfl)) rfl ?_
  refine L_run (R_assign rfl) rfl ?_
  refine L_nil (N_then (C_ret ?_))
  refine ret1 Try.results66 rfl ?_
  exact ⟨hB, rfl⟩

theorem tnew_ok {w : World} :
    Runs Try.prog 47 #[] w (fun v_ w' => w.grownBy w' none ∧ ∃ g, w.heap.size ≤ g ∧ v_ = .pointer (some ⟨g, 0, none⟩) ∧ Blk w' g 138 [.pointer (taddr .nil), .int .i64 0]) := by
  have hB := gb_refl w none
  refine enter Try.func47 Try.ntmps47 rfl rfl ?_
  refine C_seq (C_reg rfl ?_)
  refine L_run (R_assign rfl) rfl ?_
  refine L_nil (N_then (C_seq (C_reg rfl ?_)))
  refine L_run (R_build (pv := []) (cs := [.pointer none, .int .i64 0]) rfl (by kernel_rfl)) rfl ?_
  refine L_box (cs := [.pointer none, .int .i64 0]) rfl rfl rfl ?_
  intro g1 w1 eg1 hb1 hs1 hz1
  have ge1 : w.heap.size ≤ g1 := eg_ge hB eg1
  replace hB := gb_tr hB hs1
  refine L_run (R_assign rfl) rfl ?_
  refine L_nil (N_then (C_ret ?_))
  refine ret1 Try.results47 rfl ?_
  exact ⟨hB, g1, ge1, rfl, hb1⟩

theorem tput_ok {w : World} {gt hi : Nat} {t : Tr}  {key x : ByteArray} (hb : Blk w gt 138 [.pointer (taddr t), .int .i64 (t.kvs.length : Int)]) (hT : TreeF 148 hi w t) (hs : SortK t.kvs) (hok : t.hok) (hc : t.cnt ≤ 800000) :
    Runs Try.prog 63 #[.pointer (some ⟨gt, 0, none⟩), .string key, .string x] w (fun v_ w' => w.grownBy w' (some gt) ∧ v_ = .tuple #[.string (gO (getK t.kvs key)), .bool (getK t.kvs key).isSome] ∧ ∃ t', Blk w' gt 138 [.pointer (taddr t'), .int .i64 (t'.kvs.length : Int)] ∧ TreeF 148 w'.heap.size w' t' ∧ t'.kvs = putK t.kvs key x ∧ t'.hok) := by
  have hB := gb_refl w (some gt)
  refine enter Try.func63 Try.ntmps63 rfl rfl ?_
  refine C_seq (C_reg rfl ?_)
  refine L_run (R_assign rfl) rfl ?_
  refine L_run (R_assign rfl) rfl ?_
  refine L_nil (N_then (C_seq (C_reg rfl ?_)))
  refine L_run (R_move rfl) rfl ?_
  refine L_run (R_move rfl) rfl ?_
  refine L_call rfl cb54 (get_ok (t := t) (key := key) hb hT hs) rfl ?_
  rintro _ w1 ⟨hs1, rfl⟩
  replace hB := gb_tr hB hs1
  replace hb := hb.gb hs1
  replace hT := hT.gb hs1
  refine L_run (R_move rfl) rfl ?_
  refine L_run (R_extract rfl rfl) rfl ?_
  refine L_run (R_extract rfl rfl) rfl ?_
  refine L_run (R_assign rfl) rfl ?_
  refine L_run (R_assign rfl) rfl ?_
  refine L_nil (N_then (C_seq (C_seq (C_reg rfl ?_))))
  refine L_run (R_move rfl) rfl ?_
  refine L_run (R_neqpPN rfl rfl Try.underlying117) rfl ?_
  refine L_nil (N_then (C_condT rfl rfl (C_seq (C_reg rfl ?_))))
  refine L_run (R_move rfl) rfl ?_
  refine L_run (R_move rfl) rfl ?_
  refine L_run (R_nilck rfl) rfl ?_
  refine L_run (R_field (r := 0) rfl fld138_0 rfl) rfl ?_
  refine L_run (R_load1 rfl scl136 (hb.cell (i := 0) rfl)) rfl ?_
  refine L_run (R_move rfl) rfl ?_
  refine L_run (R_move rfl) rfl ?_
  refine L_call rfl cb76 (put_ok t hT hok hs hc) rfl ?_
  rintro _ w2 ⟨hs2, tr1, rfl, ht1, hkv1, hok1⟩
  replace hB := gb_tr hB hs2
  replace hb := hb.gb hs2
  replace hT := hT.gb hs2
  have ht1_s : w2.heap.size ≤ w2.heap.size := Nat.le_refl _
  refine L_run (R_nilck rfl) rfl ?_
  refine L_run (R_field (r := 0) rfl fld138_0 rfl) rfl ?_
  refine L_st1 rfl rfl rfl sz136 hb rfl ?_
  intro w3 hb1 hs3 hz1
  replace hB := gb_trans hB hs3
  replace hT := hT.other hb rfl hs3
  replace ht1 := ht1.other hb rfl hs3
  replace ht1_s := Nat.le_trans ht1_s hs3.size
  refine L_nil (N_then (C_seq (C_reg rfl ?_)))
  refine L_run (R_move rfl) rfl ?_
  refine L_run (R_not rfl) rfl ?_
  refine L_nil (N_then ?_)
  refine C_cond rfl (fun h1 => ?_) (fun h1 => ?_)
  · refine C_reg rfl ?_
    refine L_run (R_move rfl) rfl ?_
    refine L_run (R_nilck rfl) rfl ?_
    refine L_run (R_field (r := 1) rfl fld138_1 rfl) rfl ?_
    refine L_run (R_load1 rfl scl3 (hb1.cell (i := 1) rfl)) rfl ?_
    refine L_run (R_add64 rfl rfl (by have h_ := Tr.cnt_kvs t; omega)) rfl ?_
    refine L_run (R_nilck rfl) rfl ?_
    refine L_run (R_field (r := 1) rfl fld138_1 rfl) rfl ?_
    refine L_st1 rfl rfl rfl sz3 hb1 rfl ?_
    intro w4 hb2 hs4 hz2
    replace hB := gb_trans hB hs4
    replace hT := hT.other hb1 rfl hs4
    replace ht1 := ht1.other hb1 rfl hs4
    replace ht1_s := Nat.le_trans ht1_s hs4.size
    refine L_nil (N_then (C_seq (C_reg rfl ?_)))
    refine L_run (R_move rfl) rfl ?_
    refine L_run (R_move rfl) rfl ?_
    refine L_run (R_assign rfl) rfl ?_
    refine L_run (R_assign rfl) rfl ?_
    refine L_nil (N_then (C_ret ?_))
    refine ret2 Try.results63 rfl rfl ?_
    have e_ := putK_len hs (k := key) (v := x)
    rw [tnot h1] at e_
    have e2_ : (tr1.kvs.length : Int) = ((t.kvs.length : Int) + 1) := by
      rw [hkv1]
      simp at e_
      omega
    exact ⟨hB, rfl, tr1, (by rw [e2_]; exact hb2), ht1.top, hkv1, hok1⟩
  · refine C_skip (N_then (C_seq (C_reg rfl ?_)))
    refine L_run (R_move rfl) rfl ?_
    refine L_run (R_move rfl) rfl ?_
    refine L_run (R_assign rfl) rfl ?_
    refine L_run (R_assign rfl) rfl ?_
    refine L_nil (N_then (C_ret ?_))
    refine ret2 Try.results63 rfl rfl ?_
    have e_ := putK_len hs (k := key) (v := x)
    rw [tnot' h1] at e_
    have e2_ : (tr1.kvs.length : Int) = (t.kvs.length : Int) := by
      rw [hkv1]
      simp at e_
      omega
    exact ⟨hB, rfl, tr1, (by rw [e2_]; exact hb1), ht1.top, hkv1, hok1⟩

theorem tdel_ok {w : World} {gt hi : Nat} {t : Tr}  {key : ByteArray} (hb : Blk w gt 138 [.pointer (taddr t), .int .i64 (t.kvs.length : Int)]) (hT : TreeF 148 hi w t) (hs : SortK t.kvs) (hok : t.hok) (hc : t.cnt ≤ 800000) :
    Runs Try.prog 50 #[.pointer (some ⟨gt, 0, none⟩), .string key] w (fun v_ w' => w.grownBy w' (some gt) ∧ v_ = .tuple #[.string (gO (getK t.kvs key)), .bool (getK t.kvs key).isSome] ∧ ∃ t', Blk w' gt 138 [.pointer (taddr t'), .int .i64 (t'.kvs.length : Int)] ∧ TreeF 148 w'.heap.size w' t' ∧ t'.kvs = delK t.kvs key ∧ t'.hok) := by
  have hB := gb_refl w (some gt)
  refine enter Try.func50 Try.ntmps50 rfl rfl ?_
  refine C_seq (C_reg rfl ?_)
  refine L_run (R_assign rfl) rfl ?_
  refine L_run (R_assign rfl) rfl ?_
  refine L_nil (N_then (C_seq (C_reg rfl ?_)))
  refine L_run (R_move rfl) rfl ?_
  refine L_run (R_move rfl) rfl ?_
  refine L_call rfl cb54 (get_ok (t := t) (key := key) hb hT hs) rfl ?_
  rintro _ w1 ⟨hs1, rfl⟩
  replace hB := gb_tr hB hs1
  replace hb := hb.gb hs1
  replace hT := hT.gb hs1
  refine L_run (R_move rfl) rfl ?_
  refine L_run (R_extract rfl rfl) rfl ?_
  refine L_run (R_extract rfl rfl) rfl ?_
  refine L_run (R_assign rfl) rfl ?_
  refine L_run (R_assign rfl) rfl ?_
  refine L_nil (N_then (C_seq (C_seq (C_reg rfl ?_))))
  refine L_run (R_move rfl) rfl ?_
  refine L_nil (N_then ?_)
  refine C_cond rfl (fun h1 => ?_) (fun h1 => ?_)
  · refine C_seq (C_reg rfl ?_)
    refine L_run (R_move rfl) rfl ?_
    refine L_run (R_move rfl) rfl ?_
    refine L_run (R_nilck rfl) rfl ?_
    refine L_run (R_field (r := 0) rfl fld138_0 rfl) rfl ?_
    refine L_run (R_load1 rfl scl136 (hb.cell (i := 0) rfl)) rfl ?_
    refine L_run (R_move rfl) rfl ?_
    refine L_call rfl cb64 (wo_ok t hT hok hs (get_in h1) hc) rfl ?_
    rintro _ w2 ⟨hs2, tr1, rfl, ht1, hkv1, hok1⟩
    replace hB := gb_tr hB hs2
    replace hb := hb.gb hs2
    replace hT := hT.gb hs2
    have ht1_s : w2.heap.size ≤ w2.heap.size := Nat.le_refl _
    refine L_run (R_nilck rfl) rfl ?_
    refine L_run (R_field (r := 0) rfl fld138_0 rfl) rfl ?_
    refine L_st1 rfl rfl rfl sz136 hb rfl ?_
    intro w3 hb1 hs3 hz1
    replace hB := gb_trans hB hs3
    replace hT := hT.other hb rfl hs3
    replace ht1 := ht1.other hb rfl hs3
    replace ht1_s := Nat.le_trans ht1_s hs3.size
    refine L_nil (N_then (C_reg rfl ?_))
    refine L_run (R_move rfl) rfl ?_
    refine L_run (R_nilck rfl) rfl ?_
    refine L_run (R_field (r := 1) rfl fld138_1 rfl) rfl ?_
    refine L_run (R_load1 rfl scl3 (hb1.cell (i := 1) rfl)) rfl ?_
    refine L_run (R_sub64 rfl rfl (by have h_ := Tr.cnt_kvs t; omega)) rfl ?_
    refine L_run (R_nilck rfl) rfl ?_
    refine L_run (R_field (r := 1) rfl fld138_1 rfl) rfl ?_
    refine L_st1 rfl rfl rfl sz3 hb1 rfl ?_
    intro w4 hb2 hs4 hz2
    replace hB := gb_trans hB hs4
    replace hT := hT.other hb1 rfl hs4
    replace ht1 := ht1.other hb1 rfl hs4
    replace ht1_s := Nat.le_trans ht1_s hs4.size
    refine L_nil (N_then (C_seq (C_reg rfl ?_)))
    refine L_run (R_move rfl) rfl ?_
    refine L_run (R_move rfl) rfl ?_
    refine L_run (R_assign rfl) rfl ?_
    refine L_run (R_assign rfl) rfl ?_
    refine L_nil (N_then (C_ret ?_))
    refine ret2 Try.results50 rfl rfl ?_
    have e_ := delK_len hs (k := key)
    rw [h1] at e_
    have e2_ : (tr1.kvs.length : Int) = ((t.kvs.length : Int) - 1) := by
      rw [hkv1]
      simp at e_
      omega
    exact ⟨hB, rfl, tr1, (by rw [e2_]; exact hb2), ht1.top, hkv1, hok1⟩
  · refine C_skip (N_then (C_seq (C_reg rfl ?_)))
    refine L_run (R_move rfl) rfl ?_
    refine L_run (R_move rfl) rfl ?_
    refine L_run (R_assign rfl) rfl ?_
    refine L_run (R_assign rfl) rfl ?_
    refine L_nil (N_then (C_ret ?_))
    refine ret2 Try.results50 rfl rfl ?_
    have e_ : ((getK t.kvs key)).isSome = false := h1
    have e2_ := getK_none.1 (Option.isNone_iff_eq_none.1 (by simpa using e_))
    exact ⟨hB, rfl, t, hb, hT.top, (delK_none e2_).symm, hok⟩

end Go.Proofs.Ytbmohojdlgedpaa
