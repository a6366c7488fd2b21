/-
  Changes as data; contracts of a change's bytes.
-/
import Derived.Test.YtbmohojdlgedpaaRows
import Derived.Test.YtbmohojdlgedpaaVq
import Derived.Test.YtbmohojdlgedpaaVp
import Derived.Test.YtbmohojdlgedpaaGk
import Derived.Test.YtbmohojdlgedpaaGi
import Derived.Test.YtbmohojdlgedpaaGe
namespace Go.Proofs.Ytbmohojdlgedpaa
open Go.RowKit Gw Pl
set_option linter.unusedVariables false
set_option linter.unusedSimpArgs false
theorem any116 : anyB Try.prog 116 = true := by kernel_rfl
theorem any5 : anyB Try.prog 5 = true := by kernel_rfl
theorem cb59 : callB Try.prog 59 = true := by kernel_rfl
theorem cb61 : callB Try.prog 61 = true := by kernel_rfl
theorem cb75 : callB Try.prog 75 = true := by kernel_rfl
theorem fld134_0 : fldB Try.prog 134 0 0 = true := by kernel_rfl
theorem fld134_1 : fldB Try.prog 134 1 1 = true := by kernel_rfl
theorem fld34_0 : fldB Try.prog 34 0 0 = true := by kernel_rfl
theorem fld34_1 : fldB Try.prog 34 1 1 = true := by kernel_rfl
theorem fld34_2 : fldB Try.prog 34 2 2 = true := by kernel_rfl
theorem fld34_3 : fldB Try.prog 34 3 3 = true := by kernel_rfl
theorem fld34_4 : fldB Try.prog 34 4 4 = true := by kernel_rfl
theorem fld34_5 : fldB Try.prog 34 5 5 = true := by kernel_rfl
theorem int116 : intB Try.prog 116 .u64 = true := by kernel_rfl
theorem int3 : intB Try.prog 3 .i64 = true := by kernel_rfl
theorem int5 : intB Try.prog 5 .u8 = true := by kernel_rfl
theorem scl3 : sclB Try.prog 3 = true := by kernel_rfl
theorem scl4 : sclB Try.prog 4 = true := by kernel_rfl
theorem scl42 : sclB Try.prog 42 = true := by kernel_rfl
theorem scl5 : sclB Try.prog 5 = true := by kernel_rfl
theorem scl63 : sclB Try.prog 63 = true := by kernel_rfl
theorem scl9 : sclB Try.prog 9 = true := by kernel_rfl
theorem slc63 : slcB Try.prog 63 5 1 1 = true := by kernel_rfl
theorem str9 : strB Try.prog 9 = true := by kernel_rfl
theorem sz42 : szB Try.prog 42 1 = true := by kernel_rfl
theorem sz63 : szB Try.prog 63 1 = true := by kernel_rfl
theorem zer5 : (Try.prog.info? 5).bind (·.zero) = some (.int .u8 0) := by kernel_rfl
structure Chg where
  key : ByteArray
  was : Bool
  is : Bool
  old : ByteArray
  new : ByteArray
  next : Int
def encC (x : Chg) : List Value := [.string x.key, .bool x.was, .bool x.is, .string x.old, .string x.new, .int .i64 x.next]
theorem EncC : Enc encC 6 := ⟨fun _ => rfl, fun _ => rfl⟩
structure Ent where
  lsn : Int
  chain : Int
  la : Option Addr
  lc : Nat
  ch : List Chg
def encEn (x : Ent) : List Value := [.int .i64 x.lsn, .int .i64 x.chain, .slice x.la x.ch.length x.lc]
theorem EncEn : Enc encEn 3 := ⟨fun _ => rfl, fun _ => rfl⟩
def DeepE (hi : Nat) (w : World) (l : List Ent) : Prop := ∀ y ∈ l, Sli 0 0 hi w y.la (fl encC y.ch)
section
variable {hi : Nat} {w w' : World} {l : List Ent}
theorem DeepE.gb (h : DeepE hi w l) (hg : w.grownBy w' none) : DeepE hi w' l := fun y hy => (h y hy).gb hg
theorem DeepE.old {g : Nat} (h : DeepE hi w l) (hg : w.grownBy w' (some g)) (hr : hi ≤ g) : DeepE hi w' l := fun y hy => (h y hy).old hg hr
theorem DeepE.own {base t sz m : Nat} {v : Value} {us : List Value} (h : DeepE hi w l) (ho : w.ownsRow base t sz v m us) (hb : hi ≤ base) (hg : w.grownBy w' v.ownBlock) : DeepE hi w' l := fun y hy => (h y hy).grown hg (fun k hk => .inr (Nat.le_trans hb (World.ownsRow.lt ho k hk).1))
theorem DeepE.getL (h : DeepE hi w l) {i : Nat} (hi' : i < l.length) : Sli 0 0 hi w l[i].la (fl encC l[i].ch) := h _ (List.getElem_mem _)
theorem DeepE.top (h : DeepE hi w l) : DeepE w.heap.size w l := fun y hy => (h y hy).top
end
def GoodEn (W : World) (y : Ent) : Prop := Sli 0 0 W.heap.size W y.la (fl encC y.ch)
def encStr (x : ByteArray) : List Value := [.string x]
theorem EncStr : Enc encStr 1 := ⟨fun _ => rfl, fun _ => rfl⟩
def zC : Chg := ⟨⟨#[]⟩, false, false, ⟨#[]⟩, ⟨#[]⟩, 0⟩
def Rt (c : Chg) : Prop := 1 ≤ c.key.size ∧ c.key.size ≤ 24 ∧ c.old.size ≤ 128 ∧ c.new.size ≤ 128 ∧ (c.was = true ∨ c.old = ⟨#[]⟩) ∧ (c.is = true ∨ c.new = ⟨#[]⟩) ∧ 0 ≤ c.next ∧ c.next ≤ 2147483647
instance (c : Chg) : Decidable (Rt c) := by unfold Rt; infer_instance
/-- A field, if it is wanted and there was no error: its text, the error, what is behind. -/
def decT (e : Int) (wanted : Bool) (bs : List UInt8) : ByteArray × Int × List UInt8 := if e ≠ 0 ∨ wanted = false then (⟨#[]⟩, e, bs) else (⟨(fget bs).1.toArray⟩, (fget bs).2.2, bs.drop (fget bs).2.1)
def fin (c : Chg) (e : Int) (bs : List UInt8) : Chg × Int :=
  if e ≠ 0 then (zC, e) else if (vget bs).2.2 ≠ 0 then (zC, (vget bs).2.2)
  else if (vget bs).2.1 < bs.length ∨ ¬ Rt { c with next := ((min (vget bs).1 2147483648 : Nat) : Int) } then (zC, 2) else ({ c with next := ((min (vget bs).1 2147483648 : Nat) : Int) }, 0)
def wasB (b : UInt8) : Bool := decide (b.toNat % 2 = 1)
def isB (b : UInt8) : Bool := decide (1 < b.toNat)
def d1 (bs : List UInt8) : ByteArray × Int × List UInt8 := decT 0 true (bs.drop 1)
def d2 (bs : List UInt8) (wb : Bool) : ByteArray × Int × List UInt8 := decT (d1 bs).2.1 wb (d1 bs).2.2
def d3 (bs : List UInt8) (wb ib : Bool) : ByteArray × Int × List UInt8 := decT (d2 bs wb).2.1 ib (d2 bs wb).2.2
def dec (bs : List UInt8) : Chg × Int :=
  if h : bs.length = 0 then (zC, 1) else if 4 ≤ (bs[0]).toNat then (zC, 2)
  else fin ⟨(d1 bs).1, wasB bs[0], isB bs[0], (d2 bs (wasB bs[0])).1, (d3 bs (wasB bs[0]) (isB bs[0])).1, 0⟩ (d3 bs (wasB bs[0]) (isB bs[0])).2.1 (d3 bs (wasB bs[0]) (isB bs[0])).2.2
theorem decT_no {e : Int} {wd : Bool} {bs : List UInt8} (h : e ≠ 0 ∨ wd = false) : decT e wd bs = (⟨#[]⟩, e, bs) := if_pos h
theorem decT_go {e : Int} {wd : Bool} {bs : List UInt8} (h : ¬ (e ≠ 0 ∨ wd = false)) : decT e wd bs = (⟨(fget bs).1.toArray⟩, (fget bs).2.2, bs.drop (fget bs).2.1) := if_neg h
theorem decT_len {e : Int} {wd : Bool} {bs : List UInt8} : (decT e wd bs).2.2.length ≤ bs.length := by
  unfold decT
  split
  · exact Nat.le_refl _
  · show (bs.drop _).length ≤ _; rw [List.length_drop]; omega
theorem and1 (c : UInt8) : Value.int .u8 (bitsI .and .u8 (c.toNat : Int) 1) = .int .u8 ((c.toNat % 2 : Nat) : Int) := by
  congr 1
  have hb : ∀ q : Fin 256, (q.val &&& 1) = q.val % 2 := by decide +kernel
  have hc : c.toNat < 256 := c.toNat_lt
  have := bits_and8 (a := c.toNat) (b := 1) hc (by omega)
  have h2 := hb ⟨c.toNat, hc⟩
  simp only [] at h2
  rw [h2] at this
  exact this
theorem and2 (c : UInt8) : Value.int .u8 (bitsI .and .u8 (c.toNat : Int) 2) = .int .u8 ((c.toNat / 2 % 2 * 2 : Nat) : Int) := by
  congr 1
  have hb : ∀ q : Fin 256, (q.val &&& 2) = q.val / 2 % 2 * 2 := by decide +kernel
  have hc : c.toNat < 256 := c.toNat_lt
  have := bits_and8 (a := c.toNat) (b := 2) hc (by omega)
  have h2 := hb ⟨c.toNat, hc⟩
  simp only [] at h2
  rw [h2] at this
  exact this
theorem wasV {c : UInt8} : Value.bool (decide (((c.toNat % 2 : Nat) : Int) ≠ 0)) = .bool (wasB c) := by
  congr 1; unfold wasB; exact decide_eq_decide.2 (by omega)
theorem isV {c : UInt8} (h : c.toNat < 4) : Value.bool (decide (((c.toNat / 2 % 2 * 2 : Nat) : Int) ≠ 0)) = .bool (isB c) := by
  congr 1; unfold isB; exact decide_eq_decide.2 (by omega)
theorem fin_e {c : Chg} {e : Int} {bs : List UInt8} (h : e ≠ 0) : fin c e bs = (zC, e) := if_pos h
theorem fin_v {c : Chg} {e : Int} {bs : List UInt8} (h : ¬ e ≠ 0) (h2 : (vget bs).2.2 ≠ 0) : fin c e bs = (zC, (vget bs).2.2) := by unfold fin; rw [if_neg h, if_pos h2]
theorem fin_b {c : Chg} {e : Int} {bs : List UInt8} (h : ¬ e ≠ 0) (h2 : ¬ (vget bs).2.2 ≠ 0) (h3 : (vget bs).2.1 < bs.length ∨ ¬ Rt { c with next := ((min (vget bs).1 2147483648 : Nat) : Int) }) : fin c e bs = (zC, 2) := by unfold fin; rw [if_neg h, if_neg h2, if_pos h3]
theorem fin_g {c : Chg} {e : Int} {bs : List UInt8} (h : ¬ e ≠ 0) (h2 : ¬ (vget bs).2.2 ≠ 0) (h3 : ¬ ((vget bs).2.1 < bs.length ∨ ¬ Rt { c with next := ((min (vget bs).1 2147483648 : Nat) : Int) })) : fin c e bs = ({ c with next := ((min (vget bs).1 2147483648 : Nat) : Int) }, 0) := by unfold fin; rw [if_neg h, if_neg h2, if_neg h3]
theorem dec_0 : dec [] = (zC, 1) := rfl
theorem dec_b {bs : List UInt8} (h : ¬ bs.length = 0) (h2 : 4 ≤ (bs[0]'(by omega)).toNat) : dec bs = (zC, 2) := by unfold dec; rw [dif_neg h, if_pos h2]
theorem dec_f {bs : List UInt8} (h : ¬ bs.length = 0) (h2 : ¬ 4 ≤ (bs[0]'(by omega)).toNat) : dec bs = fin ⟨(d1 bs).1, wasB (bs[0]'(by omega)), isB (bs[0]'(by omega)), (d2 bs (wasB (bs[0]'(by omega)))).1, (d3 bs (wasB (bs[0]'(by omega))) (isB (bs[0]'(by omega)))).1, 0⟩ (d3 bs (wasB (bs[0]'(by omega))) (isB (bs[0]'(by omega)))).2.1 (d3 bs (wasB (bs[0]'(by omega))) (isB (bs[0]'(by omega)))).2.2 := by unfold dec; rw [dif_neg h, if_neg h2]
theorem varint_Get {w : World} {t1 lo hi : Nat} {A : Option Addr} {c : Nat} {bs : List UInt8} (hS : Sli t1 lo hi w A (fl encB bs)) (hb : bs.length ≤ 140737488355328) :
    Runs Try.prog 61 #[.slice A bs.length c] w (fun v w' => w.grownBy w' none ∧ v = .tuple #[.int .u64 ((vget bs).1 : Int), .int .i64 ((vget bs).2.1 : Int), .int .i64 (vget bs).2.2]) := by
 have hB := gb_refl w none
 replace hS := hS.top
 refine enter Try.func61 Try.ntmps61 rfl rfl ?_
 refine C_seq (C_reg rfl ?_)
 refine L_run (R_assign rfl) rfl ?_
 refine L_run (R_assign rfl) rfl ?_
 refine L_run (R_assign rfl) rfl ?_
 refine L_nil (N_then (C_seq (C_reg rfl ?_)))
 refine L_run (R_assign rfl) rfl ?_
 refine L_nil (N_then (C_seq (C_seq (C_reg rfl ?_))))
 refine L_run (R_move rfl) rfl ?_
 refine L_run (R_lenSl rfl slc63) rfl ?_
 refine L_run (R_move rfl) rfl ?_
 refine L_nil (N_then (C_block ?_))
 refine C_loop (fun m_ a_ w_ => ∃ (σ_ : Nat → Value) (k : Nat) (n : Nat), a_ = Ac 41 σ_ [] [(0, .slice A bs.length c), (5, .int .u64 (n : Int)), (8, .slice A bs.length c), (9, .int .i64 (bs.length : Int)), (10, .int .i64 (k : Int))] ∧ w.grownBy w_ none ∧ Sli t1 lo w.heap.size w_ A (fl encB bs) ∧ (k ≤ bs.length) ∧ (k ≤ 9) ∧ (n < 128 ^ k) ∧ (vgo k n (bs.drop k) = vget bs) ∧ bs.length - k = m_) (bs.length - 0) ?_ ?_
 ·exact ⟨_, 0, 0, Ac_frg ⟨rfl, (agr rfl (by first | rfl | (congr 1; omega) | (congr 1 <;> omega))), rfl, rfl, (agr rfl (by first | rfl | (congr 1; omega) | (congr 1 <;> omega))), trivial⟩, hB, hS, (by omega), (by omega), (by omega), (by rw [List.drop_zero]; rfl), rfl⟩
 ·clear hB
  clear hS
  rintro m_ a_ w1 ⟨σ_, k, n, rfl, hB, hS, hk, h9, hn, hv, rfl⟩
  refine C_seq (C_reg rfl ?_)
  refine L_run (R_lss rfl rfl) rfl ?_
  refine L_nil (N_then (C_seq ?_))
  refine C_if rfl (fun h1 => ?_) (fun h1 => ?_)
  ·refine C_skip (N_then (C_seq (C_block (C_seq (C_reg rfl ?_)))))
   refine L_run (R_move rfl) rfl ?_
   have hl1 : k < bs.length := by first | omega | (simp; omega)
   refine T_index (xs := bs) (i := k) EncB rfl rfl (by first | rfl | omega) slc63 hl1 hS rfl ?_
   intro g1 o1 ha1
   refine L_run (R_load1 rfl scl5 (ha1 0 _ rfl)) rfl ?_
   refine L_run (R_assign rfl) rfl ?_
   refine L_run (R_assign rfl) rfl ?_
   refine L_nil (N_then (C_seq (C_seq (C_reg rfl ?_))))
   refine L_run (R_move rfl) rfl ?_
   refine L_run (R_eql rfl rfl) rfl ?_
   refine L_run (R_move rfl) rfl ?_
   refine L_splitD (p := (k : Int) = 9) (fun h2 => ?_) (fun h2 => ?_)
   ·refine L_yes rfl rfl rfl (decide_eq_true h2) ?_
    refine L_run (R_move rfl) rfl ?_
    refine L_yes rfl rfl rfl (decide_eq_true h2) ?_
    refine L_run (R_gtr rfl rfl) rfl ?_
    refine L_run (R_pickT rfl (decide_eq_true h2) rfl) rfl ?_
    refine L_nil (N_then ?_)
    refine C_if rfl (fun h3 => ?_) (fun h3 => ?_)
    ·refine C_seq (C_reg rfl ?_)
     refine L_run (R_assign rfl) rfl ?_
     refine L_run (R_assign rfl) rfl ?_
     refine L_run (R_assign rfl) rfl ?_
     refine L_nil (N_then (C_ret (R_then (R_in (R_then (R_then (R_in (R_then ?_))))))))
     refine ret3 Try.results61 rfl rfl rfl ?_
     first
       | (exfalso; omega)
       | (have e_ : vget bs = (0, 0, 4) := by (rw [← hv, List.drop_eq_getElem_cons hl1, vgo]; first | rw [if_pos (by omega)] | rw [if_neg (by omega), if_pos (by omega), if_pos (by omega)] | rw [if_neg (by omega), if_pos (by omega), if_neg (by omega)])
          rw [e_]
          exact ⟨hB, rfl⟩)
    ·refine C_skip (N_then (C_seq (C_reg rfl ?_)))
     refine L_run (R_move rfl) rfl ?_
     refine L_run (R_move rfl) rfl ?_
     refine L_run (R_eqv (R_and rfl rfl) (v' := .int .u8 ((bs[k].toNat % 128 : Nat) : Int)) (and127 _)) rfl ?_
     refine L_run (R_eqv (R_conv rfl any5 int116) (v' := .int .u64 ((bs[k].toNat % 128 : Nat) : Int)) (congrArg _ (w64n (by omega)))) rfl ?_
     refine L_run (R_move rfl) rfl ?_
     refine L_run (R_mul64 rfl rfl (by omega)) rfl ?_
     refine L_run (R_eqv (R_shl rfl rfl (by first | decide | omega)) (v' := .int .u64 ((bs[k].toNat % 128 * 128 ^ k : Nat) : Int)) (shl7 h9 (by have := vfit hn h9 (c := bs[k]) (by omega); omega))) rfl ?_
     refine L_run (R_eqv (R_or rfl rfl) (v' := .int .u64 ((n + bs[k].toNat % 128 * 128 ^ k : Nat) : Int)) (or_add hn (vfit hn h9 (by omega)))) rfl ?_
     refine L_run (R_assign rfl) rfl ?_
     refine L_nil (N_then (C_seq (C_reg rfl ?_)))
     refine L_run (R_move rfl) rfl ?_
     refine L_run (R_lss rfl rfl) rfl ?_
     refine L_nil (N_then ?_)
     refine C_if rfl (fun h4 => ?_) (fun h4 => ?_)
     ·refine C_seq (C_seq (C_reg rfl ?_))
      refine L_run (R_move rfl) rfl ?_
      refine L_run (R_eql rfl rfl) rfl ?_
      refine L_run (R_move rfl) rfl ?_
      refine L_splitD (p := ((bs[k]).toNat : Int) = 0) (fun h5 => ?_) (fun h5 => ?_)
      ·refine L_yes rfl rfl rfl (decide_eq_true h5) ?_
       refine L_run (R_move rfl) rfl ?_
       refine L_yes rfl rfl rfl (decide_eq_true h5) ?_
       refine L_run (R_gtr rfl rfl) rfl ?_
       refine L_run (R_pickT rfl (decide_eq_true h5) rfl) rfl ?_
       refine L_nil (N_then ?_)
       refine C_if rfl (fun h6 => ?_) (fun h6 => ?_)
       ·refine C_seq (C_reg rfl ?_)
        refine L_run (R_assign rfl) rfl ?_
        refine L_run (R_assign rfl) rfl ?_
        refine L_run (R_assign rfl) rfl ?_
        refine L_nil (N_then (C_ret (R_then (R_in (R_then (R_then (R_in (R_then ?_))))))))
        refine ret3 Try.results61 rfl rfl rfl ?_
        first
          | (exfalso; omega)
          | (have e_ : vget bs = (0, 0, 2) := by (rw [← hv, List.drop_eq_getElem_cons hl1, vgo]; first | rw [if_pos (by omega)] | rw [if_neg (by omega), if_pos (by omega), if_pos (by omega)] | rw [if_neg (by omega), if_pos (by omega), if_neg (by omega)])
             rw [e_]
             exact ⟨hB, rfl⟩)
       ·refine C_skip (N_then (C_seq (C_reg rfl ?_)))
        refine L_run (R_move rfl) rfl ?_
        refine L_run (R_move rfl) rfl ?_
        refine L_run (R_add64 rfl rfl (by omega)) rfl ?_
        refine L_run (R_assign rfl) rfl ?_
        refine L_run (R_assign rfl) rfl ?_
        refine L_run (R_assign rfl) rfl ?_
        refine L_nil (N_then (C_ret (R_in (R_then (R_then (R_in (R_then ?_)))))))
        refine ret3 Try.results61 rfl rfl rfl ?_
        first
          | (exfalso; omega)
          | (have e_ : vget bs = ((n + bs[k].toNat % 128 * 128 ^ k), (k + 1), 0) := by (rw [← hv, List.drop_eq_getElem_cons hl1, vgo]; first | rw [if_pos (by omega)] | rw [if_neg (by omega), if_pos (by omega), if_pos (by omega)] | rw [if_neg (by omega), if_pos (by omega), if_neg (by omega)])
             rw [e_]
             exact ⟨hB, rfl⟩)
      ·refine L_no rfl rfl rfl (decide_eq_false h5) rfl ?_
       refine L_no rfl rfl rfl (decide_eq_false h5) rfl ?_
       refine L_run (R_pickF rfl (decide_eq_false h5) rfl) rfl ?_
       refine L_nil (N_then (C_condF rfl rfl (C_skip (N_then (C_seq (C_reg rfl ?_))))))
       refine L_run (R_move rfl) rfl ?_
       refine L_run (R_move rfl) rfl ?_
       refine L_run (R_add64 rfl rfl (by omega)) rfl ?_
       refine L_run (R_assign rfl) rfl ?_
       refine L_run (R_assign rfl) rfl ?_
       refine L_run (R_assign rfl) rfl ?_
       refine L_nil (N_then (C_ret (R_in (R_then (R_then (R_in (R_then ?_)))))))
       refine ret3 Try.results61 rfl rfl rfl ?_
       first
         | (exfalso; omega)
         | (have e_ : vget bs = ((n + bs[k].toNat % 128 * 128 ^ k), (k + 1), 0) := by (rw [← hv, List.drop_eq_getElem_cons hl1, vgo]; first | rw [if_pos (by omega)] | rw [if_neg (by omega), if_pos (by omega), if_pos (by omega)] | rw [if_neg (by omega), if_pos (by omega), if_neg (by omega)])
            rw [e_]
            exact ⟨hB, rfl⟩)
     ·refine C_skip (N_in (N_then (C_reg rfl ?_)))
      refine L_run (R_add64 rfl rfl (by omega)) rfl ?_
      refine L_run (R_move rfl) rfl ?_
      refine L_nil (N_then ?_)
      exact ⟨bs.length - (k + 1), by omega, _, (k + 1), (n + bs[k].toNat % 128 * 128 ^ k), Ac_frg ⟨rfl, (agr rfl (by first | rfl | (congr 1; omega) | (congr 1 <;> omega))), rfl, rfl, (agr rfl (by first | rfl | (congr 1; omega) | (congr 1 <;> omega))), trivial⟩, hB, hS, (by omega), (by omega), (vstep hn), (by rw [← hv, List.drop_eq_getElem_cons hl1, vgo, if_neg (by omega), if_neg (by omega)]), rfl⟩
   ·refine L_no rfl rfl rfl (decide_eq_false h2) rfl ?_
    refine L_no rfl rfl rfl (decide_eq_false h2) rfl ?_
    refine L_run (R_pickF rfl (decide_eq_false h2) rfl) rfl ?_
    refine L_nil (N_then (C_condF rfl rfl (C_skip (N_then (C_seq (C_reg rfl ?_))))))
    refine L_run (R_move rfl) rfl ?_
    refine L_run (R_move rfl) rfl ?_
    refine L_run (R_eqv (R_and rfl rfl) (v' := .int .u8 ((bs[k].toNat % 128 : Nat) : Int)) (and127 _)) rfl ?_
    refine L_run (R_eqv (R_conv rfl any5 int116) (v' := .int .u64 ((bs[k].toNat % 128 : Nat) : Int)) (congrArg _ (w64n (by omega)))) rfl ?_
    refine L_run (R_move rfl) rfl ?_
    refine L_run (R_mul64 rfl rfl (by omega)) rfl ?_
    refine L_run (R_eqv (R_shl rfl rfl (by first | decide | omega)) (v' := .int .u64 ((bs[k].toNat % 128 * 128 ^ k : Nat) : Int)) (shl7 h9 (by have := vfit hn h9 (c := bs[k]) (by omega); omega))) rfl ?_
    refine L_run (R_eqv (R_or rfl rfl) (v' := .int .u64 ((n + bs[k].toNat % 128 * 128 ^ k : Nat) : Int)) (or_add hn (vfit hn h9 (by omega)))) rfl ?_
    refine L_run (R_assign rfl) rfl ?_
    refine L_nil (N_then (C_seq (C_reg rfl ?_)))
    refine L_run (R_move rfl) rfl ?_
    refine L_run (R_lss rfl rfl) rfl ?_
    refine L_nil (N_then ?_)
    refine C_if rfl (fun h7 => ?_) (fun h7 => ?_)
    ·refine C_seq (C_seq (C_reg rfl ?_))
     refine L_run (R_move rfl) rfl ?_
     refine L_run (R_eql rfl rfl) rfl ?_
     refine L_run (R_move rfl) rfl ?_
     refine L_splitD (p := ((bs[k]).toNat : Int) = 0) (fun h8 => ?_) (fun h8 => ?_)
     ·refine L_yes rfl rfl rfl (decide_eq_true h8) ?_
      refine L_run (R_move rfl) rfl ?_
      refine L_yes rfl rfl rfl (decide_eq_true h8) ?_
      refine L_run (R_gtr rfl rfl) rfl ?_
      refine L_run (R_pickT rfl (decide_eq_true h8) rfl) rfl ?_
      refine L_nil (N_then ?_)
      refine C_if rfl (fun h9 => ?_) (fun h9 => ?_)
      ·refine C_seq (C_reg rfl ?_)
       refine L_run (R_assign rfl) rfl ?_
       refine L_run (R_assign rfl) rfl ?_
       refine L_run (R_assign rfl) rfl ?_
       refine L_nil (N_then (C_ret (R_then (R_in (R_then (R_then (R_in (R_then ?_))))))))
       refine ret3 Try.results61 rfl rfl rfl ?_
       first
         | (exfalso; omega)
         | (have e_ : vget bs = (0, 0, 2) := by (rw [← hv, List.drop_eq_getElem_cons hl1, vgo]; first | rw [if_pos (by omega)] | rw [if_neg (by omega), if_pos (by omega), if_pos (by omega)] | rw [if_neg (by omega), if_pos (by omega), if_neg (by omega)])
            rw [e_]
            exact ⟨hB, rfl⟩)
      ·refine C_skip (N_then (C_seq (C_reg rfl ?_)))
       refine L_run (R_move rfl) rfl ?_
       refine L_run (R_move rfl) rfl ?_
       refine L_run (R_add64 rfl rfl (by omega)) rfl ?_
       refine L_run (R_assign rfl) rfl ?_
       refine L_run (R_assign rfl) rfl ?_
       refine L_run (R_assign rfl) rfl ?_
       refine L_nil (N_then (C_ret (R_in (R_then (R_then (R_in (R_then ?_)))))))
       refine ret3 Try.results61 rfl rfl rfl ?_
       first
         | (exfalso; omega)
         | (have e_ : vget bs = ((n + bs[k].toNat % 128 * 128 ^ k), (k + 1), 0) := by (rw [← hv, List.drop_eq_getElem_cons hl1, vgo]; first | rw [if_pos (by omega)] | rw [if_neg (by omega), if_pos (by omega), if_pos (by omega)] | rw [if_neg (by omega), if_pos (by omega), if_neg (by omega)])
            rw [e_]
            exact ⟨hB, rfl⟩)
     ·refine L_no rfl rfl rfl (decide_eq_false h8) rfl ?_
      refine L_no rfl rfl rfl (decide_eq_false h8) rfl ?_
      refine L_run (R_pickF rfl (decide_eq_false h8) rfl) rfl ?_
      refine L_nil (N_then (C_condF rfl rfl (C_skip (N_then (C_seq (C_reg rfl ?_))))))
      refine L_run (R_move rfl) rfl ?_
      refine L_run (R_move rfl) rfl ?_
      refine L_run (R_add64 rfl rfl (by omega)) rfl ?_
      refine L_run (R_assign rfl) rfl ?_
      refine L_run (R_assign rfl) rfl ?_
      refine L_run (R_assign rfl) rfl ?_
      refine L_nil (N_then (C_ret (R_in (R_then (R_then (R_in (R_then ?_)))))))
      refine ret3 Try.results61 rfl rfl rfl ?_
      first
        | (exfalso; omega)
        | (have e_ : vget bs = ((n + bs[k].toNat % 128 * 128 ^ k), (k + 1), 0) := by (rw [← hv, List.drop_eq_getElem_cons hl1, vgo]; first | rw [if_pos (by omega)] | rw [if_neg (by omega), if_pos (by omega), if_pos (by omega)] | rw [if_neg (by omega), if_pos (by omega), if_neg (by omega)])
           rw [e_]
           exact ⟨hB, rfl⟩)
    ·refine C_skip (N_in (N_then (C_reg rfl ?_)))
     refine L_run (R_add64 rfl rfl (by omega)) rfl ?_
     refine L_run (R_move rfl) rfl ?_
     refine L_nil (N_then ?_)
     exact ⟨bs.length - (k + 1), by omega, _, (k + 1), (n + bs[k].toNat % 128 * 128 ^ k), Ac_frg ⟨rfl, (agr rfl (by first | rfl | (congr 1; omega) | (congr 1 <;> omega))), rfl, rfl, (agr rfl (by first | rfl | (congr 1; omega) | (congr 1 <;> omega))), trivial⟩, hB, hS, (by omega), (by omega), (vstep hn), (by rw [← hv, List.drop_eq_getElem_cons hl1, vgo, if_neg (by omega), if_neg (by omega)]), rfl⟩
  ·refine C_exit (X_then (X_then (X_hit (N_then (C_seq (C_reg rfl ?_))))))
   refine L_run (R_assign rfl) rfl ?_
   refine L_run (R_assign rfl) rfl ?_
   refine L_run (R_assign rfl) rfl ?_
   refine L_nil (N_then (C_ret ?_))
   refine ret3 Try.results61 rfl rfl rfl ?_
   first
     | (exfalso; omega)
     | (have e_ : vget bs = (0, 0, 1) := by rw [← hv, List.drop_of_length_le (by omega), vgo]
        rw [e_]
        exact ⟨hB, rfl⟩)

theorem ref02_Get {w : World} {t1 lo hi : Nat} {A : Option Addr} {c : Nat} {bs : List UInt8} (hS : Sli t1 lo hi w A (fl encB bs)) (hb : bs.length ≤ 140737488355328) :
    Runs Try.prog 59 #[.slice A bs.length c] w (fun v w' => w.grownBy w' none ∧ v = .tuple #[.int .u64 ((vget bs).1 : Int), .int .i64 ((vget bs).2.1 : Int), .int .i64 (vget bs).2.2]) := by
 have hB := gb_refl w none
 replace hS := hS.top
 refine enter Try.func59 Try.ntmps59 rfl rfl ?_
 refine C_seq (C_reg rfl ?_)
 refine L_run (R_assign rfl) rfl ?_
 refine L_run (R_assign rfl) rfl ?_
 refine L_run (R_assign rfl) rfl ?_
 refine L_nil (N_then (C_seq (C_reg rfl ?_)))
 refine L_run (R_assign rfl) rfl ?_
 refine L_nil (N_then (C_seq (C_reg rfl ?_)))
 refine L_run (R_assign rfl) rfl ?_
 refine L_nil (N_then (C_seq (C_seq (C_reg rfl ?_))))
 refine L_run (R_assign rfl) rfl ?_
 refine L_nil (N_then (C_block ?_))
 refine C_loop (fun m_ a_ w_ => ∃ (σ_ : Nat → Value) (k : Nat) (n : Nat), a_ = Ac 49 σ_ [] [(0, .slice A bs.length c), (5, .int .u64 (n : Int)), (6, .int .u64 (IntKind.u64.wrap ((128 ^ k : Nat) : Int))), (7, .int .i64 (k : Int))] ∧ w.grownBy w_ none ∧ Sli t1 lo w.heap.size w_ A (fl encB bs) ∧ (k ≤ bs.length) ∧ (k ≤ 9) ∧ (n < 128 ^ k) ∧ (vgo k n (bs.drop k) = vget bs) ∧ bs.length - k = m_) (bs.length - 0) ?_ ?_
 ·exact ⟨_, 0, 0, Ac_frg ⟨rfl, (agr rfl (by first | rfl | (congr 1; omega) | (congr 1 <;> omega))), (agr rfl (by first | rfl | (congr 1; omega) | (congr 1 <;> omega))), (agr rfl (by first | rfl | (congr 1; omega) | (congr 1 <;> omega))), trivial⟩, hB, hS, (by omega), (by omega), (by omega), (by rw [List.drop_zero]; rfl), rfl⟩
 ·clear hB
  clear hS
  rintro m_ a_ w1 ⟨σ_, k, n, rfl, hB, hS, hk, h9, hn, hv, rfl⟩
  refine C_seq (C_seq (C_reg rfl ?_))
  refine L_run (R_move rfl) rfl ?_
  refine L_run (R_move rfl) rfl ?_
  refine L_run (R_lenSl rfl slc63) rfl ?_
  refine L_run (R_lss rfl rfl) rfl ?_
  refine L_nil (N_then ?_)
  refine C_if rfl (fun h1 => ?_) (fun h1 => ?_)
  ·refine C_skip (N_then (C_seq (C_block (C_seq (C_reg rfl ?_)))))
   refine L_run (R_move rfl) rfl ?_
   refine L_run (R_move rfl) rfl ?_
   have hl1 : k < bs.length := by first | omega | (simp; omega)
   refine T_index (xs := bs) (i := k) EncB rfl rfl (by first | rfl | omega) slc63 hl1 hS rfl ?_
   intro g1 o1 ha1
   refine L_run (R_load1 rfl scl5 (ha1 0 _ rfl)) rfl ?_
   refine L_run (R_eqv (R_conv rfl any5 int116) (v' := .int .u64 (bs[k].toNat : Int)) (congrArg _ (w64n (by have := bs[k].toNat_lt; omega)))) rfl ?_
   refine L_run (R_assign rfl) rfl ?_
   refine L_nil (N_then (C_seq (C_seq (C_reg rfl ?_))))
   refine L_run (R_move rfl) rfl ?_
   refine L_run (R_eql rfl rfl) rfl ?_
   refine L_run (R_move rfl) rfl ?_
   refine L_splitD (p := (k : Int) = 9) (fun h2 => ?_) (fun h2 => ?_)
   ·refine L_yes rfl rfl rfl (decide_eq_true h2) ?_
    refine L_run (R_move rfl) rfl ?_
    refine L_yes rfl rfl rfl (decide_eq_true h2) ?_
    refine L_run (R_gtr rfl rfl) rfl ?_
    refine L_run (R_pickT rfl (decide_eq_true h2) rfl) rfl ?_
    refine L_nil (N_then ?_)
    refine C_if rfl (fun h3 => ?_) (fun h3 => ?_)
    ·refine C_seq (C_reg rfl ?_)
     refine L_run (R_assign rfl) rfl ?_
     refine L_run (R_assign rfl) rfl ?_
     refine L_run (R_assign rfl) rfl ?_
     refine L_nil (N_then (C_ret (R_then (R_in (R_then (R_then (R_in (R_then ?_))))))))
     refine ret3 Try.results59 rfl rfl rfl ?_
     first
       | (exfalso; omega)
       | (have e_ : vget bs = (0, 0, 4) := by (rw [← hv, List.drop_eq_getElem_cons hl1, vgo]; first | rw [if_pos (by omega)] | rw [if_neg (by omega), if_pos (by omega), if_pos (by omega)] | rw [if_neg (by omega), if_pos (by omega), if_neg (by omega)])
          rw [e_]
          exact ⟨hB, rfl⟩)
    ·refine C_skip (N_then (C_seq (C_reg rfl ?_)))
     refine L_run (R_move rfl) rfl ?_
     refine L_run (R_move rfl) rfl ?_
     refine L_run (R_eqv (R_rem rfl rfl (by first | decide | omega)) (v' := .int .u64 ((bs[k].toNat % 128 : Nat) : Int)) (rem128 _)) rfl ?_
     refine L_run (R_move rfl) rfl ?_
     refine L_run (R_eqv (R_mul rfl rfl) (v' := .int .u64 ((bs[k].toNat % 128 * 128 ^ k : Nat) : Int)) (mul_w (vfit hn h9 (c := bs[k]) (by omega)))) rfl ?_
     refine L_run (R_eqv (R_add rfl rfl) (v' := .int .u64 ((n + bs[k].toNat % 128 * 128 ^ k : Nat) : Int)) (add_w (vfit hn h9 (c := bs[k]) (by omega)))) rfl ?_
     refine L_run (R_assign rfl) rfl ?_
     refine L_nil (N_then (C_seq (C_reg rfl ?_)))
     refine L_run (R_move rfl) rfl ?_
     refine L_run (R_eqv (R_mul rfl rfl) (v' := .int .u64 (IntKind.u64.wrap ((128 ^ (k + 1) : Nat) : Int))) (mul128_w k)) rfl ?_
     refine L_run (R_assign rfl) rfl ?_
     refine L_nil (N_then (C_seq (C_seq (C_reg rfl ?_))))
     refine L_run (R_move rfl) rfl ?_
     refine L_run (R_lss rfl rfl) rfl ?_
     refine L_run (R_move rfl) rfl ?_
     refine L_splitD (p := (bs[k].toNat : Int) < 128) (fun h4 => ?_) (fun h4 => ?_)
     ·refine L_yes rfl rfl rfl (decide_eq_true h4) ?_
      refine L_run (R_move rfl) rfl ?_
      refine L_yes rfl rfl rfl (decide_eq_true h4) ?_
      refine L_run (R_eql rfl rfl) rfl ?_
      refine L_run (R_pickT rfl (decide_eq_true h4) rfl) rfl ?_
      refine L_run (R_move rfl) rfl ?_
      refine L_splitD (p := (bs[k].toNat : Int) = 0) (fun h5 => ?_) (fun h5 => ?_)
      ·refine L_yes rfl rfl rfl (decide_eq_true h5) ?_
       refine L_run (R_move rfl) rfl ?_
       refine L_yes rfl rfl rfl (decide_eq_true h5) ?_
       refine L_run (R_gtr rfl rfl) rfl ?_
       refine L_run (R_pickT rfl (decide_eq_true h5) rfl) rfl ?_
       refine L_nil (N_then ?_)
       refine C_if rfl (fun h6 => ?_) (fun h6 => ?_)
       ·refine C_seq (C_reg rfl ?_)
        refine L_run (R_assign rfl) rfl ?_
        refine L_run (R_assign rfl) rfl ?_
        refine L_run (R_assign rfl) rfl ?_
        refine L_nil (N_then (C_ret (R_then (R_in (R_then (R_then (R_in (R_then ?_))))))))
        refine ret3 Try.results59 rfl rfl rfl ?_
        first
          | (exfalso; omega)
          | (have e_ : vget bs = (0, 0, 2) := by (rw [← hv, List.drop_eq_getElem_cons hl1, vgo]; first | rw [if_pos (by omega)] | rw [if_neg (by omega), if_pos (by omega), if_pos (by omega)] | rw [if_neg (by omega), if_pos (by omega), if_neg (by omega)])
             rw [e_]
             exact ⟨hB, rfl⟩)
       ·refine C_skip (N_then (C_seq (C_reg rfl ?_)))
        refine L_run (R_move rfl) rfl ?_
        refine L_run (R_lss rfl rfl) rfl ?_
        refine L_nil (N_then (C_condT rfl (decide_eq_true h4) (C_seq (C_reg rfl ?_))))
        refine L_run (R_move rfl) rfl ?_
        refine L_run (R_move rfl) rfl ?_
        refine L_run (R_add64 rfl rfl (by omega)) rfl ?_
        refine L_run (R_assign rfl) rfl ?_
        refine L_run (R_assign rfl) rfl ?_
        refine L_run (R_assign rfl) rfl ?_
        refine L_nil (N_then (C_ret (R_in (R_then (R_then (R_in (R_then ?_)))))))
        refine ret3 Try.results59 rfl rfl rfl ?_
        first
          | (exfalso; omega)
          | (have e_ : vget bs = ((n + bs[k].toNat % 128 * 128 ^ k), (k + 1), 0) := by (rw [← hv, List.drop_eq_getElem_cons hl1, vgo]; first | rw [if_pos (by omega)] | rw [if_neg (by omega), if_pos (by omega), if_pos (by omega)] | rw [if_neg (by omega), if_pos (by omega), if_neg (by omega)])
             rw [e_]
             exact ⟨hB, rfl⟩)
      ·refine L_no rfl rfl rfl (decide_eq_false h5) rfl ?_
       refine L_no rfl rfl rfl (decide_eq_false h5) rfl ?_
       refine L_run (R_pickF rfl (decide_eq_false h5) rfl) rfl ?_
       refine L_nil (N_then (C_condF rfl rfl (C_skip (N_then (C_seq (C_reg rfl ?_))))))
       refine L_run (R_move rfl) rfl ?_
       refine L_run (R_lss rfl rfl) rfl ?_
       refine L_nil (N_then (C_condT rfl (decide_eq_true h4) (C_seq (C_reg rfl ?_))))
       refine L_run (R_move rfl) rfl ?_
       refine L_run (R_move rfl) rfl ?_
       refine L_run (R_add64 rfl rfl (by omega)) rfl ?_
       refine L_run (R_assign rfl) rfl ?_
       refine L_run (R_assign rfl) rfl ?_
       refine L_run (R_assign rfl) rfl ?_
       refine L_nil (N_then (C_ret (R_in (R_then (R_then (R_in (R_then ?_)))))))
       refine ret3 Try.results59 rfl rfl rfl ?_
       first
         | (exfalso; omega)
         | (have e_ : vget bs = ((n + bs[k].toNat % 128 * 128 ^ k), (k + 1), 0) := by (rw [← hv, List.drop_eq_getElem_cons hl1, vgo]; first | rw [if_pos (by omega)] | rw [if_neg (by omega), if_pos (by omega), if_pos (by omega)] | rw [if_neg (by omega), if_pos (by omega), if_neg (by omega)])
            rw [e_]
            exact ⟨hB, rfl⟩)
     ·refine L_no rfl rfl rfl (decide_eq_false h4) rfl ?_
      refine L_no rfl rfl rfl (decide_eq_false h4) rfl ?_
      refine L_run (R_pickF rfl (decide_eq_false h4) rfl) rfl ?_
      refine L_run (R_move rfl) rfl ?_
      refine L_no rfl rfl rfl rfl rfl ?_
      refine L_no rfl rfl rfl rfl rfl ?_
      refine L_run (R_pickF rfl rfl rfl) rfl ?_
      refine L_nil (N_then (C_condF rfl rfl (C_skip (N_then (C_seq (C_reg rfl ?_))))))
      refine L_run (R_move rfl) rfl ?_
      refine L_run (R_lss rfl rfl) rfl ?_
      refine L_nil (N_then (C_condF rfl (decide_eq_false h4) (C_skip (N_in (N_then (C_reg rfl ?_))))))
      refine L_run (R_move rfl) rfl ?_
      refine L_run (R_add64 rfl rfl (by omega)) rfl ?_
      refine L_run (R_assign rfl) rfl ?_
      refine L_nil (N_then ?_)
      exact ⟨bs.length - (k + 1), by omega, _, (k + 1), (n + bs[k].toNat % 128 * 128 ^ k), Ac_frg ⟨rfl, (agr rfl (by first | rfl | (congr 1; omega) | (congr 1 <;> omega))), rfl, (agr rfl (by first | rfl | (congr 1; omega) | (congr 1 <;> omega))), trivial⟩, hB, hS, (by omega), (by omega), (vstep hn), (by rw [← hv, List.drop_eq_getElem_cons hl1, vgo, if_neg (by omega), if_neg (by omega)]), rfl⟩
   ·refine L_no rfl rfl rfl (decide_eq_false h2) rfl ?_
    refine L_no rfl rfl rfl (decide_eq_false h2) rfl ?_
    refine L_run (R_pickF rfl (decide_eq_false h2) rfl) rfl ?_
    refine L_nil (N_then (C_condF rfl rfl (C_skip (N_then (C_seq (C_reg rfl ?_))))))
    refine L_run (R_move rfl) rfl ?_
    refine L_run (R_move rfl) rfl ?_
    refine L_run (R_eqv (R_rem rfl rfl (by first | decide | omega)) (v' := .int .u64 ((bs[k].toNat % 128 : Nat) : Int)) (rem128 _)) rfl ?_
    refine L_run (R_move rfl) rfl ?_
    refine L_run (R_eqv (R_mul rfl rfl) (v' := .int .u64 ((bs[k].toNat % 128 * 128 ^ k : Nat) : Int)) (mul_w (vfit hn h9 (c := bs[k]) (by omega)))) rfl ?_
    refine L_run (R_eqv (R_add rfl rfl) (v' := .int .u64 ((n + bs[k].toNat % 128 * 128 ^ k : Nat) : Int)) (add_w (vfit hn h9 (c := bs[k]) (by omega)))) rfl ?_
    refine L_run (R_assign rfl) rfl ?_
    refine L_nil (N_then (C_seq (C_reg rfl ?_)))
    refine L_run (R_move rfl) rfl ?_
    refine L_run (R_eqv (R_mul rfl rfl) (v' := .int .u64 (IntKind.u64.wrap ((128 ^ (k + 1) : Nat) : Int))) (mul128_w k)) rfl ?_
    refine L_run (R_assign rfl) rfl ?_
    refine L_nil (N_then (C_seq (C_seq (C_reg rfl ?_))))
    refine L_run (R_move rfl) rfl ?_
    refine L_run (R_lss rfl rfl) rfl ?_
    refine L_run (R_move rfl) rfl ?_
    refine L_splitD (p := (bs[k].toNat : Int) < 128) (fun h7 => ?_) (fun h7 => ?_)
    ·refine L_yes rfl rfl rfl (decide_eq_true h7) ?_
     refine L_run (R_move rfl) rfl ?_
     refine L_yes rfl rfl rfl (decide_eq_true h7) ?_
     refine L_run (R_eql rfl rfl) rfl ?_
     refine L_run (R_pickT rfl (decide_eq_true h7) rfl) rfl ?_
     refine L_run (R_move rfl) rfl ?_
     refine L_splitD (p := (bs[k].toNat : Int) = 0) (fun h8 => ?_) (fun h8 => ?_)
     ·refine L_yes rfl rfl rfl (decide_eq_true h8) ?_
      refine L_run (R_move rfl) rfl ?_
      refine L_yes rfl rfl rfl (decide_eq_true h8) ?_
      refine L_run (R_gtr rfl rfl) rfl ?_
      refine L_run (R_pickT rfl (decide_eq_true h8) rfl) rfl ?_
      refine L_nil (N_then ?_)
      refine C_if rfl (fun h9 => ?_) (fun h9 => ?_)
      ·refine C_seq (C_reg rfl ?_)
       refine L_run (R_assign rfl) rfl ?_
       refine L_run (R_assign rfl) rfl ?_
       refine L_run (R_assign rfl) rfl ?_
       refine L_nil (N_then (C_ret (R_then (R_in (R_then (R_then (R_in (R_then ?_))))))))
       refine ret3 Try.results59 rfl rfl rfl ?_
       first
         | (exfalso; omega)
         | (have e_ : vget bs = (0, 0, 2) := by (rw [← hv, List.drop_eq_getElem_cons hl1, vgo]; first | rw [if_pos (by omega)] | rw [if_neg (by omega), if_pos (by omega), if_pos (by omega)] | rw [if_neg (by omega), if_pos (by omega), if_neg (by omega)])
            rw [e_]
            exact ⟨hB, rfl⟩)
      ·refine C_skip (N_then (C_seq (C_reg rfl ?_)))
       refine L_run (R_move rfl) rfl ?_
       refine L_run (R_lss rfl rfl) rfl ?_
       refine L_nil (N_then (C_condT rfl (decide_eq_true h7) (C_seq (C_reg rfl ?_))))
       refine L_run (R_move rfl) rfl ?_
       refine L_run (R_move rfl) rfl ?_
       refine L_run (R_add64 rfl rfl (by omega)) rfl ?_
       refine L_run (R_assign rfl) rfl ?_
       refine L_run (R_assign rfl) rfl ?_
       refine L_run (R_assign rfl) rfl ?_
       refine L_nil (N_then (C_ret (R_in (R_then (R_then (R_in (R_then ?_)))))))
       refine ret3 Try.results59 rfl rfl rfl ?_
       first
         | (exfalso; omega)
         | (have e_ : vget bs = ((n + bs[k].toNat % 128 * 128 ^ k), (k + 1), 0) := by (rw [← hv, List.drop_eq_getElem_cons hl1, vgo]; first | rw [if_pos (by omega)] | rw [if_neg (by omega), if_pos (by omega), if_pos (by omega)] | rw [if_neg (by omega), if_pos (by omega), if_neg (by omega)])
            rw [e_]
            exact ⟨hB, rfl⟩)
     ·refine L_no rfl rfl rfl (decide_eq_false h8) rfl ?_
      refine L_no rfl rfl rfl (decide_eq_false h8) rfl ?_
      refine L_run (R_pickF rfl (decide_eq_false h8) rfl) rfl ?_
      refine L_nil (N_then (C_condF rfl rfl (C_skip (N_then (C_seq (C_reg rfl ?_))))))
      refine L_run (R_move rfl) rfl ?_
      refine L_run (R_lss rfl rfl) rfl ?_
      refine L_nil (N_then (C_condT rfl (decide_eq_true h7) (C_seq (C_reg rfl ?_))))
      refine L_run (R_move rfl) rfl ?_
      refine L_run (R_move rfl) rfl ?_
      refine L_run (R_add64 rfl rfl (by omega)) rfl ?_
      refine L_run (R_assign rfl) rfl ?_
      refine L_run (R_assign rfl) rfl ?_
      refine L_run (R_assign rfl) rfl ?_
      refine L_nil (N_then (C_ret (R_in (R_then (R_then (R_in (R_then ?_)))))))
      refine ret3 Try.results59 rfl rfl rfl ?_
      first
        | (exfalso; omega)
        | (have e_ : vget bs = ((n + bs[k].toNat % 128 * 128 ^ k), (k + 1), 0) := by (rw [← hv, List.drop_eq_getElem_cons hl1, vgo]; first | rw [if_pos (by omega)] | rw [if_neg (by omega), if_pos (by omega), if_pos (by omega)] | rw [if_neg (by omega), if_pos (by omega), if_neg (by omega)])
           rw [e_]
           exact ⟨hB, rfl⟩)
    ·refine L_no rfl rfl rfl (decide_eq_false h7) rfl ?_
     refine L_no rfl rfl rfl (decide_eq_false h7) rfl ?_
     refine L_run (R_pickF rfl (decide_eq_false h7) rfl) rfl ?_
     refine L_run (R_move rfl) rfl ?_
     refine L_no rfl rfl rfl rfl rfl ?_
     refine L_no rfl rfl rfl rfl rfl ?_
     refine L_run (R_pickF rfl rfl rfl) rfl ?_
     refine L_nil (N_then (C_condF rfl rfl (C_skip (N_then (C_seq (C_reg rfl ?_))))))
     refine L_run (R_move rfl) rfl ?_
     refine L_run (R_lss rfl rfl) rfl ?_
     refine L_nil (N_then (C_condF rfl (decide_eq_false h7) (C_skip (N_in (N_then (C_reg rfl ?_))))))
     refine L_run (R_move rfl) rfl ?_
     refine L_run (R_add64 rfl rfl (by omega)) rfl ?_
     refine L_run (R_assign rfl) rfl ?_
     refine L_nil (N_then ?_)
     exact ⟨bs.length - (k + 1), by omega, _, (k + 1), (n + bs[k].toNat % 128 * 128 ^ k), Ac_frg ⟨rfl, (agr rfl (by first | rfl | (congr 1; omega) | (congr 1 <;> omega))), rfl, (agr rfl (by first | rfl | (congr 1; omega) | (congr 1 <;> omega))), trivial⟩, hB, hS, (by omega), (by omega), (vstep hn), (by rw [← hv, List.drop_eq_getElem_cons hl1, vgo, if_neg (by omega), if_neg (by omega)]), rfl⟩
  ·refine C_exit (X_then (X_then (X_hit (N_then (C_seq (C_reg rfl ?_))))))
   refine L_run (R_assign rfl) rfl ?_
   refine L_run (R_assign rfl) rfl ?_
   refine L_run (R_assign rfl) rfl ?_
   refine L_nil (N_then (C_ret ?_))
   refine ret3 Try.results59 rfl rfl rfl ?_
   first
     | (exfalso; omega)
     | (have e_ : vget bs = (0, 0, 1) := by rw [← hv, List.drop_of_length_le (by omega), vgo]
        rw [e_]
        exact ⟨hB, rfl⟩)

theorem field_Get {w : World} {t1 lo hi : Nat} {A : Option Addr} {c : Nat} {bs : List UInt8} (hS : Sli t1 lo hi w A (fl encB bs)) (hb : bs.length ≤ 140737488355328) (hc : bs.length ≤ c) :
    Runs Try.prog 75 #[.slice A bs.length c] w (fun v w' => w.grownBy w' none ∧ ∃ A' c', v = .tuple #[.slice A' (fget bs).1.length c', .int .i64 ((fget bs).2.1 : Int), .int .i64 (fget bs).2.2] ∧ World.ownsRow w' w.heap.size 5 1 (.slice A' (fget bs).1.length c') (fget bs).1.length (fl encB (fget bs).1)) := by
 have hB := gb_refl w none
 obtain ⟨vb1, vb2, vb3, vb4, vb5⟩ := vget_bound bs
 replace hS := hS.top
 refine enter Try.func75 Try.ntmps75 rfl rfl ?_
 refine C_seq (C_reg rfl ?_)
 refine L_run (R_assign rfl) rfl ?_
 refine L_run (R_assign rfl) rfl ?_
 refine L_run (R_assign rfl) rfl ?_
 refine L_nil (N_then (C_seq (C_reg rfl ?_)))
 refine L_run (R_move rfl) rfl ?_
 refine L_call rfl cb61 (varint_Get (bs := bs) hS (by first | omega | (simp; done) | (simp; omega))) rfl ?_
 rintro _ w1 ⟨hs1, rfl⟩
 replace hB := gb_tr hB hs1
 replace hS := hS.gb hs1
 refine L_run (R_move rfl) rfl ?_
 refine L_run (R_extract rfl rfl) rfl ?_
 refine L_run (R_extract rfl rfl) rfl ?_
 refine L_run (R_extract rfl rfl) rfl ?_
 refine L_run (R_assign rfl) rfl ?_
 refine L_run (R_assign rfl) rfl ?_
 refine L_run (R_assign rfl) rfl ?_
 refine L_nil (N_then (C_seq (C_seq (C_reg rfl ?_))))
 refine L_run (R_move rfl) rfl ?_
 refine L_run (R_neq rfl rfl) rfl ?_
 refine L_nil (N_then ?_)
 refine C_if rfl (fun h1 => ?_) (fun h1 => ?_)
 ·refine C_seq (C_reg rfl ?_)
  refine L_run (R_move rfl) rfl ?_
  refine L_run (R_assign rfl) rfl ?_
  refine L_run (R_assign rfl) rfl ?_
  refine L_run (R_assign rfl) rfl ?_
  refine L_nil (N_then (C_ret (R_then ?_)))
  refine ret3 Try.results75 rfl rfl rfl ?_
  first
    | (exfalso; omega)
    | (have e_ : fget bs = ([], 0, (vget bs).2.2) := by unfold fget; first | rw [if_pos (by omega)] | rw [if_neg (by omega), if_pos (by omega)] | rw [if_neg (by omega), if_neg (by omega), if_pos (by omega)]
       rw [e_]
       exact ⟨hB, none, 0, rfl, own_nil _ _ _ _⟩)
 ·refine C_skip (N_then (C_seq (C_seq (C_reg rfl ?_))))
  refine L_run (R_move rfl) rfl ?_
  refine L_run (R_gtr rfl rfl) rfl ?_
  refine L_nil (N_then ?_)
  refine C_if rfl (fun h2 => ?_) (fun h2 => ?_)
  ·refine C_seq (C_reg rfl ?_)
   refine L_run (R_assign rfl) rfl ?_
   refine L_run (R_assign rfl) rfl ?_
   refine L_run (R_assign rfl) rfl ?_
   refine L_nil (N_then (C_ret (R_then ?_)))
   refine ret3 Try.results75 rfl rfl rfl ?_
   first
     | (exfalso; omega)
     | (have e_ : fget bs = ([], 0, 5) := by unfold fget; first | rw [if_pos (by omega)] | rw [if_neg (by omega), if_pos (by omega)] | rw [if_neg (by omega), if_neg (by omega), if_pos (by omega)]
        rw [e_]
        exact ⟨hB, none, 0, rfl, own_nil _ _ _ _⟩)
  ·refine C_skip (N_then (C_seq (C_reg rfl ?_)))
   refine L_run (R_move rfl) rfl ?_
   refine L_run (R_move rfl) rfl ?_
   refine L_run (R_eqv (R_conv rfl any116 int3) (v' := .int .i64 ((vget bs).1 : Int)) (congrArg _ (i64_fit (by omega)))) rfl ?_
   refine L_run (R_add64 rfl rfl (by omega)) rfl ?_
   refine L_run (R_assign rfl) rfl ?_
   refine L_nil (N_then (C_seq (C_seq (C_reg rfl ?_))))
   refine L_run (R_move rfl) rfl ?_
   refine L_run (R_move rfl) rfl ?_
   refine L_run (R_lenSl rfl slc63) rfl ?_
   refine L_run (R_gtr rfl rfl) rfl ?_
   refine L_nil (N_then ?_)
   refine C_if rfl (fun h3 => ?_) (fun h3 => ?_)
   ·refine C_seq (C_reg rfl ?_)
    refine L_run (R_assign rfl) rfl ?_
    refine L_run (R_assign rfl) rfl ?_
    refine L_run (R_assign rfl) rfl ?_
    refine L_nil (N_then (C_ret (R_then ?_)))
    refine ret3 Try.results75 rfl rfl rfl ?_
    first
      | (exfalso; omega)
      | (have e_ : fget bs = ([], 0, 1) := by unfold fget; first | rw [if_pos (by omega)] | rw [if_neg (by omega), if_pos (by omega)] | rw [if_neg (by omega), if_neg (by omega), if_pos (by omega)]
         rw [e_]
         exact ⟨hB, none, 0, rfl, own_nil _ _ _ _⟩)
   ·refine C_skip (N_then (C_seq (C_reg rfl ?_)))
    refine L_buildSlice (pv := []) (cs := []) slc63 zer5 rfl rfl (by kernel_rfl) rfl ?_
    intro g1 w2 eg1 hb1 hs2 hz1
    have ge1 : w.heap.size ≤ g1 := eg_ge hB eg1
    replace hB := gb_tr hB hs2
    replace hS := hS.gb hs2
    refine L_run (R_move rfl) rfl ?_
    refine L_run (R_move rfl) rfl ?_
    refine L_run (R_move rfl) rfl ?_
    refine L_run (R_move rfl) rfl ?_
    refine T_slLHM (xs := bs) (i := (vget bs).2.1) (j := ((vget bs).2.1 + (vget bs).1)) (r := ((vget bs).2.1 + (vget bs).1)) EncB rfl rfl rfl rfl (by first | rfl | omega) (by first | rfl | omega) (by first | rfl | omega) slc63 (by first | omega | (simp; done) | (simp; omega)) (by first | omega | (simp; done) | (simp; omega)) (by first | omega | (simp; done) | (simp; omega)) (by first | omega | (simp; done) | (simp; omega)) hS rfl ?_
    intro A_1 hS_1
    have hlo1 : g1 ≤ w2.heap.size := Nat.le_of_lt hb1.lt
    have ho1 : World.ownsRow w2 g1 5 1 (.slice (some ⟨g1, 0, none⟩) ([] : List UInt8).length 0) ([] : List UInt8).length (fl encB []) := Blk.own (sz := 1) (m := 0) hb1 (by decide) rfl (Nat.le_refl _)
    refine T_append (xs := []) (ys := (bs.drop ((vget bs).2.1)).take (((vget bs).2.1 + (vget bs).1) - ((vget bs).2.1))) EncB slc63 rfl rfl ho1 hS_1 (by first | omega | (simp; done) | (simp; omega)) hlo1 rfl ?_
    intro A_2 c_1 w3 ho2 hs3 hat1
    replace hB := gb_tro hB ho1 hs3 ge1
    replace hS := hS.grown hs3 (fun k hk => .inr (Nat.le_trans ge1 (World.ownsRow.lt ho1 k hk).1))
    replace hS_1 := hS_1.grown hs3 (fun k hk => .inr (Nat.le_trans ge1 (World.ownsRow.lt ho1 k hk).1))
    replace hlo1 := Nat.le_trans hlo1 hs3.size
    simp only [List.nil_append] at ho2 ⊢
    refine L_run (R_move rfl) rfl ?_
    refine L_run (R_assign rfl) rfl ?_
    refine L_run (R_assign rfl) rfl ?_
    refine L_run (R_assign rfl) rfl ?_
    refine L_nil (N_then (C_ret ?_))
    refine ret3 Try.results75 rfl rfl rfl ?_
    first
      | (exfalso; omega)
      | (have e_ : fget bs = ((bs.drop ((vget bs).2.1)).take (((vget bs).2.1 + (vget bs).1) - ((vget bs).2.1)), (((vget bs).2.1) + ((vget bs).1)), 0) := by unfold fget; rw [if_neg (by omega), if_neg (by omega), if_neg (by omega)]; congr 3; omega
         rw [e_]
         exact ⟨hB, _, _, rfl, (own_lo ho2 ge1)⟩)

theorem ref04_Get {w : World} {t1 lo hi : Nat} {A : Option Addr} {c : Nat} {bs : List UInt8} (hS : Sli t1 lo hi w A (fl encB bs)) (hb : bs.length ≤ 140737488355328) (hc : bs.length ≤ c) :
    Runs Try.prog 58 #[.slice A bs.length c] w (fun v w' => w.grownBy w' none ∧ ∃ A' c', v = .tuple #[.slice A' (fget bs).1.length c', .int .i64 ((fget bs).2.1 : Int), .int .i64 (fget bs).2.2] ∧ World.ownsRow w' w.heap.size 5 1 (.slice A' (fget bs).1.length c') (fget bs).1.length (fl encB (fget bs).1)) := by
 have hB := gb_refl w none
 obtain ⟨vb1, vb2, vb3, vb4, vb5⟩ := vget_bound bs
 replace hS := hS.top
 refine enter Try.func58 Try.ntmps58 rfl rfl ?_
 refine C_seq (C_reg rfl ?_)
 refine L_run (R_assign rfl) rfl ?_
 refine L_run (R_assign rfl) rfl ?_
 refine L_run (R_assign rfl) rfl ?_
 refine L_nil (N_then (C_seq (C_reg rfl ?_)))
 refine L_run (R_move rfl) rfl ?_
 refine L_call rfl cb59 (ref02_Get (bs := bs) hS (by first | omega | (simp; done) | (simp; omega))) rfl ?_
 rintro _ w1 ⟨hs1, rfl⟩
 replace hB := gb_tr hB hs1
 replace hS := hS.gb hs1
 refine L_run (R_move rfl) rfl ?_
 refine L_run (R_extract rfl rfl) rfl ?_
 refine L_run (R_extract rfl rfl) rfl ?_
 refine L_run (R_extract rfl rfl) rfl ?_
 refine L_run (R_assign rfl) rfl ?_
 refine L_run (R_assign rfl) rfl ?_
 refine L_run (R_assign rfl) rfl ?_
 refine L_nil (N_then (C_seq (C_seq (C_reg rfl ?_))))
 refine L_run (R_move rfl) rfl ?_
 refine L_run (R_neq rfl rfl) rfl ?_
 refine L_nil (N_then ?_)
 refine C_if rfl (fun h1 => ?_) (fun h1 => ?_)
 ·refine C_seq (C_reg rfl ?_)
  refine L_run (R_move rfl) rfl ?_
  refine L_run (R_assign rfl) rfl ?_
  refine L_run (R_assign rfl) rfl ?_
  refine L_run (R_assign rfl) rfl ?_
  refine L_nil (N_then (C_ret (R_then ?_)))
  refine ret3 Try.results58 rfl rfl rfl ?_
  first
    | (exfalso; omega)
    | (have e_ : fget bs = ([], 0, (vget bs).2.2) := by unfold fget; first | rw [if_pos (by omega)] | rw [if_neg (by omega), if_pos (by omega)] | rw [if_neg (by omega), if_neg (by omega), if_pos (by omega)]
       rw [e_]
       exact ⟨hB, none, 0, rfl, own_nil _ _ _ _⟩)
 ·refine C_skip (N_then (C_seq (C_seq (C_reg rfl ?_))))
  refine L_run (R_move rfl) rfl ?_
  refine L_run (R_gtr rfl rfl) rfl ?_
  refine L_nil (N_then ?_)
  refine C_if rfl (fun h2 => ?_) (fun h2 => ?_)
  ·refine C_seq (C_reg rfl ?_)
   refine L_run (R_assign rfl) rfl ?_
   refine L_run (R_assign rfl) rfl ?_
   refine L_run (R_assign rfl) rfl ?_
   refine L_nil (N_then (C_ret (R_then ?_)))
   refine ret3 Try.results58 rfl rfl rfl ?_
   first
     | (exfalso; omega)
     | (have e_ : fget bs = ([], 0, 5) := by unfold fget; first | rw [if_pos (by omega)] | rw [if_neg (by omega), if_pos (by omega)] | rw [if_neg (by omega), if_neg (by omega), if_pos (by omega)]
        rw [e_]
        exact ⟨hB, none, 0, rfl, own_nil _ _ _ _⟩)
  ·refine C_skip (N_then (C_seq (C_seq (C_reg rfl ?_))))
   refine L_run (R_move rfl) rfl ?_
   refine L_run (R_eqv (R_conv rfl any116 int3) (v' := .int .i64 ((vget bs).1 : Int)) (congrArg _ (i64_fit (by omega)))) rfl ?_
   refine L_run (R_move rfl) rfl ?_
   refine L_run (R_lenSl rfl slc63) rfl ?_
   refine L_run (R_move rfl) rfl ?_
   refine L_run (R_sub64 rfl rfl (by omega)) rfl ?_
   refine L_run (R_gtr rfl rfl) rfl ?_
   refine L_nil (N_then ?_)
   refine C_if rfl (fun h3 => ?_) (fun h3 => ?_)
   ·refine C_seq (C_reg rfl ?_)
    refine L_run (R_assign rfl) rfl ?_
    refine L_run (R_assign rfl) rfl ?_
    refine L_run (R_assign rfl) rfl ?_
    refine L_nil (N_then (C_ret (R_then ?_)))
    refine ret3 Try.results58 rfl rfl rfl ?_
    first
      | (exfalso; omega)
      | (have e_ : fget bs = ([], 0, 1) := by unfold fget; first | rw [if_pos (by omega)] | rw [if_neg (by omega), if_pos (by omega)] | rw [if_neg (by omega), if_neg (by omega), if_pos (by omega)]
         rw [e_]
         exact ⟨hB, none, 0, rfl, own_nil _ _ _ _⟩)
   ·refine C_skip (N_then (C_seq (C_reg rfl ?_)))
    refine L_buildSlice (pv := []) (cs := []) slc63 zer5 rfl rfl (by kernel_rfl) rfl ?_
    intro g1 w2 eg1 hb1 hs2 hz1
    have ge1 : w.heap.size ≤ g1 := eg_ge hB eg1
    replace hB := gb_tr hB hs2
    replace hS := hS.gb hs2
    refine L_run (R_move rfl) rfl ?_
    refine L_run (R_move rfl) rfl ?_
    refine L_run (R_move rfl) rfl ?_
    refine L_run (R_move rfl) rfl ?_
    refine L_run (R_eqv (R_conv rfl any116 int3) (v' := .int .i64 ((vget bs).1 : Int)) (congrArg _ (i64_fit (by omega)))) rfl ?_
    refine L_run (R_add64 rfl rfl (by omega)) rfl ?_
    refine T_slLH (xs := bs) (i := (vget bs).2.1) (j := ((vget bs).2.1 + (vget bs).1)) EncB rfl rfl rfl (by first | rfl | omega) (by first | rfl | omega) slc63 (by first | omega | (simp; done) | (simp; omega)) (by first | omega | (simp; done) | (simp; omega)) (by omega) hS rfl ?_
    intro A_1 hS_1
    have hlo1 : g1 ≤ w2.heap.size := Nat.le_of_lt hb1.lt
    have ho1 : World.ownsRow w2 g1 5 1 (.slice (some ⟨g1, 0, none⟩) ([] : List UInt8).length 0) ([] : List UInt8).length (fl encB []) := Blk.own (sz := 1) (m := 0) hb1 (by decide) rfl (Nat.le_refl _)
    refine T_append (xs := []) (ys := (bs.drop ((vget bs).2.1)).take (((vget bs).2.1 + (vget bs).1) - ((vget bs).2.1))) EncB slc63 rfl rfl ho1 hS_1 (by first | omega | (simp; done) | (simp; omega)) hlo1 rfl ?_
    intro A_2 c_1 w3 ho2 hs3 hat1
    replace hB := gb_tro hB ho1 hs3 ge1
    replace hS := hS.grown hs3 (fun k hk => .inr (Nat.le_trans ge1 (World.ownsRow.lt ho1 k hk).1))
    replace hS_1 := hS_1.grown hs3 (fun k hk => .inr (Nat.le_trans ge1 (World.ownsRow.lt ho1 k hk).1))
    replace hlo1 := Nat.le_trans hlo1 hs3.size
    simp only [List.nil_append] at ho2 ⊢
    refine L_run (R_move rfl) rfl ?_
    refine L_run (R_move rfl) rfl ?_
    refine L_run (R_eqv (R_conv rfl any116 int3) (v' := .int .i64 ((vget bs).1 : Int)) (congrArg _ (i64_fit (by omega)))) rfl ?_
    refine L_run (R_add64 rfl rfl (by omega)) rfl ?_
    refine L_run (R_assign rfl) rfl ?_
    refine L_run (R_assign rfl) rfl ?_
    refine L_run (R_assign rfl) rfl ?_
    refine L_nil (N_then (C_ret ?_))
    refine ret3 Try.results58 rfl rfl rfl ?_
    first
      | (exfalso; omega)
      | (have e_ : fget bs = ((bs.drop ((vget bs).2.1)).take (((vget bs).2.1 + (vget bs).1) - ((vget bs).2.1)), (((vget bs).2.1) + ((vget bs).1)), 0) := by unfold fget; rw [if_neg (by omega), if_neg (by omega), if_neg (by omega)]; congr 3; omega
         rw [e_]
         exact ⟨hB, _, _, rfl, (own_lo ho2 ge1)⟩)

theorem tx_Right {w : World} {c : Chg} :
    Runs Try.prog 62 #[.agg #[.string c.key, .bool c.was, .bool c.is, .string c.old, .string c.new, .int .i64 c.next]] w (fun v w' => w.grownBy w' none ∧ v = .bool (decide (Rt c))) := by
 have hB := gb_refl w none
 refine enter Try.func62 Try.ntmps62 rfl rfl ?_
 refine C_seq (C_reg rfl ?_)
 refine L_box (cs := [.string c.key, .bool c.was, .bool c.is, .string c.old, .string c.new, .int .i64 c.next]) rfl rfl rfl ?_
 intro g1 w1 eg1 hb1 hs1 hz1
 have ge1 : w.heap.size ≤ g1 := eg_ge hB eg1
 replace hB := gb_tr hB hs1
 refine L_run (R_assign rfl) rfl ?_
 refine L_nil (N_then (C_seq (C_block (C_seq (C_reg rfl ?_)))))
 refine L_run (R_field (r := 0) rfl fld34_0 rfl) rfl ?_
 refine L_run (R_load1 rfl scl9 (hb1.cell (i := 0) rfl)) rfl ?_
 refine L_run (R_lenS rfl str9) rfl ?_
 refine L_run (R_lss rfl rfl) rfl ?_
 refine L_run (R_move rfl) rfl ?_
 refine L_splitD (p := (c.key.size : Int) < 1) (fun h1 => ?_) (fun h1 => ?_)
 ·refine L_no rfl rfl rfl (decide_eq_true h1) rfl ?_
  refine L_no rfl rfl rfl (decide_eq_true h1) rfl ?_
  refine L_no rfl rfl rfl (decide_eq_true h1) rfl ?_
  refine L_no rfl rfl rfl (decide_eq_true h1) rfl ?_
  refine L_run (R_pickT rfl (decide_eq_true h1) rfl) rfl ?_
  refine L_run (R_move rfl) rfl ?_
  refine L_no rfl rfl rfl rfl rfl ?_
  refine L_no rfl rfl rfl rfl rfl ?_
  refine L_no rfl rfl rfl rfl rfl ?_
  refine L_no rfl rfl rfl rfl rfl ?_
  refine L_run (R_pickT rfl rfl rfl) rfl ?_
  refine L_run (R_move rfl) rfl ?_
  refine L_no rfl rfl rfl rfl rfl ?_
  refine L_no rfl rfl rfl rfl rfl ?_
  refine L_no rfl rfl rfl rfl rfl ?_
  refine L_no rfl rfl rfl rfl rfl ?_
  refine L_run (R_pickT rfl rfl rfl) rfl ?_
  refine L_run (R_assign rfl) rfl ?_
  refine L_nil (N_then (C_condT rfl rfl (C_seq (C_reg rfl ?_))))
  refine L_run (R_assign rfl) rfl ?_
  refine L_nil (N_then (C_ret (R_in (R_then ?_))))
  refine ret1 Try.results62 rfl ?_
  refine ⟨hB, bF ?_⟩; have hk_ := empty_iff c.key; have ho_ := empty_iff c.old; have hn_ := empty_iff c.new; clear hB; unfold Rt; grind
 ·refine L_yes rfl rfl rfl (decide_eq_false h1) ?_
  refine L_run (R_field (r := 0) rfl fld34_0 rfl) rfl ?_
  refine L_yes rfl rfl rfl (decide_eq_false h1) ?_
  refine L_run (R_load1 rfl scl9 (hb1.cell (i := 0) rfl)) rfl ?_
  refine L_yes rfl rfl rfl (decide_eq_false h1) ?_
  refine L_run (R_lenS rfl str9) rfl ?_
  refine L_yes rfl rfl rfl (decide_eq_false h1) ?_
  refine L_run (R_gtr rfl rfl) rfl ?_
  refine L_run (R_pickF rfl (decide_eq_false h1) rfl) rfl ?_
  refine L_run (R_move rfl) rfl ?_
  refine L_splitD (p := 24 < (c.key.size : Int)) (fun h2 => ?_) (fun h2 => ?_)
  ·refine L_no rfl rfl rfl (decide_eq_true h2) rfl ?_
   refine L_no rfl rfl rfl (decide_eq_true h2) rfl ?_
   refine L_no rfl rfl rfl (decide_eq_true h2) rfl ?_
   refine L_no rfl rfl rfl (decide_eq_true h2) rfl ?_
   refine L_run (R_pickT rfl (decide_eq_true h2) rfl) rfl ?_
   refine L_run (R_move rfl) rfl ?_
   refine L_no rfl rfl rfl rfl rfl ?_
   refine L_no rfl rfl rfl rfl rfl ?_
   refine L_no rfl rfl rfl rfl rfl ?_
   refine L_no rfl rfl rfl rfl rfl ?_
   refine L_run (R_pickT rfl rfl rfl) rfl ?_
   refine L_run (R_assign rfl) rfl ?_
   refine L_nil (N_then (C_condT rfl rfl (C_seq (C_reg rfl ?_))))
   refine L_run (R_assign rfl) rfl ?_
   refine L_nil (N_then (C_ret (R_in (R_then ?_))))
   refine ret1 Try.results62 rfl ?_
   refine ⟨hB, bF ?_⟩; have hk_ := empty_iff c.key; have ho_ := empty_iff c.old; have hn_ := empty_iff c.new; clear hB; unfold Rt; grind
  ·refine L_yes rfl rfl rfl (decide_eq_false h2) ?_
   refine L_run (R_field (r := 3) rfl fld34_3 rfl) rfl ?_
   refine L_yes rfl rfl rfl (decide_eq_false h2) ?_
   refine L_run (R_load1 rfl scl9 (hb1.cell (i := 3) rfl)) rfl ?_
   refine L_yes rfl rfl rfl (decide_eq_false h2) ?_
   refine L_run (R_lenS rfl str9) rfl ?_
   refine L_yes rfl rfl rfl (decide_eq_false h2) ?_
   refine L_run (R_gtr rfl rfl) rfl ?_
   refine L_run (R_pickF rfl (decide_eq_false h2) rfl) rfl ?_
   refine L_run (R_move rfl) rfl ?_
   refine L_splitD (p := 128 < (c.old.size : Int)) (fun h3 => ?_) (fun h3 => ?_)
   ·refine L_no rfl rfl rfl (decide_eq_true h3) rfl ?_
    refine L_no rfl rfl rfl (decide_eq_true h3) rfl ?_
    refine L_no rfl rfl rfl (decide_eq_true h3) rfl ?_
    refine L_no rfl rfl rfl (decide_eq_true h3) rfl ?_
    refine L_run (R_pickT rfl (decide_eq_true h3) rfl) rfl ?_
    refine L_run (R_assign rfl) rfl ?_
    refine L_nil (N_then (C_condT rfl rfl (C_seq (C_reg rfl ?_))))
    refine L_run (R_assign rfl) rfl ?_
    refine L_nil (N_then (C_ret (R_in (R_then ?_))))
    refine ret1 Try.results62 rfl ?_
    refine ⟨hB, bF ?_⟩; have hk_ := empty_iff c.key; have ho_ := empty_iff c.old; have hn_ := empty_iff c.new; clear hB; unfold Rt; grind
   ·refine L_yes rfl rfl rfl (decide_eq_false h3) ?_
    refine L_run (R_field (r := 4) rfl fld34_4 rfl) rfl ?_
    refine L_yes rfl rfl rfl (decide_eq_false h3) ?_
    refine L_run (R_load1 rfl scl9 (hb1.cell (i := 4) rfl)) rfl ?_
    refine L_yes rfl rfl rfl (decide_eq_false h3) ?_
    refine L_run (R_lenS rfl str9) rfl ?_
    refine L_yes rfl rfl rfl (decide_eq_false h3) ?_
    refine L_run (R_gtr rfl rfl) rfl ?_
    refine L_run (R_pickF rfl (decide_eq_false h3) rfl) rfl ?_
    refine L_run (R_assign rfl) rfl ?_
    refine L_nil (N_then ?_)
    refine C_if rfl (fun h4 => ?_) (fun h4 => ?_)
    ·refine C_seq (C_reg rfl ?_)
     refine L_run (R_assign rfl) rfl ?_
     refine L_nil (N_then (C_ret (R_in (R_then ?_))))
     refine ret1 Try.results62 rfl ?_
     refine ⟨hB, bF ?_⟩; have hk_ := empty_iff c.key; have ho_ := empty_iff c.old; have hn_ := empty_iff c.new; clear hB; unfold Rt; grind
    ·refine C_seq (C_reg rfl ?_)
     refine L_run (R_field (r := 1) rfl fld34_1 rfl) rfl ?_
     refine L_run (R_load1 rfl scl4 (hb1.cell (i := 1) rfl)) rfl ?_
     refine L_run (R_not rfl) rfl ?_
     refine L_run (R_move rfl) rfl ?_
     refine L_split (!c.was) (fun h5 => ?_) (fun h5 => ?_)
     ·refine L_yes rfl rfl rfl h5 ?_
      refine L_run (R_field (r := 3) rfl fld34_3 rfl) rfl ?_
      refine L_yes rfl rfl rfl h5 ?_
      refine L_run (R_load1 rfl scl9 (hb1.cell (i := 3) rfl)) rfl ?_
      refine L_yes rfl rfl rfl h5 ?_
      refine L_run (R_neqS rfl rfl) rfl ?_
      refine L_run (R_pickT rfl h5 rfl) rfl ?_
      refine L_run (R_move rfl) rfl ?_
      refine L_splitD (p := c.old ≠ ⟨#[]⟩) (fun h6 => ?_) (fun h6 => ?_)
      ·refine L_no rfl rfl rfl (decide_eq_true h6) rfl ?_
       refine L_no rfl rfl rfl (decide_eq_true h6) rfl ?_
       refine L_no rfl rfl rfl (decide_eq_true h6) rfl ?_
       refine L_no rfl rfl rfl (decide_eq_true h6) rfl ?_
       refine L_noU rfl rfl rfl rfl ?_
       refine L_noU rfl rfl rfl rfl ?_
       refine L_noU rfl rfl rfl rfl ?_
       refine L_no rfl rfl rfl (decide_eq_true h6) rfl ?_
       refine L_run (R_pickT rfl (decide_eq_true h6) rfl) rfl ?_
       refine L_run (R_assign rfl) rfl ?_
       refine L_nil (N_then (C_condT rfl rfl (C_seq (C_reg rfl ?_))))
       refine L_run (R_assign rfl) rfl ?_
       refine L_nil (N_then (C_ret (R_in (R_then ?_))))
       refine ret1 Try.results62 rfl ?_
       refine ⟨hB, bF ?_⟩; have hk_ := empty_iff c.key; have ho_ := empty_iff c.old; have hn_ := empty_iff c.new; clear hB; unfold Rt; grind
      ·refine L_yes rfl rfl rfl (decide_eq_false h6) ?_
       refine L_run (R_field (r := 2) rfl fld34_2 rfl) rfl ?_
       refine L_yes rfl rfl rfl (decide_eq_false h6) ?_
       refine L_run (R_load1 rfl scl4 (hb1.cell (i := 2) rfl)) rfl ?_
       refine L_yes rfl rfl rfl (decide_eq_false h6) ?_
       refine L_run (R_not rfl) rfl ?_
       refine L_yes rfl rfl rfl (decide_eq_false h6) ?_
       refine L_run (R_move rfl) rfl ?_
       refine L_split (!c.is) (fun h7 => ?_) (fun h7 => ?_)
       ·refine L_yes rfl rfl rfl h7 ?_
        refine L_run (R_field (r := 4) rfl fld34_4 rfl) rfl ?_
        refine L_yes rfl rfl rfl h7 ?_
        refine L_run (R_load1 rfl scl9 (hb1.cell (i := 4) rfl)) rfl ?_
        refine L_yes rfl rfl rfl h7 ?_
        refine L_run (R_neqS rfl rfl) rfl ?_
        refine L_yes rfl rfl rfl (decide_eq_false h6) ?_
        refine L_run (R_pickT rfl h7 rfl) rfl ?_
        refine L_run (R_pickF rfl (decide_eq_false h6) rfl) rfl ?_
        refine L_run (R_assign rfl) rfl ?_
        refine L_nil (N_then ?_)
        refine C_if rfl (fun h8 => ?_) (fun h8 => ?_)
        ·refine C_seq (C_reg rfl ?_)
         refine L_run (R_assign rfl) rfl ?_
         refine L_nil (N_then (C_ret (R_in (R_then ?_))))
         refine ret1 Try.results62 rfl ?_
         refine ⟨hB, bF ?_⟩; have hk_ := empty_iff c.key; have ho_ := empty_iff c.old; have hn_ := empty_iff c.new; clear hB; unfold Rt; grind
        ·refine C_skip (N_in (N_then (C_seq (C_reg rfl ?_))))
         refine L_run (R_field (r := 5) rfl fld34_5 rfl) rfl ?_
         refine L_run (R_load1 rfl scl3 (hb1.cell (i := 5) rfl)) rfl ?_
         refine L_run (R_geq rfl rfl) rfl ?_
         refine L_run (R_move rfl) rfl ?_
         refine L_splitD (p := 0 ≤ c.next) (fun h9 => ?_) (fun h9 => ?_)
         ·refine L_yes rfl rfl rfl (decide_eq_true h9) ?_
          refine L_run (R_field (r := 5) rfl fld34_5 rfl) rfl ?_
          refine L_yes rfl rfl rfl (decide_eq_true h9) ?_
          refine L_run (R_load1 rfl scl3 (hb1.cell (i := 5) rfl)) rfl ?_
          refine L_yes rfl rfl rfl (decide_eq_true h9) ?_
          refine L_run (R_leq rfl rfl) rfl ?_
          refine L_run (R_pickT rfl (decide_eq_true h9) rfl) rfl ?_
          refine L_run (R_assign rfl) rfl ?_
          refine L_nil (N_then (C_ret ?_))
          refine ret1 Try.results62 rfl ?_
          refine ⟨hB, bD ?_⟩; have hk_ := empty_iff c.key; have ho_ := empty_iff c.old; have hn_ := empty_iff c.new; clear hB; unfold Rt; grind
         ·refine L_no rfl rfl rfl (decide_eq_false h9) rfl ?_
          refine L_no rfl rfl rfl (decide_eq_false h9) rfl ?_
          refine L_no rfl rfl rfl (decide_eq_false h9) rfl ?_
          refine L_run (R_pickF rfl (decide_eq_false h9) rfl) rfl ?_
          refine L_run (R_assign rfl) rfl ?_
          refine L_nil (N_then (C_ret ?_))
          refine ret1 Try.results62 rfl ?_
          refine ⟨hB, bF ?_⟩; have hk_ := empty_iff c.key; have ho_ := empty_iff c.old; have hn_ := empty_iff c.new; clear hB; unfold Rt; grind
       ·refine L_no rfl rfl rfl h7 rfl ?_
        refine L_no rfl rfl rfl h7 rfl ?_
        refine L_no rfl rfl rfl h7 rfl ?_
        refine L_yes rfl rfl rfl (decide_eq_false h6) ?_
        refine L_run (R_pickF rfl h7 rfl) rfl ?_
        refine L_run (R_pickF rfl (decide_eq_false h6) rfl) rfl ?_
        refine L_run (R_assign rfl) rfl ?_
        refine L_nil (N_then (C_condF rfl rfl (C_skip (N_in (N_then (C_seq (C_reg rfl ?_)))))))
        refine L_run (R_field (r := 5) rfl fld34_5 rfl) rfl ?_
        refine L_run (R_load1 rfl scl3 (hb1.cell (i := 5) rfl)) rfl ?_
        refine L_run (R_geq rfl rfl) rfl ?_
        refine L_run (R_move rfl) rfl ?_
        refine L_splitD (p := 0 ≤ c.next) (fun h10 => ?_) (fun h10 => ?_)
        ·refine L_yes rfl rfl rfl (decide_eq_true h10) ?_
         refine L_run (R_field (r := 5) rfl fld34_5 rfl) rfl ?_
         refine L_yes rfl rfl rfl (decide_eq_true h10) ?_
         refine L_run (R_load1 rfl scl3 (hb1.cell (i := 5) rfl)) rfl ?_
         refine L_yes rfl rfl rfl (decide_eq_true h10) ?_
         refine L_run (R_leq rfl rfl) rfl ?_
         refine L_run (R_pickT rfl (decide_eq_true h10) rfl) rfl ?_
         refine L_run (R_assign rfl) rfl ?_
         refine L_nil (N_then (C_ret ?_))
         refine ret1 Try.results62 rfl ?_
         refine ⟨hB, bD ?_⟩; have hk_ := empty_iff c.key; have ho_ := empty_iff c.old; have hn_ := empty_iff c.new; clear hB; unfold Rt; grind
        ·refine L_no rfl rfl rfl (decide_eq_false h10) rfl ?_
         refine L_no rfl rfl rfl (decide_eq_false h10) rfl ?_
         refine L_no rfl rfl rfl (decide_eq_false h10) rfl ?_
         refine L_run (R_pickF rfl (decide_eq_false h10) rfl) rfl ?_
         refine L_run (R_assign rfl) rfl ?_
         refine L_nil (N_then (C_ret ?_))
         refine ret1 Try.results62 rfl ?_
         refine ⟨hB, bF ?_⟩; have hk_ := empty_iff c.key; have ho_ := empty_iff c.old; have hn_ := empty_iff c.new; clear hB; unfold Rt; grind
     ·refine L_no rfl rfl rfl h5 rfl ?_
      refine L_no rfl rfl rfl h5 rfl ?_
      refine L_no rfl rfl rfl h5 rfl ?_
      refine L_run (R_pickF rfl h5 rfl) rfl ?_
      refine L_run (R_move rfl) rfl ?_
      refine L_yes rfl rfl rfl rfl ?_
      refine L_run (R_field (r := 2) rfl fld34_2 rfl) rfl ?_
      refine L_yes rfl rfl rfl rfl ?_
      refine L_run (R_load1 rfl scl4 (hb1.cell (i := 2) rfl)) rfl ?_
      refine L_yes rfl rfl rfl rfl ?_
      refine L_run (R_not rfl) rfl ?_
      refine L_yes rfl rfl rfl rfl ?_
      refine L_run (R_move rfl) rfl ?_
      refine L_split (!c.is) (fun h11 => ?_) (fun h11 => ?_)
      ·refine L_yes rfl rfl rfl h11 ?_
       refine L_run (R_field (r := 4) rfl fld34_4 rfl) rfl ?_
       refine L_yes rfl rfl rfl h11 ?_
       refine L_run (R_load1 rfl scl9 (hb1.cell (i := 4) rfl)) rfl ?_
       refine L_yes rfl rfl rfl h11 ?_
       refine L_run (R_neqS rfl rfl) rfl ?_
       refine L_yes rfl rfl rfl rfl ?_
       refine L_run (R_pickT rfl h11 rfl) rfl ?_
       refine L_run (R_pickF rfl rfl rfl) rfl ?_
       refine L_run (R_assign rfl) rfl ?_
       refine L_nil (N_then ?_)
       refine C_if rfl (fun h12 => ?_) (fun h12 => ?_)
       ·refine C_seq (C_reg rfl ?_)
        refine L_run (R_assign rfl) rfl ?_
        refine L_nil (N_then (C_ret (R_in (R_then ?_))))
        refine ret1 Try.results62 rfl ?_
        refine ⟨hB, bF ?_⟩; have hk_ := empty_iff c.key; have ho_ := empty_iff c.old; have hn_ := empty_iff c.new; clear hB; unfold Rt; grind
       ·refine C_skip (N_in (N_then (C_seq (C_reg rfl ?_))))
        refine L_run (R_field (r := 5) rfl fld34_5 rfl) rfl ?_
        refine L_run (R_load1 rfl scl3 (hb1.cell (i := 5) rfl)) rfl ?_
        refine L_run (R_geq rfl rfl) rfl ?_
        refine L_run (R_move rfl) rfl ?_
        refine L_splitD (p := 0 ≤ c.next) (fun h13 => ?_) (fun h13 => ?_)
        ·refine L_yes rfl rfl rfl (decide_eq_true h13) ?_
         refine L_run (R_field (r := 5) rfl fld34_5 rfl) rfl ?_
         refine L_yes rfl rfl rfl (decide_eq_true h13) ?_
         refine L_run (R_load1 rfl scl3 (hb1.cell (i := 5) rfl)) rfl ?_
         refine L_yes rfl rfl rfl (decide_eq_true h13) ?_
         refine L_run (R_leq rfl rfl) rfl ?_
         refine L_run (R_pickT rfl (decide_eq_true h13) rfl) rfl ?_
         refine L_run (R_assign rfl) rfl ?_
         refine L_nil (N_then (C_ret ?_))
         refine ret1 Try.results62 rfl ?_
         refine ⟨hB, bD ?_⟩; have hk_ := empty_iff c.key; have ho_ := empty_iff c.old; have hn_ := empty_iff c.new; clear hB; unfold Rt; grind
        ·refine L_no rfl rfl rfl (decide_eq_false h13) rfl ?_
         refine L_no rfl rfl rfl (decide_eq_false h13) rfl ?_
         refine L_no rfl rfl rfl (decide_eq_false h13) rfl ?_
         refine L_run (R_pickF rfl (decide_eq_false h13) rfl) rfl ?_
         refine L_run (R_assign rfl) rfl ?_
         refine L_nil (N_then (C_ret ?_))
         refine ret1 Try.results62 rfl ?_
         refine ⟨hB, bF ?_⟩; have hk_ := empty_iff c.key; have ho_ := empty_iff c.old; have hn_ := empty_iff c.new; clear hB; unfold Rt; grind
      ·refine L_no rfl rfl rfl h11 rfl ?_
       refine L_no rfl rfl rfl h11 rfl ?_
       refine L_no rfl rfl rfl h11 rfl ?_
       refine L_yes rfl rfl rfl rfl ?_
       refine L_run (R_pickF rfl h11 rfl) rfl ?_
       refine L_run (R_pickF rfl rfl rfl) rfl ?_
       refine L_run (R_assign rfl) rfl ?_
       refine L_nil (N_then (C_condF rfl rfl (C_skip (N_in (N_then (C_seq (C_reg rfl ?_)))))))
       refine L_run (R_field (r := 5) rfl fld34_5 rfl) rfl ?_
       refine L_run (R_load1 rfl scl3 (hb1.cell (i := 5) rfl)) rfl ?_
       refine L_run (R_geq rfl rfl) rfl ?_
       refine L_run (R_move rfl) rfl ?_
       refine L_splitD (p := 0 ≤ c.next) (fun h14 => ?_) (fun h14 => ?_)
       ·refine L_yes rfl rfl rfl (decide_eq_true h14) ?_
        refine L_run (R_field (r := 5) rfl fld34_5 rfl) rfl ?_
        refine L_yes rfl rfl rfl (decide_eq_true h14) ?_
        refine L_run (R_load1 rfl scl3 (hb1.cell (i := 5) rfl)) rfl ?_
        refine L_yes rfl rfl rfl (decide_eq_true h14) ?_
        refine L_run (R_leq rfl rfl) rfl ?_
        refine L_run (R_pickT rfl (decide_eq_true h14) rfl) rfl ?_
        refine L_run (R_assign rfl) rfl ?_
        refine L_nil (N_then (C_ret ?_))
        refine ret1 Try.results62 rfl ?_
        refine ⟨hB, bD ?_⟩; have hk_ := empty_iff c.key; have ho_ := empty_iff c.old; have hn_ := empty_iff c.new; clear hB; unfold Rt; grind
       ·refine L_no rfl rfl rfl (decide_eq_false h14) rfl ?_
        refine L_no rfl rfl rfl (decide_eq_false h14) rfl ?_
        refine L_no rfl rfl rfl (decide_eq_false h14) rfl ?_
        refine L_run (R_pickF rfl (decide_eq_false h14) rfl) rfl ?_
        refine L_run (R_assign rfl) rfl ?_
        refine L_nil (N_then (C_ret ?_))
        refine ret1 Try.results62 rfl ?_
        refine ⟨hB, bF ?_⟩; have hk_ := empty_iff c.key; have ho_ := empty_iff c.old; have hn_ := empty_iff c.new; clear hB; unfold Rt; grind

theorem ref42_Right {w : World} {c : Chg} :
    Runs Try.prog 8 #[.agg #[.string c.key, .bool c.was, .bool c.is, .string c.old, .string c.new, .int .i64 c.next]] w (fun v w' => w.grownBy w' none ∧ v = .bool (decide (Rt c))) := by
 have hB := gb_refl w none
 refine enter Try.func8 Try.ntmps8 rfl rfl ?_
 refine C_seq (C_reg rfl ?_)
 refine L_box (cs := [.string c.key, .bool c.was, .bool c.is, .string c.old, .string c.new, .int .i64 c.next]) rfl rfl rfl ?_
 intro g1 w1 eg1 hb1 hs1 hz1
 have ge1 : w.heap.size ≤ g1 := eg_ge hB eg1
 replace hB := gb_tr hB hs1
 refine L_run (R_assign rfl) rfl ?_
 refine L_nil (N_then (C_seq (C_reg rfl ?_)))
 refine L_run (R_field (r := 0) rfl fld34_0 rfl) rfl ?_
 refine L_run (R_load1 rfl scl9 (hb1.cell (i := 0) rfl)) rfl ?_
 refine L_run (R_neqS rfl rfl) rfl ?_
 refine L_run (R_move rfl) rfl ?_
 refine L_splitD (p := c.key ≠ ⟨#[]⟩) (fun h1 => ?_) (fun h1 => ?_)
 ·refine L_yes rfl rfl rfl (decide_eq_true h1) ?_
  refine L_run (R_field (r := 0) rfl fld34_0 rfl) rfl ?_
  refine L_yes rfl rfl rfl (decide_eq_true h1) ?_
  refine L_run (R_load1 rfl scl9 (hb1.cell (i := 0) rfl)) rfl ?_
  refine L_yes rfl rfl rfl (decide_eq_true h1) ?_
  refine L_run (R_lenS rfl str9) rfl ?_
  refine L_yes rfl rfl rfl (decide_eq_true h1) ?_
  refine L_run (R_leq rfl rfl) rfl ?_
  refine L_run (R_pickT rfl (decide_eq_true h1) rfl) rfl ?_
  refine L_run (R_move rfl) rfl ?_
  refine L_splitD (p := (c.key.size : Int) ≤ 24) (fun h2 => ?_) (fun h2 => ?_)
  ·refine L_yes rfl rfl rfl (decide_eq_true h2) ?_
   refine L_run (R_field (r := 3) rfl fld34_3 rfl) rfl ?_
   refine L_yes rfl rfl rfl (decide_eq_true h2) ?_
   refine L_run (R_load1 rfl scl9 (hb1.cell (i := 3) rfl)) rfl ?_
   refine L_yes rfl rfl rfl (decide_eq_true h2) ?_
   refine L_run (R_lenS rfl str9) rfl ?_
   refine L_yes rfl rfl rfl (decide_eq_true h2) ?_
   refine L_run (R_leq rfl rfl) rfl ?_
   refine L_run (R_pickT rfl (decide_eq_true h2) rfl) rfl ?_
   refine L_run (R_move rfl) rfl ?_
   refine L_splitD (p := (c.old.size : Int) ≤ 128) (fun h3 => ?_) (fun h3 => ?_)
   ·refine L_yes rfl rfl rfl (decide_eq_true h3) ?_
    refine L_run (R_field (r := 4) rfl fld34_4 rfl) rfl ?_
    refine L_yes rfl rfl rfl (decide_eq_true h3) ?_
    refine L_run (R_load1 rfl scl9 (hb1.cell (i := 4) rfl)) rfl ?_
    refine L_yes rfl rfl rfl (decide_eq_true h3) ?_
    refine L_run (R_lenS rfl str9) rfl ?_
    refine L_yes rfl rfl rfl (decide_eq_true h3) ?_
    refine L_run (R_leq rfl rfl) rfl ?_
    refine L_run (R_pickT rfl (decide_eq_true h3) rfl) rfl ?_
    refine L_run (R_move rfl) rfl ?_
    refine L_splitD (p := (c.new.size : Int) ≤ 128) (fun h4 => ?_) (fun h4 => ?_)
    ·refine L_yes rfl rfl rfl (decide_eq_true h4) ?_
     refine L_run (R_field (r := 5) rfl fld34_5 rfl) rfl ?_
     refine L_yes rfl rfl rfl (decide_eq_true h4) ?_
     refine L_run (R_load1 rfl scl3 (hb1.cell (i := 5) rfl)) rfl ?_
     refine L_yes rfl rfl rfl (decide_eq_true h4) ?_
     refine L_run (R_geq rfl rfl) rfl ?_
     refine L_run (R_pickT rfl (decide_eq_true h4) rfl) rfl ?_
     refine L_run (R_move rfl) rfl ?_
     refine L_splitD (p := 0 ≤ c.next) (fun h5 => ?_) (fun h5 => ?_)
     ·refine L_yes rfl rfl rfl (decide_eq_true h5) ?_
      refine L_run (R_field (r := 5) rfl fld34_5 rfl) rfl ?_
      refine L_yes rfl rfl rfl (decide_eq_true h5) ?_
      refine L_run (R_load1 rfl scl3 (hb1.cell (i := 5) rfl)) rfl ?_
      refine L_yes rfl rfl rfl (decide_eq_true h5) ?_
      refine L_run (R_leq rfl rfl) rfl ?_
      refine L_run (R_pickT rfl (decide_eq_true h5) rfl) rfl ?_
      refine L_run (R_assign rfl) rfl ?_
      refine L_nil (N_then (C_seq (C_reg rfl ?_)))
      refine L_run (R_move rfl) rfl ?_
      refine L_run (R_move rfl) rfl ?_
      refine L_splitD (p := c.next ≤ 2147483647) (fun h6 => ?_) (fun h6 => ?_)
      ·refine L_yes rfl rfl rfl (decide_eq_true h6) ?_
       refine L_run (R_field (r := 1) rfl fld34_1 rfl) rfl ?_
       refine L_yes rfl rfl rfl (decide_eq_true h6) ?_
       refine L_run (R_load1 rfl scl4 (hb1.cell (i := 1) rfl)) rfl ?_
       refine L_yes rfl rfl rfl (decide_eq_true h6) ?_
       refine L_run (R_move rfl) rfl ?_
       refine L_split c.was (fun h7 => ?_) (fun h7 => ?_)
       ·refine L_no rfl rfl rfl h7 rfl ?_
        refine L_no rfl rfl rfl h7 rfl ?_
        refine L_no rfl rfl rfl h7 rfl ?_
        refine L_yes rfl rfl rfl (decide_eq_true h6) ?_
        refine L_run (R_pickT rfl h7 rfl) rfl ?_
        refine L_run (R_pickT rfl (decide_eq_true h6) rfl) rfl ?_
        refine L_run (R_move rfl) rfl ?_
        refine L_yes rfl rfl rfl rfl ?_
        refine L_run (R_field (r := 2) rfl fld34_2 rfl) rfl ?_
        refine L_yes rfl rfl rfl rfl ?_
        refine L_run (R_load1 rfl scl4 (hb1.cell (i := 2) rfl)) rfl ?_
        refine L_yes rfl rfl rfl rfl ?_
        refine L_run (R_move rfl) rfl ?_
        refine L_split c.is (fun h8 => ?_) (fun h8 => ?_)
        ·refine L_no rfl rfl rfl h8 rfl ?_
         refine L_no rfl rfl rfl h8 rfl ?_
         refine L_no rfl rfl rfl h8 rfl ?_
         refine L_yes rfl rfl rfl rfl ?_
         refine L_run (R_pickT rfl h8 rfl) rfl ?_
         refine L_run (R_pickT rfl rfl rfl) rfl ?_
         refine L_run (R_assign rfl) rfl ?_
         refine L_nil (N_then (C_ret ?_))
         refine ret1 Try.results8 rfl ?_
         refine ⟨hB, bT ?_⟩; have hk_ := empty_iff c.key; have ho_ := empty_iff c.old; have hn_ := empty_iff c.new; clear hB; unfold Rt; grind
        ·refine L_yes rfl rfl rfl h8 ?_
         refine L_run (R_field (r := 4) rfl fld34_4 rfl) rfl ?_
         refine L_yes rfl rfl rfl h8 ?_
         refine L_run (R_load1 rfl scl9 (hb1.cell (i := 4) rfl)) rfl ?_
         refine L_yes rfl rfl rfl h8 ?_
         refine L_run (R_eqlS rfl rfl) rfl ?_
         refine L_yes rfl rfl rfl rfl ?_
         refine L_run (R_pickF rfl h8 rfl) rfl ?_
         refine L_run (R_pickT rfl rfl rfl) rfl ?_
         refine L_run (R_assign rfl) rfl ?_
         refine L_nil (N_then (C_ret ?_))
         refine ret1 Try.results8 rfl ?_
         refine ⟨hB, bD ?_⟩; have hk_ := empty_iff c.key; have ho_ := empty_iff c.old; have hn_ := empty_iff c.new; clear hB; unfold Rt; grind
       ·refine L_yes rfl rfl rfl h7 ?_
        refine L_run (R_field (r := 3) rfl fld34_3 rfl) rfl ?_
        refine L_yes rfl rfl rfl h7 ?_
        refine L_run (R_load1 rfl scl9 (hb1.cell (i := 3) rfl)) rfl ?_
        refine L_yes rfl rfl rfl h7 ?_
        refine L_run (R_eqlS rfl rfl) rfl ?_
        refine L_yes rfl rfl rfl (decide_eq_true h6) ?_
        refine L_run (R_pickF rfl h7 rfl) rfl ?_
        refine L_run (R_pickT rfl (decide_eq_true h6) rfl) rfl ?_
        refine L_run (R_move rfl) rfl ?_
        refine L_splitD (p := c.old = ⟨#[]⟩) (fun h9 => ?_) (fun h9 => ?_)
        ·refine L_yes rfl rfl rfl (decide_eq_true h9) ?_
         refine L_run (R_field (r := 2) rfl fld34_2 rfl) rfl ?_
         refine L_yes rfl rfl rfl (decide_eq_true h9) ?_
         refine L_run (R_load1 rfl scl4 (hb1.cell (i := 2) rfl)) rfl ?_
         refine L_yes rfl rfl rfl (decide_eq_true h9) ?_
         refine L_run (R_move rfl) rfl ?_
         refine L_split c.is (fun h10 => ?_) (fun h10 => ?_)
         ·refine L_no rfl rfl rfl h10 rfl ?_
          refine L_no rfl rfl rfl h10 rfl ?_
          refine L_no rfl rfl rfl h10 rfl ?_
          refine L_yes rfl rfl rfl (decide_eq_true h9) ?_
          refine L_run (R_pickT rfl h10 rfl) rfl ?_
          refine L_run (R_pickT rfl (decide_eq_true h9) rfl) rfl ?_
          refine L_run (R_assign rfl) rfl ?_
          refine L_nil (N_then (C_ret ?_))
          refine ret1 Try.results8 rfl ?_
          refine ⟨hB, bT ?_⟩; have hk_ := empty_iff c.key; have ho_ := empty_iff c.old; have hn_ := empty_iff c.new; clear hB; unfold Rt; grind
         ·refine L_yes rfl rfl rfl h10 ?_
          refine L_run (R_field (r := 4) rfl fld34_4 rfl) rfl ?_
          refine L_yes rfl rfl rfl h10 ?_
          refine L_run (R_load1 rfl scl9 (hb1.cell (i := 4) rfl)) rfl ?_
          refine L_yes rfl rfl rfl h10 ?_
          refine L_run (R_eqlS rfl rfl) rfl ?_
          refine L_yes rfl rfl rfl (decide_eq_true h9) ?_
          refine L_run (R_pickF rfl h10 rfl) rfl ?_
          refine L_run (R_pickT rfl (decide_eq_true h9) rfl) rfl ?_
          refine L_run (R_assign rfl) rfl ?_
          refine L_nil (N_then (C_ret ?_))
          refine ret1 Try.results8 rfl ?_
          refine ⟨hB, bD ?_⟩; have hk_ := empty_iff c.key; have ho_ := empty_iff c.old; have hn_ := empty_iff c.new; clear hB; unfold Rt; grind
        ·refine L_no rfl rfl rfl (decide_eq_false h9) rfl ?_
         refine L_no rfl rfl rfl (decide_eq_false h9) rfl ?_
         refine L_no rfl rfl rfl (decide_eq_false h9) rfl ?_
         refine L_noU rfl rfl rfl rfl ?_
         refine L_noU rfl rfl rfl rfl ?_
         refine L_noU rfl rfl rfl rfl ?_
         refine L_no rfl rfl rfl (decide_eq_false h9) rfl ?_
         refine L_run (R_pickF rfl (decide_eq_false h9) rfl) rfl ?_
         refine L_run (R_assign rfl) rfl ?_
         refine L_nil (N_then (C_ret ?_))
         refine ret1 Try.results8 rfl ?_
         refine ⟨hB, bF ?_⟩; have hk_ := empty_iff c.key; have ho_ := empty_iff c.old; have hn_ := empty_iff c.new; clear hB; unfold Rt; grind
      ·refine L_no rfl rfl rfl (decide_eq_false h6) rfl ?_
       refine L_no rfl rfl rfl (decide_eq_false h6) rfl ?_
       refine L_no rfl rfl rfl (decide_eq_false h6) rfl ?_
       refine L_noU rfl rfl rfl rfl ?_
       refine L_noU rfl rfl rfl rfl ?_
       refine L_noU rfl rfl rfl rfl ?_
       refine L_no rfl rfl rfl (decide_eq_false h6) rfl ?_
       refine L_run (R_pickF rfl (decide_eq_false h6) rfl) rfl ?_
       refine L_run (R_move rfl) rfl ?_
       refine L_no rfl rfl rfl rfl rfl ?_
       refine L_no rfl rfl rfl rfl rfl ?_
       refine L_no rfl rfl rfl rfl rfl ?_
       refine L_noU rfl rfl rfl rfl ?_
       refine L_noU rfl rfl rfl rfl ?_
       refine L_noU rfl rfl rfl rfl ?_
       refine L_no rfl rfl rfl rfl rfl ?_
       refine L_run (R_pickF rfl rfl rfl) rfl ?_
       refine L_run (R_assign rfl) rfl ?_
       refine L_nil (N_then (C_ret ?_))
       refine ret1 Try.results8 rfl ?_
       refine ⟨hB, bF ?_⟩; have hk_ := empty_iff c.key; have ho_ := empty_iff c.old; have hn_ := empty_iff c.new; clear hB; unfold Rt; grind
     ·refine L_no rfl rfl rfl (decide_eq_false h5) rfl ?_
      refine L_no rfl rfl rfl (decide_eq_false h5) rfl ?_
      refine L_no rfl rfl rfl (decide_eq_false h5) rfl ?_
      refine L_run (R_pickF rfl (decide_eq_false h5) rfl) rfl ?_
      refine L_run (R_assign rfl) rfl ?_
      refine L_nil (N_then (C_seq (C_reg rfl ?_)))
      refine L_run (R_move rfl) rfl ?_
      refine L_run (R_move rfl) rfl ?_
      refine L_no rfl rfl rfl rfl rfl ?_
      refine L_no rfl rfl rfl rfl rfl ?_
      refine L_no rfl rfl rfl rfl rfl ?_
      refine L_noU rfl rfl rfl rfl ?_
      refine L_noU rfl rfl rfl rfl ?_
      refine L_noU rfl rfl rfl rfl ?_
      refine L_no rfl rfl rfl rfl rfl ?_
      refine L_run (R_pickF rfl rfl rfl) rfl ?_
      refine L_run (R_move rfl) rfl ?_
      refine L_no rfl rfl rfl rfl rfl ?_
      refine L_no rfl rfl rfl rfl rfl ?_
      refine L_no rfl rfl rfl rfl rfl ?_
      refine L_noU rfl rfl rfl rfl ?_
      refine L_noU rfl rfl rfl rfl ?_
      refine L_noU rfl rfl rfl rfl ?_
      refine L_no rfl rfl rfl rfl rfl ?_
      refine L_run (R_pickF rfl rfl rfl) rfl ?_
      refine L_run (R_assign rfl) rfl ?_
      refine L_nil (N_then (C_ret ?_))
      refine ret1 Try.results8 rfl ?_
      refine ⟨hB, bF ?_⟩; have hk_ := empty_iff c.key; have ho_ := empty_iff c.old; have hn_ := empty_iff c.new; clear hB; unfold Rt; grind
    ·refine L_no rfl rfl rfl (decide_eq_false h4) rfl ?_
     refine L_no rfl rfl rfl (decide_eq_false h4) rfl ?_
     refine L_no rfl rfl rfl (decide_eq_false h4) rfl ?_
     refine L_run (R_pickF rfl (decide_eq_false h4) rfl) rfl ?_
     refine L_run (R_move rfl) rfl ?_
     refine L_no rfl rfl rfl rfl rfl ?_
     refine L_no rfl rfl rfl rfl rfl ?_
     refine L_no rfl rfl rfl rfl rfl ?_
     refine L_run (R_pickF rfl rfl rfl) rfl ?_
     refine L_run (R_assign rfl) rfl ?_
     refine L_nil (N_then (C_seq (C_reg rfl ?_)))
     refine L_run (R_move rfl) rfl ?_
     refine L_run (R_move rfl) rfl ?_
     refine L_no rfl rfl rfl rfl rfl ?_
     refine L_no rfl rfl rfl rfl rfl ?_
     refine L_no rfl rfl rfl rfl rfl ?_
     refine L_noU rfl rfl rfl rfl ?_
     refine L_noU rfl rfl rfl rfl ?_
     refine L_noU rfl rfl rfl rfl ?_
     refine L_no rfl rfl rfl rfl rfl ?_
     refine L_run (R_pickF rfl rfl rfl) rfl ?_
     refine L_run (R_move rfl) rfl ?_
     refine L_no rfl rfl rfl rfl rfl ?_
     refine L_no rfl rfl rfl rfl rfl ?_
     refine L_no rfl rfl rfl rfl rfl ?_
     refine L_noU rfl rfl rfl rfl ?_
     refine L_noU rfl rfl rfl rfl ?_
     refine L_noU rfl rfl rfl rfl ?_
     refine L_no rfl rfl rfl rfl rfl ?_
     refine L_run (R_pickF rfl rfl rfl) rfl ?_
     refine L_run (R_assign rfl) rfl ?_
     refine L_nil (N_then (C_ret ?_))
     refine ret1 Try.results8 rfl ?_
     refine ⟨hB, bF ?_⟩; have hk_ := empty_iff c.key; have ho_ := empty_iff c.old; have hn_ := empty_iff c.new; clear hB; unfold Rt; grind
   ·refine L_no rfl rfl rfl (decide_eq_false h3) rfl ?_
    refine L_no rfl rfl rfl (decide_eq_false h3) rfl ?_
    refine L_no rfl rfl rfl (decide_eq_false h3) rfl ?_
    refine L_no rfl rfl rfl (decide_eq_false h3) rfl ?_
    refine L_run (R_pickF rfl (decide_eq_false h3) rfl) rfl ?_
    refine L_run (R_move rfl) rfl ?_
    refine L_no rfl rfl rfl rfl rfl ?_
    refine L_no rfl rfl rfl rfl rfl ?_
    refine L_no rfl rfl rfl rfl rfl ?_
    refine L_run (R_pickF rfl rfl rfl) rfl ?_
    refine L_run (R_move rfl) rfl ?_
    refine L_no rfl rfl rfl rfl rfl ?_
    refine L_no rfl rfl rfl rfl rfl ?_
    refine L_no rfl rfl rfl rfl rfl ?_
    refine L_run (R_pickF rfl rfl rfl) rfl ?_
    refine L_run (R_assign rfl) rfl ?_
    refine L_nil (N_then (C_seq (C_reg rfl ?_)))
    refine L_run (R_move rfl) rfl ?_
    refine L_run (R_move rfl) rfl ?_
    refine L_no rfl rfl rfl rfl rfl ?_
    refine L_no rfl rfl rfl rfl rfl ?_
    refine L_no rfl rfl rfl rfl rfl ?_
    refine L_noU rfl rfl rfl rfl ?_
    refine L_noU rfl rfl rfl rfl ?_
    refine L_noU rfl rfl rfl rfl ?_
    refine L_no rfl rfl rfl rfl rfl ?_
    refine L_run (R_pickF rfl rfl rfl) rfl ?_
    refine L_run (R_move rfl) rfl ?_
    refine L_no rfl rfl rfl rfl rfl ?_
    refine L_no rfl rfl rfl rfl rfl ?_
    refine L_no rfl rfl rfl rfl rfl ?_
    refine L_noU rfl rfl rfl rfl ?_
    refine L_noU rfl rfl rfl rfl ?_
    refine L_noU rfl rfl rfl rfl ?_
    refine L_no rfl rfl rfl rfl rfl ?_
    refine L_run (R_pickF rfl rfl rfl) rfl ?_
    refine L_run (R_assign rfl) rfl ?_
    refine L_nil (N_then (C_ret ?_))
    refine ret1 Try.results8 rfl ?_
    refine ⟨hB, bF ?_⟩; have hk_ := empty_iff c.key; have ho_ := empty_iff c.old; have hn_ := empty_iff c.new; clear hB; unfold Rt; grind
  ·refine L_no rfl rfl rfl (decide_eq_false h2) rfl ?_
   refine L_no rfl rfl rfl (decide_eq_false h2) rfl ?_
   refine L_no rfl rfl rfl (decide_eq_false h2) rfl ?_
   refine L_no rfl rfl rfl (decide_eq_false h2) rfl ?_
   refine L_run (R_pickF rfl (decide_eq_false h2) rfl) rfl ?_
   refine L_run (R_move rfl) rfl ?_
   refine L_no rfl rfl rfl rfl rfl ?_
   refine L_no rfl rfl rfl rfl rfl ?_
   refine L_no rfl rfl rfl rfl rfl ?_
   refine L_no rfl rfl rfl rfl rfl ?_
   refine L_run (R_pickF rfl rfl rfl) rfl ?_
   refine L_run (R_move rfl) rfl ?_
   refine L_no rfl rfl rfl rfl rfl ?_
   refine L_no rfl rfl rfl rfl rfl ?_
   refine L_no rfl rfl rfl rfl rfl ?_
   refine L_run (R_pickF rfl rfl rfl) rfl ?_
   refine L_run (R_move rfl) rfl ?_
   refine L_no rfl rfl rfl rfl rfl ?_
   refine L_no rfl rfl rfl rfl rfl ?_
   refine L_no rfl rfl rfl rfl rfl ?_
   refine L_run (R_pickF rfl rfl rfl) rfl ?_
   refine L_run (R_assign rfl) rfl ?_
   refine L_nil (N_then (C_seq (C_reg rfl ?_)))
   refine L_run (R_move rfl) rfl ?_
   refine L_run (R_move rfl) rfl ?_
   refine L_no rfl rfl rfl rfl rfl ?_
   refine L_no rfl rfl rfl rfl rfl ?_
   refine L_no rfl rfl rfl rfl rfl ?_
   refine L_noU rfl rfl rfl rfl ?_
   refine L_noU rfl rfl rfl rfl ?_
   refine L_noU rfl rfl rfl rfl ?_
   refine L_no rfl rfl rfl rfl rfl ?_
   refine L_run (R_pickF rfl rfl rfl) rfl ?_
   refine L_run (R_move rfl) rfl ?_
   refine L_no rfl rfl rfl rfl rfl ?_
   refine L_no rfl rfl rfl rfl rfl ?_
   refine L_no rfl rfl rfl rfl rfl ?_
   refine L_noU rfl rfl rfl rfl ?_
   refine L_noU rfl rfl rfl rfl ?_
   refine L_noU rfl rfl rfl rfl ?_
   refine L_no rfl rfl rfl rfl rfl ?_
   refine L_run (R_pickF rfl rfl rfl) rfl ?_
   refine L_run (R_assign rfl) rfl ?_
   refine L_nil (N_then (C_ret ?_))
   refine ret1 Try.results8 rfl ?_
   refine ⟨hB, bF ?_⟩; have hk_ := empty_iff c.key; have ho_ := empty_iff c.old; have hn_ := empty_iff c.new; clear hB; unfold Rt; grind
 ·refine L_no rfl rfl rfl (decide_eq_false h1) rfl ?_
  refine L_no rfl rfl rfl (decide_eq_false h1) rfl ?_
  refine L_no rfl rfl rfl (decide_eq_false h1) rfl ?_
  refine L_no rfl rfl rfl (decide_eq_false h1) rfl ?_
  refine L_run (R_pickF rfl (decide_eq_false h1) rfl) rfl ?_
  refine L_run (R_move rfl) rfl ?_
  refine L_no rfl rfl rfl rfl rfl ?_
  refine L_no rfl rfl rfl rfl rfl ?_
  refine L_no rfl rfl rfl rfl rfl ?_
  refine L_no rfl rfl rfl rfl rfl ?_
  refine L_run (R_pickF rfl rfl rfl) rfl ?_
  refine L_run (R_move rfl) rfl ?_
  refine L_no rfl rfl rfl rfl rfl ?_
  refine L_no rfl rfl rfl rfl rfl ?_
  refine L_no rfl rfl rfl rfl rfl ?_
  refine L_no rfl rfl rfl rfl rfl ?_
  refine L_run (R_pickF rfl rfl rfl) rfl ?_
  refine L_run (R_move rfl) rfl ?_
  refine L_no rfl rfl rfl rfl rfl ?_
  refine L_no rfl rfl rfl rfl rfl ?_
  refine L_no rfl rfl rfl rfl rfl ?_
  refine L_run (R_pickF rfl rfl rfl) rfl ?_
  refine L_run (R_move rfl) rfl ?_
  refine L_no rfl rfl rfl rfl rfl ?_
  refine L_no rfl rfl rfl rfl rfl ?_
  refine L_no rfl rfl rfl rfl rfl ?_
  refine L_run (R_pickF rfl rfl rfl) rfl ?_
  refine L_run (R_assign rfl) rfl ?_
  refine L_nil (N_then (C_seq (C_reg rfl ?_)))
  refine L_run (R_move rfl) rfl ?_
  refine L_run (R_move rfl) rfl ?_
  refine L_no rfl rfl rfl rfl rfl ?_
  refine L_no rfl rfl rfl rfl rfl ?_
  refine L_no rfl rfl rfl rfl rfl ?_
  refine L_noU rfl rfl rfl rfl ?_
  refine L_noU rfl rfl rfl rfl ?_
  refine L_noU rfl rfl rfl rfl ?_
  refine L_no rfl rfl rfl rfl rfl ?_
  refine L_run (R_pickF rfl rfl rfl) rfl ?_
  refine L_run (R_move rfl) rfl ?_
  refine L_no rfl rfl rfl rfl rfl ?_
  refine L_no rfl rfl rfl rfl rfl ?_
  refine L_no rfl rfl rfl rfl rfl ?_
  refine L_noU rfl rfl rfl rfl ?_
  refine L_noU rfl rfl rfl rfl ?_
  refine L_noU rfl rfl rfl rfl ?_
  refine L_no rfl rfl rfl rfl rfl ?_
  refine L_run (R_pickF rfl rfl rfl) rfl ?_
  refine L_run (R_assign rfl) rfl ?_
  refine L_nil (N_then (C_ret ?_))
  refine ret1 Try.results8 rfl ?_
  refine ⟨hB, bF ?_⟩; have hk_ := empty_iff c.key; have ho_ := empty_iff c.old; have hn_ := empty_iff c.new; clear hB; unfold Rt; grind

theorem text_ok {w : World} {g t1 lo hi : Nat} {A : Option Addr} {c : Nat} {e : Int} {wd : Bool} {bs : List UInt8} (hb : Blk w g 134 [.slice A bs.length c, .int .i64 e]) (hS : Sli t1 lo hi w A (fl encB bs)) (hgi : hi ≤ g) (hl : bs.length ≤ 1000000) (hc : bs.length ≤ c) :
    Runs Try.prog 60 #[.pointer (some ⟨g, 0, none⟩), .bool wd] w (fun v w' => w.grownBy w' (some g) ∧ v = .string (decT e wd bs).1 ∧ ∃ A' c', Blk w' g 134 [.slice A' (decT e wd bs).2.2.length c', .int .i64 (decT e wd bs).2.1] ∧ Sli t1 lo hi w' A' (fl encB (decT e wd bs).2.2) ∧ (decT e wd bs).2.2.length ≤ c') := by
 have hB := gb_refl w (some g)
 have hfb := (fget_bound bs).1
 refine enter Try.func60 Try.ntmps60 rfl rfl ?_
 refine C_seq (C_reg rfl ?_)
 refine L_run (R_assign rfl) rfl ?_
 refine L_nil (N_then (C_seq (C_seq (C_reg rfl ?_))))
 refine L_run (R_move rfl) rfl ?_
 refine L_run (R_nilck rfl) rfl ?_
 refine L_run (R_field (r := 1) rfl fld134_1 rfl) rfl ?_
 refine L_run (R_load1 rfl scl42 (hb.cell (i := 1) rfl)) rfl ?_
 refine L_run (R_neq rfl rfl) rfl ?_
 refine L_run (R_move rfl) rfl ?_
 refine L_splitD (p := e ≠ 0) (fun h1 => ?_) (fun h1 => ?_)
 ·refine L_no rfl rfl rfl (decide_eq_true h1) rfl ?_
  refine L_no rfl rfl rfl (decide_eq_true h1) rfl ?_
  refine L_run (R_pickT rfl (decide_eq_true h1) rfl) rfl ?_
  refine L_nil (N_then (C_condT rfl rfl (C_seq (C_reg rfl ?_))))
  refine L_run (R_assign rfl) rfl ?_
  refine L_nil (N_then (C_ret (R_then ?_)))
  refine ret1 Try.results60 rfl ?_
  have e_ := decT_no (e := e) (wd := wd) (bs := bs) (by first | exact .inl (by omega) | exact .inr (by simp_all))
  rw [e_]; exact ⟨hB, rfl, _, _, hb, hS, hc⟩
 ·refine L_yes rfl rfl rfl (decide_eq_false h1) ?_
  refine L_run (R_move rfl) rfl ?_
  refine L_yes rfl rfl rfl (decide_eq_false h1) ?_
  refine L_run (R_not rfl) rfl ?_
  refine L_run (R_pickF rfl (decide_eq_false h1) rfl) rfl ?_
  refine L_nil (N_then ?_)
  refine C_cond rfl (fun h2 => ?_) (fun h2 => ?_)
  ·refine C_seq (C_reg rfl ?_)
   refine L_run (R_assign rfl) rfl ?_
   refine L_nil (N_then (C_ret (R_then ?_)))
   refine ret1 Try.results60 rfl ?_
   have e_ := decT_no (e := e) (wd := wd) (bs := bs) (by first | exact .inl (by omega) | exact .inr (by simp_all))
   rw [e_]; exact ⟨hB, rfl, _, _, hb, hS, hc⟩
  ·refine C_skip (N_then (C_seq (C_reg rfl ?_)))
   refine L_run (R_move rfl) rfl ?_
   refine L_run (R_nilck rfl) rfl ?_
   refine L_run (R_field (r := 0) rfl fld134_0 rfl) rfl ?_
   refine L_run (R_load1 rfl scl63 (hb.cell (i := 0) rfl)) rfl ?_
   have ge1 : w.heap.size ≤ w.heap.size := hB.size
   refine L_call rfl cb75 (field_Get (bs := bs) hS (by omega) hc) rfl ?_
   rintro _ w1 ⟨hs1, A_1, c_1, rfl, ho1⟩
   replace hB := gb_tr hB hs1
   replace hb := hb.gb hs1
   replace hS := hS.gb hs1
   have hlo1 : w.heap.size ≤ w1.heap.size := hs1.size
   refine L_run (R_move rfl) rfl ?_
   refine L_run (R_extract rfl rfl) rfl ?_
   refine L_run (R_extract rfl rfl) rfl ?_
   refine L_run (R_extract rfl rfl) rfl ?_
   refine L_run (R_assign rfl) rfl ?_
   refine L_run (R_assign rfl) rfl ?_
   refine L_run (R_assign rfl) rfl ?_
   refine L_nil (N_then (C_seq (C_reg rfl ?_)))
   refine L_run (R_move rfl) rfl ?_
   refine L_run (R_move rfl) rfl ?_
   refine L_run (R_nilck rfl) rfl ?_
   refine L_run (R_field (r := 1) rfl fld134_1 rfl) rfl ?_
   refine L_st1 rfl rfl rfl sz42 hb rfl ?_
   intro w2 hb1 hs2 hz1
   replace hB := gb_trans hB hs2
   replace hS := hS.old hs2 hgi
   replace ho1 := own_other ho1 hb rfl hs2
   replace hlo1 := Nat.le_trans hlo1 hs2.size
   refine L_nil (N_then (C_seq (C_reg rfl ?_)))
   refine L_run (R_move rfl) rfl ?_
   refine L_run (R_move rfl) rfl ?_
   refine L_run (R_nilck rfl) rfl ?_
   refine L_run (R_field (r := 0) rfl fld134_0 rfl) rfl ?_
   refine L_run (R_load1 rfl scl63 (hb1.cell (i := 0) rfl)) rfl ?_
   refine L_run (R_move rfl) rfl ?_
   refine T_slL (xs := bs) (i := (fget bs).2.1) EncB rfl rfl (by first | rfl | omega) slc63 (by first | omega | (simp; done) | (simp; omega)) (by first | omega | (simp; done) | (simp; omega)) hS rfl ?_
   intro A_2 hS_1
   refine L_run (R_nilck rfl) rfl ?_
   refine L_run (R_field (r := 0) rfl fld134_0 rfl) rfl ?_
   refine L_st1 rfl rfl rfl sz63 hb1 rfl ?_
   intro w3 hb2 hs3 hz2
   replace hB := gb_trans hB hs3
   replace hS := hS.old hs3 hgi
   replace ho1 := own_other ho1 hb1 rfl hs3
   replace hlo1 := Nat.le_trans hlo1 hs3.size
   replace hS_1 := hS_1.grown hs3 (by rintro _ ⟨rfl⟩; omega)
   refine L_nil (N_then (C_seq (C_reg rfl ?_)))
   refine L_run (R_move rfl) rfl ?_
   refine L_run (R_b2s' (bs := (fget bs).1) rfl slc63 int5 str9 (own_of ho1).2.2) rfl ?_
   refine L_run (R_assign rfl) rfl ?_
   refine L_nil (N_then (C_ret ?_))
   refine ret1 Try.results60 rfl ?_
   have e_ := decT_go (e := e) (wd := wd) (bs := bs) (by rintro (h_ | h_) <;> simp_all)
   rw [e_]; exact ⟨hB, rfl, _, _, hb2, hS_1, (by show (bs.drop _).length ≤ _; rw [List.length_drop]; omega)⟩

end Go.Proofs.Ytbmohojdlgedpaa
