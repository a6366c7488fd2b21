/-
  Step lemmas, ninth part: texts read by place and cut, arrays of bytes. They hold of every program.
-/
import Derived.Test.YtkjgjejkfjhcjaaDoorGt
import Derived.Test.YtkjgjejkfjhcjaaDoorVr
namespace Go.Proofs.YtkjgjejkfjhcjaaDoor.Gw
open Go.RowKit Go.Proofs.YtkjgjejkfjhcjaaDoor.Pl
set_option linter.unusedVariables false
set_option linter.unusedSimpArgs false
def arrB (P : Program) (t e m sz : Nat) : Bool :=
  match P.underlying t with | some (.array m' e') => m == m' && e == e' && szB P e sz | _ => false
section
variable {P : Program} {Q : Exit → Act → World → Prop} {w w' : World} {ops : Array Oper} {rest : List Oper}
variable {n : Nat} {σ : Nat → Value} {ds : List Deferred} {l : Sl} {d : Nat} {ty : TypeId} {pos : String} {af : Array Edge} {dst : Option Nat} {gd : Option (Nat × Bool)}
variable {t e m sz : Nat} {x y y' : Operand} {k k' : IntKind} {a b : Int} {i j g o : Nat} {cs : List UInt8}
theorem arrB_u (h : arrB P t e m sz = true) : P.underlying t = some (.array m e) ∧ szB P e sz = true := by
  unfold arrB at h
  split at h
  · rename_i m' e' hu
    simp only [Bool.and_eq_true, beq_iff_eq] at h
    obtain ⟨⟨rfl, rfl⟩, h2⟩ := h
    exact ⟨hu, h2⟩
  · cases h
theorem ba_get {i : Nat} (hi : i < cs.length) : (⟨cs.toArray⟩ : ByteArray)[i]? = some cs[i] := by
  have h : i < (⟨cs.toArray⟩ : ByteArray).size := by show i < cs.toArray.size; simpa using hi
  rw [getElem?_pos _ i h]
  rfl
theorem ba_extract (i j : Nat) : (⟨cs.toArray⟩ : ByteArray).extract i j = ⟨((cs.drop i).take (j - i)).toArray⟩ := by
  apply ByteArray.ext
  rw [ByteArray.data_extract]
  apply Array.ext'
  simp [List.extract_eq_take_drop]
theorem ba_size : (⟨cs.toArray⟩ : ByteArray).size = cs.length := by show cs.toArray.size = _; simp
theorem R_indexS (hx : ev n l x = some (.string ⟨cs.toArray⟩)) (hy : ev n l y = some (.int k a)) (ha : a = (i : Int)) (hs : strB P t = true) (hi : i < cs.length) :
    (execOp (Ac n σ ds l).eval ⟨dst, .index t x y, ty, pos, af, gd⟩).run P w = .ok (.value (.int .u8 (cs[i].toNat : Int))) w := by
  subst ha
  simp only [execOp, ev_eval hx, ev_eval hy]
  refine v_run ?_
  simp [Instr.index, asIntOf, run_underlying (strB_u hs), ba_get hi]
theorem R_slSLH (hx : ev n l x = some (.string ⟨cs.toArray⟩)) (hy : ev n l y = some (.int k a)) (hy' : ev n l y' = some (.int k' b)) (ha : a = (i : Int)) (hb : b = (j : Int)) (hs : strB P t = true) (hij : i ≤ j) (hj : j ≤ cs.length) :
    (execOp (Ac n σ ds l).eval ⟨dst, .slice t x (some y) (some y') none, ty, pos, af, gd⟩).run P w = .ok (.value (.string ⟨((cs.drop i).take (j - i)).toArray⟩)) w := by
  subst ha; subst hb
  simp only [execOp, Option.map_some, Option.map_none, ev_eval hx, ev_eval hy, ev_eval hy']
  refine v_run ?_
  rw [run_sliceAt_string _ _ _ _ _ _ (strB_u hs), ← ba_extract]
  simp [Instr.slice, run_underlying (strB_u hs), Instr.sliceBounds, Instr.sliceBound, asIntOf, ba_size, hj, hij]
theorem R_slSL (hx : ev n l x = some (.string ⟨cs.toArray⟩)) (hy : ev n l y = some (.int k a)) (ha : a = (i : Int)) (hs : strB P t = true) (hi : i ≤ cs.length) :
    (execOp (Ac n σ ds l).eval ⟨dst, .slice t x (some y) none none, ty, pos, af, gd⟩).run P w = .ok (.value (.string ⟨(cs.drop i).toArray⟩)) w := by
  subst ha
  simp only [execOp, Option.map_some, Option.map_none, ev_eval hx, ev_eval hy]
  refine v_run ?_
  rw [run_sliceAt_string _ _ _ _ _ _ (strB_u hs), run_slice_string_l w t _ (strB_u hs) k _ (by omega) (by rw [ba_size]; omega), ba_extract, ba_size, show (i : Int).toNat = i from rfl, List.take_of_length_le (by simp)]
theorem R_slSH (hx : ev n l x = some (.string ⟨cs.toArray⟩)) (hy : ev n l y = some (.int k a)) (ha : a = (i : Int)) (hs : strB P t = true) (hi : i ≤ cs.length) :
    (execOp (Ac n σ ds l).eval ⟨dst, .slice t x none (some y) none, ty, pos, af, gd⟩).run P w = .ok (.value (.string ⟨(cs.take i).toArray⟩)) w := by
  subst ha
  simp only [execOp, Option.map_some, Option.map_none, ev_eval hx, ev_eval hy]
  refine v_run ?_
  rw [run_sliceAt_string _ _ _ _ _ _ (strB_u hs), run_slice_string_h w t _ (strB_u hs) k _ (by omega) (by rw [ba_size]; omega), ba_extract, List.drop_zero]
  rfl
theorem R_neg (hx : ev n l x = some (.int k a)) :
    (execOp (Ac n σ ds l).eval ⟨dst, .unOp .neg t x, ty, pos, af, gd⟩).run P w = .ok (.value (.int k (k.wrap (-a)))) w := by simp [execOp, ev_eval hx, Op.unary, Op.intArith]
theorem R_indexArr {r : Nat} (hx : ev n l x = some (.pointer (some ⟨g, o, none⟩))) (hy : ev n l y = some (.int k a)) (ha : a = (i : Int)) (hs : arrB P t e m sz = true) (hi : i < m) (hr : o + i * sz = r) :
    (execOp (Ac n σ ds l).eval ⟨dst, .indexAddr t x y, ty, pos, af, gd⟩).run P w = .ok (.value (.pointer (some ⟨g, r, none⟩))) w := by
  obtain ⟨hu, hz⟩ := arrB_u hs
  subst ha; subst hr
  simp only [execOp, ev_eval hx, ev_eval hy]
  refine v_run ?_
  simp [Instr.indexAt, asIntOf, run_underlying hu, Instr.sureAddr, hi, run_sizeOf hz, Addr.add_lit]
theorem L_st1v {T : TypeId} {v : Value} {cs : List Value} (hx : ev n l x = some (.pointer (some ⟨g, i, none⟩))) (hy : ev n l y = some v) (hv : v.oneCell' = true) (hz : szB P t 1 = true)
    (hb : Blk w g T cs) (hi : i < cs.length)
    (K : ∀ w', Blk w' g T (cs.set i v) → w.grownBy w' (some g) → w'.heap.size = w.heap.size → wpL P ops Q rest (Ac n σ ds l) w') :
    wpL P ops Q (⟨none, .store t x y, ty, pos, af, none⟩ :: rest) (Ac n σ ds l) w :=
  L_st1 hx hy hv hz hb (by rw [Nat.blt_eq]; exact hi) K
theorem fl_setB {bs : List UInt8} {i : Nat} {b : UInt8} (hi : i < bs.length) : (fl encB bs).set i (.int .u8 (b.toNat : Int)) = fl encB (bs.set i b) := by
  rw [← byts_fl, ← byts_fl]
  unfold byts
  rw [List.map_set]
  rfl
theorem T_slArr {bs : List UInt8} (hx : ev n l x = some (.pointer (some ⟨g, 0, none⟩))) (hy : ev n l y = some (.int k a)) (ha : a = (i : Int)) (hs : arrB P t e m 1 = true) (hi : i ≤ m) {T : TypeId} (hb : Blk w g T (fl encB bs)) (hm : bs.length = m) (hn : Nat.blt d n = true)
    (K : ∀ A', Sli 0 g (g + 1) w A' (fl encB (bs.drop i)) → wpL P ops Q rest (Ac n σ ds ((d, .slice A' (bs.drop i).length (m - i)) :: l)) w) :
    wpL P ops Q (⟨some d, .slice t x (some y) none none, ty, pos, af, none⟩ :: rest) (Ac n σ ds l) w := by
  obtain ⟨hu, hz⟩ := arrB_u hs
  subst ha
  refine L_run (v := .slice (some (if m = i then ⟨g, 0, none⟩ else ⟨g, i, none⟩)) (bs.drop i).length (m - i)) ?_ hn (K _ ?_)
  · simp only [execOp, Option.map_some, Option.map_none, ev_eval hx, ev_eval hy]
    refine v_run ?_
    have h1 : ¬ ((m : Int) < (i : Int)) := by omega
    simp [Instr.sliceAt, run_underlying hu, Instr.sureAddr, Instr.sliceBounds, run_sliceBound, run_sizeOf hz, hi, hm, Addr.add_lit]
  · rcases Nat.lt_or_ge i m with h | h
    · rw [if_neg (by omega)]
      refine .inr ⟨g, i, _, _, rfl, Nat.le_refl _, Nat.lt_succ_self _, ⟨T, hb, .inl rfl⟩, fun j v hj => ?_⟩
      have e1 := fl_drop (enc := encB) EncB i bs
      rw [Nat.mul_one] at e1
      rw [← e1, List.getElem?_drop] at hj
      simpa using hj
    · left
      rw [List.drop_of_length_le (by omega)]
      rfl
end
theorem wf64 {n : Int} (h : (Lit.int .i64 n).wf = true) : -9223372036854775808 ≤ n ∧ n ≤ 9223372036854775807 := by
  simp [Lit.wf] at h
  have e1 : IntKind.i64.min = -9223372036854775808 := rfl
  have e2 : IntKind.i64.max = 9223372036854775807 := rfl
  omega
end Go.Proofs.YtkjgjejkfjhcjaaDoor.Gw
