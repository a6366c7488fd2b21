/-
  Step lemmas, second part: what each operation does. They hold of every program.
-/
import Derived.Test.YtkjgjejkfjhcjaaDoorGw
namespace Go.Proofs.YtkjgjejkfjhcjaaDoor.Gw
open Go.RowKit
set_option linter.unusedVariables false
set_option linter.unusedSimpArgs false

/-! ### facts of types, as Bools that the kernel reckons -/
def fldB (P : Program) (t f off : Nat) : Bool :=
  match P.underlying t with
  | some (.struct fs) => (match fs[f]? with | some x => x.offset == off && (match P.info? x.type with | some i => i.size != 0 | none => false) | none => false)
  | _ => false
/-- The type's underlying one is neither struct nor array. -/
def sclB (P : Program) (t : Nat) : Bool :=
  match P.underlying t with | some (.struct _) => false | some (.array _ _) => false | some _ => true | none => false
def aggB (P : Program) (t sz : Nat) : Bool :=
  (match P.underlying t with | some (.struct _) => true | some (.array _ _) => true | _ => false) && (match P.info? t with | some i => i.size == sz | none => false)
def szB (P : Program) (t sz : Nat) : Bool := match P.info? t with | some i => i.size == sz | none => false
def intB (P : Program) (t : Nat) (k : IntKind) : Bool := match P.underlying t with | some (.int k') => k == k' | _ => false
def strB (P : Program) (t : Nat) : Bool := match P.underlying t with | some .string => true | _ => false
def slcB (P : Program) (t e sz bytes : Nat) : Bool :=
  match P.underlying t with | some (.slice e') => e == e' && (match P.info? e with | some i => i.size == sz && i.bytes == bytes && sz != 0 && bytes != 0 && (match i.zero with | some z => z.cells.size == sz | none => false) | none => false) | _ => false
def anyB (P : Program) (t : Nat) : Bool := (P.underlying t).isSome

section
variable {P : Program} {w w' : World}
theorem strB_u {t : Nat} (h : strB P t = true) : P.underlying t = some .string := by
  unfold strB at h; split at h <;> simp_all
theorem intB_u {t : Nat} {k : IntKind} (h : intB P t k = true) : P.underlying t = some (.int k) := by
  unfold intB at h; split at h <;> simp_all
theorem slcB_u {t e sz bytes : Nat} (h : slcB P t e sz bytes = true) :
    P.underlying t = some (.slice e) ∧ ∃ i z, P.info? e = some i ∧ i.zero = some z ∧ i.size = sz ∧ i.bytes = bytes ∧ z.cells.size = sz ∧ 0 < sz ∧ 0 < bytes := by
  unfold slcB at h
  split at h
  · rename_i e' hu
    simp only [Bool.and_eq_true, beq_iff_eq] at h
    obtain ⟨rfl, h⟩ := h
    split at h
    · rename_i i hi
      simp only [Bool.and_eq_true, beq_iff_eq, bne_iff_ne] at h
      obtain ⟨⟨⟨⟨h1, h2⟩, h3⟩, h4⟩, h5⟩ := h
      split at h5
      · rename_i z hz
        exact ⟨hu, i, z, hi, hz, h1, h2, by simpa using h5, by omega, by omega⟩
      · cases h5
    · cases h
  · cases h
theorem run_underlying' {t : Nat} {d : TypeDesc} (h : P.underlying t = some d) : (underlying t).run P w = .ok d w := run_underlying h w
theorem run_sizeOf {t sz : Nat} (h : szB P t sz = true) : (sizeOf t).run P w = .ok sz w := by
  unfold szB at h
  split at h
  · rename_i i hi
    have : i.size = sz := by simpa using h
    simp [sizeOf, typeInfo, hi, this]
  · cases h
theorem run_isAgg_no {t : Nat} (h : sclB P t = true) : (isAgg t).run P w = .ok false w := by
  unfold sclB at h
  split at h <;> first | cases h | skip
  rename_i d h1 h2 hu
  simp only [isAgg]
  cases d <;> simp_all [run_underlying hu]
theorem run_isAgg_yes {t sz : Nat} (h : aggB P t sz = true) : (isAgg t).run P w = .ok true w := by
  unfold aggB at h
  simp only [Bool.and_eq_true] at h
  obtain ⟨h1, _⟩ := h
  split at h1 <;> first | cases h1 | skip
  · rename_i hu; simp [isAgg, run_underlying hu]
  · rename_i hu; simp [isAgg, run_underlying hu]
theorem aggB_sz {t sz : Nat} (h : aggB P t sz = true) : szB P t sz = true := by
  unfold aggB at h; unfold szB
  simp only [Bool.and_eq_true] at h
  exact h.2
end

/-! ### one operation -/
section
variable {P : Program} {Q : Exit → Act → World → Prop} {w w' : World} {ops : Array Oper} {rest : List Oper}
variable {n : Nat} {σ : Nat → Value} {ds : List Deferred} {l : Sl} {d : Nat} {ty : TypeId} {pos : String} {af : Array Edge} {dst : Option Nat} {gd : Option (Nat × Bool)}
theorem v_run {s : Sem Value} {v : Value} (h : s.run P w = .ok v w') : ((do pure (Next.value (← s)) : Sem Next)).run P w = .ok (.value v) w' := by
  simp [h]
theorem u_run {s : Sem Unit} (h : s.run P w = .ok () w') : ((do s; pure Next.skip : Sem Next)).run P w = .ok .skip w' := by
  simp [h]
theorem L_run {op : Op} {v : Value} (hr : (execOp (Ac n σ ds l).eval ⟨some d, op, ty, pos, af, none⟩).run P w = .ok (.value v) w') (hn : Nat.blt d n = true)
    (K : wpL P ops Q rest (Ac n σ ds ((d, v) :: l)) w') : wpL P ops Q (⟨some d, op, ty, pos, af, none⟩ :: rest) (Ac n σ ds l) w := by
  unfold wpL
  rw [if_pos (by simp [Region.wanted])]
  left
  unfold Oper.wp
  rw [hr]
  simp only [Oper.upon]
  rw [Ac_put hn]
  exact K
theorem L_run0 {op : Op} (hr : (execOp (Ac n σ ds l).eval ⟨none, op, ty, pos, af, none⟩).run P w = .ok .skip w')
    (K : wpL P ops Q rest (Ac n σ ds l) w') : wpL P ops Q (⟨none, op, ty, pos, af, none⟩ :: rest) (Ac n σ ds l) w := by
  unfold wpL
  rw [if_pos (by simp [Region.wanted])]
  left
  unfold Oper.wp
  rw [hr]
  simp only [Oper.upon]
  exact K
/-- A guarded operation that is wanted. -/
theorem L_yes {op : Op} {dst : Option Nat} {j : Nat} {want : Bool} {oj : Oper} {t : Nat} {b : Bool} (hj : ops[j]? = some oj) (ht : oj.dst = some t) (hv : ev n l (.tmp t) = some (.bool b)) (hb : b = want)
    (K : wpL P ops Q (⟨dst, op, ty, pos, af, none⟩ :: rest) (Ac n σ ds l) w) : wpL P ops Q (⟨dst, op, ty, pos, af, some (j, want)⟩ :: rest) (Ac n σ ds l) w := by
  unfold wpL at K ⊢
  rw [if_pos (by simp [Region.wanted])] at K
  have hy : yielded ops (Ac n σ ds l).tmps j = some want := by
    simp only [yielded, hj, Option.bind_some, ht]
    have h1 := eval_tmp (σ := σ) hv
    rw [← hb]
    have hlt : t < n := by
      simp only [ev] at hv
      cases hx : Nat.blt t n with
      | false => rw [hx] at hv; cases hv
      | true => simpa [Nat.blt_eq] using hx
    have h2 : (fr n σ l)[t]? = some (.bool b) := by
      rw [← h1]; simp [Array.getD, fr, hlt]
    simp [Ac, h2]
  rw [if_pos (by simp [Region.wanted, hy])]
  exact K
theorem L_no {op : Op} {d : Nat} {j : Nat} {want : Bool} {oj : Oper} {t : Nat} {b : Bool} (hj : ops[j]? = some oj) (ht : oj.dst = some t) (hv : ev n l (.tmp t) = some (.bool b)) (hb : b = !want) (hn : Nat.blt d n = true)
    (K : wpL P ops Q rest (Ac n σ ds ((d, undef) :: l)) w) : wpL P ops Q (⟨some d, op, ty, pos, af, some (j, want)⟩ :: rest) (Ac n σ ds l) w := by
  unfold wpL
  have hy : yielded ops (Ac n σ ds l).tmps j = some (!want) := by
    simp only [yielded, hj, Option.bind_some, ht]
    have h1 := eval_tmp (σ := σ) hv
    rw [← hb]
    have hlt : t < n := by
      simp only [ev] at hv
      cases hx : Nat.blt t n with
      | false => rw [hx] at hv; cases hv
      | true => simpa [Nat.blt_eq] using hx
    have h2 : (fr n σ l)[t]? = some (.bool b) := by
      rw [← h1]; simp [Array.getD, fr, hlt]
    simp [Ac, h2]
  rw [if_neg (by simp [Region.wanted, hy])]
  rw [Ac_put hn]
  exact K

/-! ### the operations that touch no memory -/
theorem R_move {x : Operand} {v : Value} (hx : ev n l x = some v) :
    (execOp (Ac n σ ds l).eval ⟨dst, .move x, ty, pos, af, gd⟩).run P w = .ok (.value v) w := by simp [execOp, ev_eval hx]
theorem R_assign {x : Operand} {v : Value} (hx : ev n l x = some v) :
    (execOp (Ac n σ ds l).eval ⟨dst, .assign x, ty, pos, af, gd⟩).run P w = .ok (.value (v)) w := by simp [execOp, ev_eval hx]
theorem R_pickT {c x y : Operand} {v : Value} {b : Bool} (hc : ev n l c = some (.bool b)) (hb : b = true) (hx : ev n l x = some v) :
    (execOp (Ac n σ ds l).eval ⟨dst, .pick c x y, ty, pos, af, gd⟩).run P w = .ok (.value (v)) w := by subst hb; simp [execOp, ev_eval hx, ev_eval hc, asBool]
theorem R_pickF {c x y : Operand} {v : Value} {b : Bool} (hc : ev n l c = some (.bool b)) (hb : b = false) (hy : ev n l y = some v) :
    (execOp (Ac n σ ds l).eval ⟨dst, .pick c x y, ty, pos, af, gd⟩).run P w = .ok (.value (v)) w := by subst hb; simp [execOp, ev_eval hy, ev_eval hc, asBool]
/-- Two ways at once, ahead of what is guarded. -/
theorem L_split {a : Act} {os : List Oper} (b : Bool) (ht : b = true → wpL P ops Q os a w) (hf : b = false → wpL P ops Q os a w) : wpL P ops Q os a w := by
  cases b
  · exact hf rfl
  · exact ht rfl
theorem R_nilck {x : Operand} {p : Addr} (hx : ev n l x = some (.pointer (some p))) :
    (execOp (Ac n σ ds l).eval ⟨dst, .nilCheck x, ty, pos, af, gd⟩).run P w = .ok (.value (.pointer (some p))) w := by simp [execOp, ev_eval hx]
theorem R_field {t f off r g o : Nat} {x : Operand} (hx : ev n l x = some (.pointer (some ⟨g, o, none⟩))) (hf : fldB P t f off = true) (hr : o + off = r) :
    (execOp (Ac n σ ds l).eval ⟨dst, .fieldAddr t x f, ty, pos, af, gd⟩).run P w = .ok (.value (.pointer (some ⟨g, r, none⟩))) w := by
  simp only [execOp, ev_eval hx]
  refine v_run ?_
  unfold fldB at hf
  split at hf <;> first | cases hf | skip
  rename_i fs hu
  split at hf <;> first | cases hf | skip
  rename_i x' hx'
  simp only [Bool.and_eq_true, beq_iff_eq] at hf
  obtain ⟨h1, h2⟩ := hf
  split at h2 <;> first | cases h2 | skip
  rename_i i hi
  have h2' : i.size ≠ 0 := by simpa using h2
  subst hr
  simp [Instr.fieldAt, run_underlying hu, hx', Instr.sureAddr, fieldPlace, sizeOf, typeInfo, hi, h2', h1, Addr.add_lit]
theorem R_extract {x : Operand} {vs : Array Value} {i : Nat} {v : Value} (hx : ev n l x = some (.tuple vs)) (hi : vs[i]? = some v) :
    (execOp (Ac n σ ds l).eval ⟨dst, .extract x i, ty, pos, af, gd⟩).run P w = .ok (.value (v)) w := by simp [execOp, ev_eval hx, Instr.extract, hi]
theorem R_not {t : Nat} {x : Operand} {b : Bool} (hx : ev n l x = some (.bool b)) :
    (execOp (Ac n σ ds l).eval ⟨dst, .unOp .not t x, ty, pos, af, gd⟩).run P w = .ok (.value (.bool (!b))) w := by simp [execOp, ev_eval hx, Op.unary]
theorem R_notD {t : Nat} {x : Operand} {p : Prop} [Decidable p] (hx : ev n l x = some (.bool (decide p))) :
    (execOp (Ac n σ ds l).eval ⟨dst, .unOp .not t x, ty, pos, af, gd⟩).run P w = .ok (.value (.bool (decide (¬ p)))) w := by simp [execOp, ev_eval hx, Op.unary]
section ints
variable {t t' : TypeId} {x y : Operand} {k : IntKind} {a b : Int}
theorem R_add (hx : ev n l x = some (.int k a)) (hy : ev n l y = some (.int k b)) :
    (execOp (Ac n σ ds l).eval ⟨dst, .binOp .add t x y t', ty, pos, af, gd⟩).run P w = .ok (.value (.int k (k.wrap (a + b)))) w := by simp [execOp, ev_eval hx, ev_eval hy, eqGuard, binOp, Op.intArith]
theorem R_sub (hx : ev n l x = some (.int k a)) (hy : ev n l y = some (.int k b)) :
    (execOp (Ac n σ ds l).eval ⟨dst, .binOp .sub t x y t', ty, pos, af, gd⟩).run P w = .ok (.value (.int k (k.wrap (a - b)))) w := by simp [execOp, ev_eval hx, ev_eval hy, eqGuard, binOp, Op.intArith]
theorem R_mul (hx : ev n l x = some (.int k a)) (hy : ev n l y = some (.int k b)) :
    (execOp (Ac n σ ds l).eval ⟨dst, .binOp .mul t x y t', ty, pos, af, gd⟩).run P w = .ok (.value (.int k (k.wrap (a * b)))) w := by simp [execOp, ev_eval hx, ev_eval hy, eqGuard, binOp, Op.intArith]
theorem i64_fit {z : Int} (h : -9223372036854775808 ≤ z ∧ z ≤ 9223372036854775807) : IntKind.i64.wrap z = z := IntWalk.i64_in z h
theorem R_add64 (hx : ev n l x = some (.int .i64 a)) (hy : ev n l y = some (.int .i64 b)) (hb : -9223372036854775808 ≤ a + b ∧ a + b ≤ 9223372036854775807) :
    (execOp (Ac n σ ds l).eval ⟨dst, .binOp .add t x y t', ty, pos, af, gd⟩).run P w = .ok (.value (.int .i64 (a + b))) w :=
  (R_add hx hy).trans (by rw [i64_fit hb])
theorem R_sub64 (hx : ev n l x = some (.int .i64 a)) (hy : ev n l y = some (.int .i64 b)) (hb : -9223372036854775808 ≤ a - b ∧ a - b ≤ 9223372036854775807) :
    (execOp (Ac n σ ds l).eval ⟨dst, .binOp .sub t x y t', ty, pos, af, gd⟩).run P w = .ok (.value (.int .i64 (a - b))) w :=
  (R_sub hx hy).trans (by rw [i64_fit hb])
theorem R_mul64 (hx : ev n l x = some (.int .i64 a)) (hy : ev n l y = some (.int .i64 b)) (hb : -9223372036854775808 ≤ a * b ∧ a * b ≤ 9223372036854775807) :
    (execOp (Ac n σ ds l).eval ⟨dst, .binOp .mul t x y t', ty, pos, af, gd⟩).run P w = .ok (.value (.int .i64 (a * b))) w :=
  (R_mul hx hy).trans (by rw [i64_fit hb])
theorem R_lss (hx : ev n l x = some (.int k a)) (hy : ev n l y = some (.int k b)) :
    (execOp (Ac n σ ds l).eval ⟨dst, .binOp .lss t x y t', ty, pos, af, gd⟩).run P w = .ok (.value (.bool (decide (a < b)))) w := by simp [execOp, ev_eval hx, ev_eval hy, eqGuard, binOp, Op.intCmp]
theorem R_leq (hx : ev n l x = some (.int k a)) (hy : ev n l y = some (.int k b)) :
    (execOp (Ac n σ ds l).eval ⟨dst, .binOp .leq t x y t', ty, pos, af, gd⟩).run P w = .ok (.value (.bool (decide (a ≤ b)))) w := by simp [execOp, ev_eval hx, ev_eval hy, eqGuard, binOp, Op.intCmp]
theorem R_gtr (hx : ev n l x = some (.int k a)) (hy : ev n l y = some (.int k b)) :
    (execOp (Ac n σ ds l).eval ⟨dst, .binOp .gtr t x y t', ty, pos, af, gd⟩).run P w = .ok (.value (.bool (decide (b < a)))) w := by simp [execOp, ev_eval hx, ev_eval hy, eqGuard, binOp, Op.intCmp]
theorem R_geq (hx : ev n l x = some (.int k a)) (hy : ev n l y = some (.int k b)) :
    (execOp (Ac n σ ds l).eval ⟨dst, .binOp .geq t x y t', ty, pos, af, gd⟩).run P w = .ok (.value (.bool (decide (b ≤ a)))) w := by simp [execOp, ev_eval hx, ev_eval hy, eqGuard, binOp, Op.intCmp]
theorem R_eql (hx : ev n l x = some (.int k a)) (hy : ev n l y = some (.int k b)) :
    (execOp (Ac n σ ds l).eval ⟨dst, .binOp .eql t x y t', ty, pos, af, gd⟩).run P w = .ok (.value (.bool (decide (a = b)))) w := by simp [execOp, ev_eval hx, ev_eval hy, eqGuard, binOp, Op.intCmp]; exact Bool.beq_eq_decide_eq a b
theorem R_neq (hx : ev n l x = some (.int k a)) (hy : ev n l y = some (.int k b)) :
    (execOp (Ac n σ ds l).eval ⟨dst, .binOp .neq t x y t', ty, pos, af, gd⟩).run P w = .ok (.value (.bool (decide (a ≠ b)))) w := by simp [execOp, ev_eval hx, ev_eval hy, eqGuard, binOp, Op.intCmp, bne, Bool.beq_eq_decide_eq]
theorem R_conv {s t2 : Nat} {k2 : IntKind} (hx : ev n l x = some (.int k a)) (hs : anyB P s = true) (ht : intB P t2 k2 = true) :
    (execOp (Ac n σ ds l).eval ⟨dst, .convert s t2 x, ty, pos, af, gd⟩).run P w = .ok (.value (.int k2 (k2.wrap a))) w := by
  obtain ⟨u, hu⟩ := Option.isSome_iff_exists.1 hs
  (simp only [execOp, ev_eval hx]; exact v_run (by simp [convert, run_underlying hu, run_underlying (intB_u ht), Conv.intToInt]))
end ints

section strings
variable {t t' : TypeId} {x y : Operand} {s r : ByteArray}
theorem toList_eq (s r : ByteArray) : (s.toList == r.toList) = decide (s = r) := by
  by_cases h : s = r
  · subst h; simp
  · have : s.toList ≠ r.toList := fun e => h (by simpa [ByteArray.ext_iff, Array.ext_iff, ByteArray.toList_eq] using e)
    simp [h, this]
theorem R_eqlS (hx : ev n l x = some (.string s)) (hy : ev n l y = some (.string r)) :
    (execOp (Ac n σ ds l).eval ⟨dst, .binOp .eql t x y t', ty, pos, af, gd⟩).run P w = .ok (.value (.bool (decide (s = r)))) w := by simp [execOp, ev_eval hx, ev_eval hy, eqGuard, binOp, Op.stringOp, toList_eq]
theorem R_neqS (hx : ev n l x = some (.string s)) (hy : ev n l y = some (.string r)) :
    (execOp (Ac n σ ds l).eval ⟨dst, .binOp .neq t x y t', ty, pos, af, gd⟩).run P w = .ok (.value (.bool (decide (s ≠ r)))) w := by simp [execOp, ev_eval hx, ev_eval hy, eqGuard, binOp, Op.stringOp, toList_eq]
theorem R_lenS (hx : ev n l x = some (.string s)) (ht : strB P t = true) :
    (execOp (Ac n σ ds l).eval ⟨dst, .call ⟨.builtin .len, #[x], #[t]⟩, ty, pos, af, gd⟩).run P w = .ok (.value (.int .i64 (s.size : Int))) w := by simp [execOp, resolve, invoke, builtin, ev_eval hx, Builtin.len_, run_underlying (strB_u ht), goInt]
end strings
end
end Go.Proofs.YtkjgjejkfjhcjaaDoor.Gw
