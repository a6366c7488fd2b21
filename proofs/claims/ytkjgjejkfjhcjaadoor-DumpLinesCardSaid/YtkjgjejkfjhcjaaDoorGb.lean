/-
  Step lemmas, seventh part: rows whose elements are all written by one function from data ('enc'), so that a row reads as a list of data. They hold of every program.
-/
import Derived.Test.YtkjgjejkfjhcjaaDoorGx
namespace Go.Proofs.YtkjgjejkfjhcjaaDoor.Gw
open Go.RowKit
set_option linter.unusedVariables false
set_option linter.unusedSimpArgs false

def fl {α : Type} (enc : α → List Value) (xs : List α) : List Value := xs.flatMap enc
/-- Every element takes sz cells, each of them one cell. -/
structure Enc {α : Type} (enc : α → List Value) (sz : Nat) : Prop where
  len : ∀ x, (enc x).length = sz
  one : ∀ x, (enc x).all (·.oneCell') = true
section
variable {α : Type} {enc : α → List Value} {sz : Nat}
@[simp] theorem fl_nil : fl enc [] = [] := rfl
theorem fl_app (xs ys : List α) : fl enc (xs ++ ys) = fl enc xs ++ fl enc ys := by simp [fl]
theorem fl_one (x : α) : fl enc [x] = enc x := by simp [fl]
theorem fl_cons (x : α) (xs : List α) : fl enc (x :: xs) = enc x ++ fl enc xs := by simp [fl]
theorem fl_len (h : Enc enc sz) : ∀ xs : List α, (fl enc xs).length = xs.length * sz
  | [] => by simp
  | x :: xs => by rw [fl_cons, List.length_append, h.len, fl_len h xs, List.length_cons, Nat.add_mul, Nat.one_mul, Nat.add_comm]
theorem fl_all (h : Enc enc sz) (xs : List α) : ∀ u ∈ fl enc xs, u.oneCell' = true := by
  intro u hu
  obtain ⟨x, _, hx⟩ := List.mem_flatMap.1 hu
  exact List.all_eq_true.1 (h.one x) u hx
theorem fl_drop (h : Enc enc sz) : ∀ (i : Nat) (xs : List α), (fl enc xs).drop (i * sz) = fl enc (xs.drop i)
  | 0, xs => by simp
  | i + 1, [] => by simp
  | i + 1, x :: xs => by
    rw [fl_cons, List.drop_succ_cons, ← fl_drop h i xs, Nat.add_mul, Nat.one_mul, Nat.add_comm, ← List.drop_drop, List.drop_left' (h.len x)]
theorem take_app_len {β : Type} {l m : List β} {k j : Nat} (h : l.length = k) : (l ++ m).take (k + j) = l ++ m.take j := by
  subst h; rw [List.take_append, List.take_of_length_le (by omega)]; congr 1; congr 1; omega
theorem fl_take (h : Enc enc sz) : ∀ (i : Nat) (xs : List α), (fl enc xs).take (i * sz) = fl enc (xs.take i)
  | 0, xs => by simp
  | i + 1, [] => by simp
  | i + 1, x :: xs => by
    rw [fl_cons, List.take_succ_cons, fl_cons, ← fl_take h i xs, Nat.add_mul, Nat.one_mul, Nat.add_comm, take_app_len (h.len x)]
theorem fl_get (h : Enc enc sz) {xs : List α} {i : Nat} (hi : i < xs.length) : ((fl enc xs).drop (i * sz)).take sz = enc xs[i] := by
  rw [fl_drop h, List.drop_eq_getElem_cons hi, fl_cons, List.take_left' (h.len _)]
end
def encB (b : UInt8) : List Value := [.int .u8 (b.toNat : Int)]
theorem EncB : Enc encB 1 := ⟨fun _ => rfl, fun _ => rfl⟩
theorem byts_fl (l : List UInt8) : byts l = fl encB l := by
  induction l with
  | nil => rfl
  | cons b l ih => rw [byts_cons, ih, fl_cons]; rfl

section
variable {P : Program} {Q : Exit → Act → World → Prop} {w w' : World} {ops : Array Oper} {rest : List Oper}
variable {n : Nat} {σ : Nat → Value} {ds : List Deferred} {l : Sl} {d : Nat} {ty : TypeId} {pos : String} {af : Array Edge} {dst : Option Nat} {gd : Option (Nat × Bool)}
variable {α : Type} {enc : α → List Value} {t e te sz by_ c lo hi : Nat} {x : Operand} {A : Option Addr} {xs : List α}
theorem T_append {c2 lo2 hi2 : Nat} {s : Operand} {A2 : Option Addr} {ys : List α} (he : Enc enc sz) (hs : slcB P t e sz by_ = true) (hv : ev n l s = some (.slice A xs.length c)) (hx : ev n l x = some (.slice A2 ys.length c2))
    (ho : w.ownsRow lo e sz (.slice A xs.length c) xs.length (fl enc xs)) (hr : Sli te lo2 hi2 w A2 (fl enc ys)) (hb : (xs.length + ys.length) * by_ ≤ 140737488355328) (hlo : lo ≤ w.heap.size) (hn : Nat.blt d n = true)
    (K : ∀ A' c' w', w'.ownsRow lo e sz (.slice A' (xs ++ ys).length c') (xs ++ ys).length (fl enc (xs ++ ys)) → w.grownBy w' (Value.slice A xs.length c).ownBlock →
      ((Value.slice A' (xs ++ ys).length c').ownBlock = (Value.slice A xs.length c).ownBlock ∨ (Value.slice A' (xs ++ ys).length c').ownBlock = some w.heap.size) → wpL P ops Q rest (Ac n σ ds ((d, .slice A' (xs ++ ys).length c') :: l)) w') :
    wpL P ops Q (⟨some d, .call ⟨.builtin .append, #[s, x], #[t, t]⟩, ty, pos, af, none⟩ :: rest) (Ac n σ ds l) w :=
  L_append hs hv hx ho hr (fl_len he ys) (fl_all he ys) hb hlo hn (fun A' c' w' h1 h2 h3 => by
    have := K A' c' w'
    rw [List.length_append, fl_app] at this
    exact this h1 h2 h3)
theorem T_slL {k : IntKind} {a : Int} {i : Nat} {y : Operand} (he : Enc enc sz) (hx : ev n l x = some (.slice A xs.length c)) (hy : ev n l y = some (.int k a)) (ha : a = (i : Int)) (hs : slcB P t e sz by_ = true) (hi' : i ≤ xs.length) (hmc : xs.length ≤ c)
    (hS : Sli te lo hi w A (fl enc xs)) (hn : Nat.blt d n = true)
    (K : ∀ A', Sli te lo hi w A' (fl enc (xs.drop i)) → wpL P ops Q rest (Ac n σ ds ((d, .slice A' (xs.drop i).length (c - i)) :: l)) w) :
    wpL P ops Q (⟨some d, .slice t x (some y) none none, ty, pos, af, none⟩ :: rest) (Ac n σ ds l) w :=
  L_slL hx hy ha hs hi' hmc hS (fl_len he xs) hn (fun A' h => by
    have := K A'
    rw [List.length_drop, ← fl_drop he] at this
    exact this h)
theorem T_slLH {k k' : IntKind} {a b : Int} {i j : Nat} {y y' : Operand} (he : Enc enc sz) (hx : ev n l x = some (.slice A xs.length c)) (hy : ev n l y = some (.int k a)) (hy' : ev n l y' = some (.int k' b)) (ha : a = (i : Int)) (hb : b = (j : Int)) (hs : slcB P t e sz by_ = true)
    (hij : i ≤ j) (hjm : j ≤ xs.length) (hmc : xs.length ≤ c) (hS : Sli te lo hi w A (fl enc xs)) (hn : Nat.blt d n = true)
    (K : ∀ A', Sli te lo hi w A' (fl enc ((xs.drop i).take (j - i))) → wpL P ops Q rest (Ac n σ ds ((d, .slice A' ((xs.drop i).take (j - i)).length (c - i)) :: l)) w) :
    wpL P ops Q (⟨some d, .slice t x (some y) (some y') none, ty, pos, af, none⟩ :: rest) (Ac n σ ds l) w :=
  L_slLH hx hy hy' ha hb hs hij hjm hmc hS (fl_len he xs) hn (fun A' h => by
    have := K A'
    rw [List.length_take, List.length_drop, ← fl_take he, ← fl_drop he, Nat.min_eq_left (by omega)] at this
    exact this h)
theorem T_slH {k' : IntKind} {b : Int} {j : Nat} {y' : Operand} (he : Enc enc sz) (hx : ev n l x = some (.slice A xs.length c)) (hy' : ev n l y' = some (.int k' b)) (hb : b = (j : Int)) (hs : slcB P t e sz by_ = true)
    (hjm : j ≤ xs.length) (hmc : xs.length ≤ c) (hS : Sli te lo hi w A (fl enc xs)) (hn : Nat.blt d n = true)
    (K : ∀ A', Sli te lo hi w A' (fl enc (xs.take j)) → wpL P ops Q rest (Ac n σ ds ((d, .slice A' (xs.take j).length c) :: l)) w) :
    wpL P ops Q (⟨some d, .slice t x none (some y') none, ty, pos, af, none⟩ :: rest) (Ac n σ ds l) w :=
  L_slH hx hy' hb hs hjm hmc hS (fl_len he xs) hn (fun A' h => by
    have := K A'
    rw [List.length_take, ← fl_take he, Nat.min_eq_left hjm] at this
    exact this h)
theorem T_slLHM {k k' k'' : IntKind} {a b b' : Int} {i j r : Nat} {y y' y'' : Operand} (he : Enc enc sz) (hx : ev n l x = some (.slice A xs.length c)) (hy : ev n l y = some (.int k a)) (hy' : ev n l y' = some (.int k' b)) (hy'' : ev n l y'' = some (.int k'' b'))
    (ha : a = (i : Int)) (hb : b = (j : Int)) (hb' : b' = (r : Int)) (hs : slcB P t e sz by_ = true) (hij : i ≤ j) (hjm : j ≤ xs.length) (hjr : j ≤ r) (hrc : r ≤ c) (hS : Sli te lo hi w A (fl enc xs)) (hn : Nat.blt d n = true)
    (K : ∀ A', Sli te lo hi w A' (fl enc ((xs.drop i).take (j - i))) → wpL P ops Q rest (Ac n σ ds ((d, .slice A' ((xs.drop i).take (j - i)).length (r - i)) :: l)) w) :
    wpL P ops Q (⟨some d, .slice t x (some y) (some y') (some y''), ty, pos, af, none⟩ :: rest) (Ac n σ ds l) w :=
  L_slLHM hx hy hy' hy'' ha hb hb' hs hij hjm hjr hrc hS (fl_len he xs) hn (fun A' h => by
    have := K A'
    rw [List.length_take, List.length_drop, ← fl_take he, ← fl_drop he, Nat.min_eq_left (by omega)] at this
    exact this h)
theorem T_index {k : IntKind} {a : Int} {i : Nat} {y : Operand} (he : Enc enc sz) (hx : ev n l x = some (.slice A xs.length c)) (hy : ev n l y = some (.int k a)) (ha : a = (i : Int)) (hs : slcB P t e sz by_ = true) (hi' : i < xs.length)
    (hS : Sli te lo hi w A (fl enc xs)) (hn : Nat.blt d n = true)
    (K : ∀ g o, At w g o (enc xs[i]) → wpL P ops Q rest (Ac n σ ds ((d, .pointer (some ⟨g, o, none⟩)) :: l)) w) :
    wpL P ops Q (⟨some d, .indexAddr t x y, ty, pos, af, none⟩ :: rest) (Ac n σ ds l) w :=
  L_index hx hy ha hs hi' hS (fl_len he xs) hn (fun g o h => K g o (by rw [fl_get he hi'] at h; exact h))
/-- The same, the row's place known (for a region that draws its order). -/
theorem Sli.place (he : Enc enc sz) (h : Sli te lo hi w A (fl enc xs)) {i : Nat} (hi' : i < xs.length) (h0 : 0 < sz) : ∃ g off, A = some ⟨g, off, none⟩ ∧ At w g (off + i * sz) (enc xs[i]) := by
  have hl := fl_len he xs
  have hle : (i + 1) * sz ≤ xs.length * sz := Nat.mul_le_mul_right _ hi'
  rw [Nat.add_mul, Nat.one_mul] at hle
  obtain ⟨g, off, hA, hat⟩ := h.at_ (i * sz) sz (by omega) h0
  exact ⟨g, off, hA, by rw [fl_get he hi'] at hat; exact hat⟩
theorem R_index {k : IntKind} {a : Int} {i m g off : Nat} {y : Operand} (hx : ev n l x = some (.slice (some ⟨g, off, none⟩) m c)) (hy : ev n l y = some (.int k a)) (ha : a = (i : Int)) (hs : slcB P t e sz by_ = true) (hi' : i < m) :
    (execOp (Ac n σ ds l).eval ⟨dst, .indexAddr t x y, ty, pos, af, gd⟩).run P w = .ok (.value (.pointer (some ⟨g, off + i * sz, none⟩))) w := by
  obtain ⟨hu, inf, z, hinf, hz, e1, e2, e3, e4, e5⟩ := slcB_u hs
  subst ha
  simp only [execOp, ev_eval hx, ev_eval hy]
  refine v_run ?_
  simp [Instr.indexAt, asIntOf, run_underlying hu, hi', sizeOf, typeInfo, hinf, e1, Addr.add_lit]
theorem R_indexE {k : IntKind} {a : Int} {i m g off r : Nat} {y : Operand} (hx : ev n l x = some (.slice A m c)) (hy : ev n l y = some (.int k a)) (ha : a = (i : Int)) (hs : slcB P t e sz by_ = true) (hi' : i < m) (hA : A = some ⟨g, off, none⟩) (hr : off + i * sz = r) :
    (execOp (Ac n σ ds l).eval ⟨dst, .indexAddr t x y, ty, pos, af, gd⟩).run P w = .ok (.value (.pointer (some ⟨g, r, none⟩))) w := by
  subst hA; subst hr
  exact R_index hx hy ha hs hi'
theorem Sli.place' (he : Enc enc sz) (h : Sli te lo hi w A (fl enc xs)) {i : Nat} (hi' : i < xs.length) (h0 : Nat.blt 0 sz = true) : ∃ g off r, A = some ⟨g, off, none⟩ ∧ off + i * sz = r ∧ At w g r (enc xs[i]) := by
  obtain ⟨g, off, h1, h2⟩ := h.place he hi' (by simpa using h0)
  exact ⟨g, off, _, h1, rfl, h2⟩
theorem T_s2b {t' : TypeId} {s : ByteArray} (hx : ev n l x = some (.string s)) (hs : anyB P t = true) (ht : slcB P t' e 1 1 = true) (he : intB P e .u8 = true) (hn : Nat.blt d n = true)
    (K : ∀ A' c' w', s.data.toList.length ≤ c' → Sli e w.heap.size (w.heap.size + 1) w' A' (fl encB s.data.toList) → w.grownBy w' none → w'.heap.size = w.heap.size + 1 →
      wpL P ops Q rest (Ac n σ ds ((d, .slice A' s.data.toList.length c') :: l)) w') :
    wpL P ops Q (⟨some d, .convert t t' x, ty, pos, af, none⟩ :: rest) (Ac n σ ds l) w :=
  L_s2b hx hs ht he hn (fun A' c' w' h1 h2 h3 h4 => by
    have e' : s.data.toList.length = s.size := by rw [Array.length_toList]; rfl
    have := K A' c' w'
    rw [e', ← byts_fl] at this
    exact this h1 h2 h3 h4)
theorem R_b2s' {t' : TypeId} {bs : List UInt8} (hx : ev n l x = some (.slice A bs.length c)) (ht : slcB P t e 1 1 = true) (he : intB P e .u8 = true) (hs : strB P t' = true)
    (hS : Sli te lo hi w A (fl encB bs)) :
    (execOp (Ac n σ ds l).eval ⟨dst, .convert t t' x, ty, pos, af, gd⟩).run P w = .ok (.value (.string ⟨bs.toArray⟩)) w :=
  R_b2s hx ht he hs (by rw [byts_fl]; exact hS) rfl
theorem R_eqv {op : Oper} {a : Act} {v v' : Value} (h : (execOp a.eval op).run P w = .ok (.value v) w) (e : v = v') : (execOp a.eval op).run P w = .ok (.value v') w := e ▸ h
end
section structs
variable {P : Program} {w : World} {n : Nat} {σ : Nat → Value} {ds : List Deferred} {l : Sl} {ty : TypeId} {pos : String} {af : Array Edge} {dst : Option Nat} {gd : Option (Nat × Bool)}
variable {t t' : TypeId} {x y : Operand} {xs ys : Array Value} {p : Prop} [Decidable p]
theorem run_part1 {t : TypeId} {cs : Array Value} {off : Nat} {v : Value} (ht : sclB P t = true) (hc : cs[off]? = some v) : (part t cs off).run P w = .ok v w := by
  simp [part, run_isAgg_no ht, hc]
theorem eqf_nil {d : Nat} : (Op.eqFields d xs ys []).run P w = .ok (decide True) w := by simp [Op.eqFields]
theorem eqf_cons {d : Nat} {f : Field} {fs : List Field} {v u : Value} {p q : Prop} [Decidable p] [Decidable q] (hn : f.name ≠ "_") (ht : sclB P f.type = true) (hx : xs[f.offset]? = some v) (hy : ys[f.offset]? = some u)
    (he : (Op.equalIn d f.type v u).run P w = .ok (decide p) w) (hr : (Op.eqFields d xs ys fs).run P w = .ok (decide q) w) : (Op.eqFields d xs ys (f :: fs)).run P w = .ok (decide (p ∧ q)) w := by
  by_cases hp : p <;> simp [Op.eqFields, hn, run_part1 ht hx, run_part1 ht hy, he, hp, hr]
theorem eqs_int {d : Nat} {k : IntKind} {a b : Int} (h : intB P t k = true) : (Op.equalIn (d + 1) t (.int k a) (.int k b)).run P w = .ok (decide (a = b)) w := by
  rw [run_equalIn_int w d t k k a b (intB_u h), Bool.beq_eq_decide_eq a b]
theorem eqs_str {d : Nat} {a b : ByteArray} (h : strB P t = true) : (Op.equalIn (d + 1) t (.string a) (.string b)).run P w = .ok (decide (a = b)) w := by
  rw [run_equalIn_string w d t a b (strB_u h), toList_eq]
theorem eqs_bool {d : Nat} {a b : Bool} (h : P.underlying t = some .bool) : (Op.equalIn (d + 1) t (.bool a) (.bool b)).run P w = .ok (decide (a = b)) w := by
  rw [run_equalIn_bool w d t a b h]; cases a <;> cases b <;> rfl
theorem R_eqlA (hx : ev n l x = some (.agg xs)) (hy : ev n l y = some (.agg ys)) (hg : P.eqGuardType P.depth t = false) (he : (Op.equalIn 10000 t (.agg xs) (.agg ys)).run P w = .ok (decide p) w) :
    (execOp (Ac n σ ds l).eval ⟨dst, .binOp .eql t x y t', ty, pos, af, gd⟩).run P w = .ok (.value (.bool (decide p))) w := by
  simp only [execOp, ev_eval hx, ev_eval hy]
  refine v_run ?_
  simp only [Sem.run_bind, run_eqGuard_agg w .eql t x y xs ys hg, Result.andThen_ok, run_eql_struct, he]
theorem R_neqA (hx : ev n l x = some (.agg xs)) (hy : ev n l y = some (.agg ys)) (hg : P.eqGuardType P.depth t = false) (he : (Op.equalIn 10000 t (.agg xs) (.agg ys)).run P w = .ok (decide p) w) :
    (execOp (Ac n σ ds l).eval ⟨dst, .binOp .neq t x y t', ty, pos, af, gd⟩).run P w = .ok (.value (.bool (decide (¬ p)))) w := by
  simp only [execOp, ev_eval hx, ev_eval hy]
  refine v_run ?_
  simp only [Sem.run_bind, run_eqGuard_agg w .neq t x y xs ys hg, Result.andThen_ok, run_neq_struct, he, decide_not]
theorem eqs_struct {d : Nat} {fs : List Field} {p : Prop} [Decidable p] (ht : P.underlying t = some (.struct fs.toArray)) (hp : P.stoodInHeld t = false) (he : (Op.eqFields d xs ys fs).run P w = .ok (decide p) w) :
    (Op.equalIn (d + 1) t (.agg xs) (.agg ys)).run P w = .ok (decide p) w := by
  have hf : P.fieldsOf t = fs.toArray := by simp [Program.fieldsOf, ht]
  rw [run_equalIn_struct w d t xs ys (by rw [hf]; exact ht) hp, hf]
  simpa using he
end structs
section ints
variable {P : Program} {w : World} {n : Nat} {σ : Nat → Value} {ds : List Deferred} {l : Sl} {ty : TypeId} {pos : String} {af : Array Edge} {dst : Option Nat} {gd : Option (Nat × Bool)}
variable {t t' : TypeId} {x y : Operand} {k k' : IntKind} {a b : Int}
def bitsI (op : BinOp) (k : IntKind) (a b : Int) : Int :=
  match op with
  | .and => k.wrap ((BitVec.ofInt k.bits a &&& BitVec.ofInt k.bits b).toNat : Int)
  | .or => k.wrap ((BitVec.ofInt k.bits a ||| BitVec.ofInt k.bits b).toNat : Int)
  | .xor => k.wrap ((BitVec.ofInt k.bits a ^^^ BitVec.ofInt k.bits b).toNat : Int)
  | _ => k.wrap ((BitVec.ofInt k.bits a &&& ~~~ BitVec.ofInt k.bits b).toNat : Int)
theorem R_and (hx : ev n l x = some (.int k a)) (hy : ev n l y = some (.int k b)) : (execOp (Ac n σ ds l).eval ⟨dst, .binOp .and t x y t', ty, pos, af, gd⟩).run P w = .ok (.value (.int k (bitsI .and k a b))) w := by
  simp [execOp, ev_eval hx, ev_eval hy, eqGuard, binOp, Op.intBits, bitsI]
theorem R_or (hx : ev n l x = some (.int k a)) (hy : ev n l y = some (.int k b)) : (execOp (Ac n σ ds l).eval ⟨dst, .binOp .or t x y t', ty, pos, af, gd⟩).run P w = .ok (.value (.int k (bitsI .or k a b))) w := by
  simp [execOp, ev_eval hx, ev_eval hy, eqGuard, binOp, Op.intBits, bitsI]
theorem R_xor (hx : ev n l x = some (.int k a)) (hy : ev n l y = some (.int k b)) : (execOp (Ac n σ ds l).eval ⟨dst, .binOp .xor t x y t', ty, pos, af, gd⟩).run P w = .ok (.value (.int k (bitsI .xor k a b))) w := by
  simp [execOp, ev_eval hx, ev_eval hy, eqGuard, binOp, Op.intBits, bitsI]
theorem R_andNot (hx : ev n l x = some (.int k a)) (hy : ev n l y = some (.int k b)) : (execOp (Ac n σ ds l).eval ⟨dst, .binOp .andNot t x y t', ty, pos, af, gd⟩).run P w = .ok (.value (.int k (bitsI .andNot k a b))) w := by
  simp [execOp, ev_eval hx, ev_eval hy, eqGuard, binOp, Op.intBits, bitsI]
theorem R_shl (hx : ev n l x = some (.int k a)) (hy : ev n l y = some (.int k' b)) (hb : 0 ≤ b) : (execOp (Ac n σ ds l).eval ⟨dst, .binOp .shl t x y t', ty, pos, af, gd⟩).run P w = .ok (.value (.int k (k.wrap (a * 2 ^ (min b.toNat k.bits))))) w := by
  have : ¬ b < 0 := by omega
  simp [execOp, ev_eval hx, ev_eval hy, eqGuard, binOp, Op.shift, this]
theorem R_shr (hx : ev n l x = some (.int k a)) (hy : ev n l y = some (.int k' b)) (hb : 0 ≤ b) : (execOp (Ac n σ ds l).eval ⟨dst, .binOp .shr t x y t', ty, pos, af, gd⟩).run P w = .ok (.value (.int k (a.fdiv (2 ^ (min b.toNat k.bits))))) w := by
  have : ¬ b < 0 := by omega
  simp [execOp, ev_eval hx, ev_eval hy, eqGuard, binOp, Op.shift, this]
theorem R_quo (hx : ev n l x = some (.int k a)) (hy : ev n l y = some (.int k b)) (hb : b ≠ 0) : (execOp (Ac n σ ds l).eval ⟨dst, .binOp .quo t x y t', ty, pos, af, gd⟩).run P w = .ok (.value (.int k (k.wrap (a.tdiv b)))) w := by
  simp [execOp, ev_eval hx, ev_eval hy, eqGuard, binOp, Op.intDiv, hb]
theorem R_rem (hx : ev n l x = some (.int k a)) (hy : ev n l y = some (.int k b)) (hb : b ≠ 0) : (execOp (Ac n σ ds l).eval ⟨dst, .binOp .rem t x y t', ty, pos, af, gd⟩).run P w = .ok (.value (.int k (a.tmod b))) w := by
  simp [execOp, ev_eval hx, ev_eval hy, eqGuard, binOp, Op.intDiv, hb]
end ints

section leave
variable {P : Program} {fn : Func} {R : Value → World → Prop} {w : World} {n : Nat} {σ : Nat → Value} {l : Sl}
theorem get_tmp {t : Nat} {v : Value} (h : ev n l (.tmp t) = some v) : (fr n σ l)[t]?.getD undef = v := by rw [← Array.getD_eq_getD_getElem?]; exact eval_tmp h
theorem run_cell {t sz g : Nat} {vs : List Value} (ht : aggB P t sz = true) (hc : At w g 0 vs) (hs : vs.length = sz) : (loadVar t ⟨g, 0, none⟩).run P w = .ok (.agg vs.toArray) w := by
  subst hs
  simp [loadVar, run_isAgg_yes ht, run_sizeOf (aggB_sz ht), run_loadCells' hc]
theorem retC {a t sz g : Nat} {vs : List Value} (hr : fn.results = #[.cell a t]) (ha : ev n l (.tmp a) = some (.pointer (some ⟨g, 0, none⟩))) (ht : aggB P t sz = true) (hc : At w g 0 vs) (hs : vs.length = sz)
    (hR : R (.agg vs.toArray) w) : bodyPost P fn (RetOf R) .ret (Ac n σ [] l) w := by
  refine bodyPost_ret (v := .agg vs.toArray) ?_ rfl hR
  have h1 := get_tmp (σ := σ) ha
  simp [results, hr, Ac, h1, asAddr, run_cell ht hc hs]
theorem retC1 {a t sz g u : Nat} {vs : List Value} {v : Value} (hr : fn.results = #[.cell a t, .tmp u]) (ha : ev n l (.tmp a) = some (.pointer (some ⟨g, 0, none⟩))) (ht : aggB P t sz = true) (hc : At w g 0 vs) (hs : vs.length = sz)
    (hv : ev n l (.tmp u) = some v) (hR : R (.tuple #[.agg vs.toArray, v]) w) : bodyPost P fn (RetOf R) .ret (Ac n σ [] l) w := by
  refine bodyPost_ret (v := .tuple #[.agg vs.toArray, v]) ?_ rfl hR
  have h1 := get_tmp (σ := σ) ha
  have h2 := get_tmp (σ := σ) hv
  simp [results, hr, Ac, h1, h2, asAddr, run_cell ht hc hs]
theorem retC2 {a t sz g u s : Nat} {vs : List Value} {v v' : Value} (hr : fn.results = #[.cell a t, .tmp u, .tmp s]) (ha : ev n l (.tmp a) = some (.pointer (some ⟨g, 0, none⟩))) (ht : aggB P t sz = true) (hc : At w g 0 vs) (hs : vs.length = sz)
    (hv : ev n l (.tmp u) = some v) (hv' : ev n l (.tmp s) = some v') (hR : R (.tuple #[.agg vs.toArray, v, v']) w) : bodyPost P fn (RetOf R) .ret (Ac n σ [] l) w := by
  refine bodyPost_ret (v := .tuple #[.agg vs.toArray, v, v']) ?_ rfl hR
  have h1 := get_tmp (σ := σ) ha
  have h2 := get_tmp (σ := σ) hv
  have h3 := get_tmp (σ := σ) hv'
  simp [results, hr, Ac, h1, h2, h3, asAddr, run_cell ht hc hs]
end leave
end Go.Proofs.YtkjgjejkfjhcjaaDoor.Gw
