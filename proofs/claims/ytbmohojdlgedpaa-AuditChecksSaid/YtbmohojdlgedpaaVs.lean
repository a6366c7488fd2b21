/-
  Plain mathematics: scripts of steps: what they are written as is read back, and what is read was written so.
-/
import Derived.Test.YtbmohojdlgedpaaVb
namespace Go.Proofs.Ytbmohojdlgedpaa.Pl
set_option linter.unusedVariables false
set_option linter.unusedSimpArgs false
/-- a step -/
structure StepP where
  kind : Int
  n : Int
  ops : List Opd
  keep : List UInt8
  torn : Int
  cut : Int
deriving DecidableEq
def SOk (kd n : Int) (ops : List Opd) (kn : Nat) (tn ct : Int) : Prop :=
  (kd = 1 ∧ OkL ops ∧ n = 0 ∧ kn = 0 ∧ tn = 0 ∧ ct = 0) ∨ ((kd = 2 ∨ kd = 3 ∨ kd = 6) ∧ n = 0 ∧ ops.length = 0 ∧ kn = 0 ∧ tn = 0 ∧ ct = 0) ∨
  (kd = 5 ∧ 0 ≤ n ∧ n ≤ 255 ∧ ops.length = 0 ∧ kn = 0 ∧ tn = 0 ∧ ct = 0) ∨ (kd = 4 ∧ n = 0 ∧ ops.length = 0 ∧ kn ≤ 64 ∧ -1 ≤ tn ∧ tn ≤ 254 ∧ 0 ≤ ct ∧ ct ≤ 64)
instance (kd n : Int) (ops : List Opd) (kn : Nat) (tn ct : Int) : Decidable (SOk kd n ops kn tn ct) := by unfold SOk; infer_instance
def sOk (p : StepP) : Prop := SOk p.kind p.n p.ops p.keep.length p.torn p.cut
instance (p : StepP) : Decidable (sOk p) := by unfold sOk; infer_instance
def bt (x : Int) : UInt8 := UInt8.ofNat (x % 256).toNat
theorem bt_n {x : Int} (h0 : 0 ≤ x) (h1 : x < 256) : ((bt x).toNat : Int) = x := by
  unfold bt; rw [UInt8.toNat_ofNat']; omega
theorem bt_c (c : UInt8) : bt (c.toNat : Int) = c := by
  have h := c.toNat_lt
  apply UInt8.toNat_inj.1
  have := bt_n (x := (c.toNat : Int)) (by omega) (by omega)
  omega
/-- a step's bytes -/
def sEnc (p : StepP) : List UInt8 := bt p.kind :: ((if p.kind = 1 then fenc (encs p.ops) else []) ++ ((if p.kind = 4 then fenc p.keep ++ [bt (p.torn + 1), bt p.cut] else []) ++ (if p.kind = 5 then [bt p.n] else [])))
def sencs (l : List StepP) : List UInt8 := l.flatMap sEnc
theorem sencs_succ {l : List StepP} {k : Nat} (h : k < l.length) : sencs (l.take (k + 1)) = sencs (l.take k) ++ sEnc l[k] := by
  unfold sencs; rw [List.take_succ_eq_append_getElem h, List.flatMap_append]; simp only [List.flatMap_cons, List.flatMap_nil, List.append_nil]
theorem sOk_keep {p : StepP} (h : sOk p) : p.keep.length ≤ 64 ∧ p.ops.length ≤ 8 := by
  unfold sOk SOk at h
  rcases h with h | h | h | h <;> first | exact ⟨by omega, h.2.1.2.2⟩ | exact ⟨by omega, by omega⟩
theorem encs_le {p : StepP} (h : sOk p) : (encs p.ops).length ≤ 1600 := by
  unfold sOk SOk at h
  rcases h with h | h | h | h
  · have h1 := encs_len h.2.1.1; have h2 := h.2.1.2.2; omega
  all_goals (rw [List.eq_nil_of_length_eq_zero (l := p.ops) (by omega)]; simp [encs])
theorem sEnc_len {p : StepP} (h : sOk p) : (sEnc p).length ≤ 1700 := by
  have h1 := (sOk_keep h).1
  have h2 := encs_le h
  have h3 := fenc_len (encs p.ops)
  have h4 := fenc_len p.keep
  unfold sEnc
  simp only [List.length_cons, List.length_append]
  split <;> split <;> split <;> simp <;> omega
theorem sencs_len : ∀ {l : List StepP}, (∀ p ∈ l, sOk p) → (sencs l).length ≤ 1700 * l.length
  | [], _ => by simp [sencs]
  | p :: l, h => by
    have h1 := sencs_len (l := l) (fun x hx => h x (List.mem_cons_of_mem _ hx))
    have h2 := sEnc_len (h p (List.mem_cons_self))
    unfold sencs at h1 ⊢
    rw [List.flatMap_cons, List.length_append, List.length_cons]
    omega
theorem sencs_take {l : List StepP} (h : ∀ p ∈ l, sOk p) (k : Nat) : (sencs (l.take k)).length ≤ 1700 * l.length := by
  have := sencs_len (l := l.take k) (fun o ho => h o (List.mem_of_mem_take ho))
  rw [List.length_take] at this
  omega
def p0 : StepP := ⟨0, 0, [], [], 0, 0⟩
def sfin (p : StepP) (k : Nat) : StepP × Nat × Int := if sOk p then (p, k, 0) else (p0, 0, 2)
theorem sfin_y {p : StepP} {k : Nat} (h : sOk p) : sfin p k = (p, k, 0) := by unfold sfin; rw [if_pos h]
theorem sfin_n {p : StepP} {k : Nat} (h : ¬ sOk p) : sfin p k = (p0, 0, 2) := by unfold sfin; rw [if_neg h]
/-- the step that bytes begin with, how many bytes it takes, the error -/
def s5 : List UInt8 → StepP × Nat × Int
  | [] => (p0, 0, 1)
  | x :: _ => sfin ⟨5, x.toNat, [], [], 0, 0⟩ 2
def s4 (kp : List UInt8) (n : Nat) : List UInt8 → StepP × Nat × Int
  | x :: y :: _ => sfin ⟨4, 0, [], kp, (x.toNat : Int) - 1, y.toNat⟩ (1 + n + 2)
  | _ => (p0, 0, 1)
theorem s4_short {kp q : List UInt8} {n : Nat} (h : q.length < 2) : s4 kp n q = (p0, 0, 1) := by
  match q, h with
  | [], _ => rfl
  | [_], _ => rfl
  | _ :: _ :: _, h => simp at h; omega
def sget : List UInt8 → StepP × Nat × Int
  | [] => (p0, 0, 1)
  | c :: r =>
    if c.toNat = 1 then (if (fget r).2.2 ≠ 0 then (p0, 0, (fget r).2.2) else sfin ⟨1, 0, (bget (fget r).1).1, [], 0, 0⟩ (1 + (fget r).2.1))
    else if c.toNat = 5 then s5 r
    else if c.toNat = 4 then (if (fget r).2.2 ≠ 0 then (p0, 0, (fget r).2.2) else s4 (fget r).1 (fget r).2.1 (r.drop (fget r).2.1))
    else sfin ⟨c.toNat, 0, [], [], 0, 0⟩ 1
section
variable {bs : List UInt8}
theorem cons0 (h : 0 < bs.length) : bs = bs[0] :: bs.drop 1 := by rw [← List.drop_eq_getElem_cons h, List.drop_zero]
theorem sget_nil (h : bs.length = 0) : sget bs = (p0, 0, 1) := by rw [List.eq_nil_of_length_eq_zero h]; rfl
theorem sget_1e (h : 0 < bs.length) (h1 : bs[0].toNat = 1) (he : (fget (bs.drop 1)).2.2 ≠ 0) : sget bs = (p0, 0, (fget (bs.drop 1)).2.2) := by
  have e := cons0 h
  generalize hc : bs[0] = c at e h1
  generalize hr : bs.drop 1 = r at e he ⊢
  subst e
  rw [sget, if_pos h1, if_pos he]
theorem sget_1 (h : 0 < bs.length) (h1 : bs[0].toNat = 1) (he : (fget (bs.drop 1)).2.2 = 0) : sget bs = sfin ⟨1, 0, (bget (fget (bs.drop 1)).1).1, [], 0, 0⟩ (1 + (fget (bs.drop 1)).2.1) := by
  have e := cons0 h
  generalize hc : bs[0] = c at e h1
  generalize hr : bs.drop 1 = r at e he ⊢
  subst e
  rw [sget, if_pos h1, if_neg (by omega)]
theorem sget_5e (h : 0 < bs.length) (h1 : bs[0].toNat = 5) (he : (bs.drop 1).length = 0) : sget bs = (p0, 0, 1) := by
  have e := cons0 h
  generalize hc : bs[0] = c at e h1
  generalize hr : bs.drop 1 = r at e he ⊢
  subst e
  rw [List.eq_nil_of_length_eq_zero he, sget, if_neg (by omega), if_pos h1]; rfl
theorem sget_5 {x : UInt8} (h : 0 < bs.length) (h1 : bs[0].toNat = 5) (hx : bs[1]? = some x) : sget bs = sfin ⟨5, x.toNat, [], [], 0, 0⟩ 2 := by
  have e := cons0 h
  have hx' : (bs.drop 1)[0]? = some x := by rw [List.getElem?_drop]; exact hx
  generalize hc : bs[0] = c at e h1
  generalize hr : bs.drop 1 = r at e hx' ⊢
  subst e
  cases r with
  | nil => simp at hx'
  | cons y r => simp at hx'; subst hx'; rw [sget, if_neg (by omega), if_pos h1]; rfl
theorem sget_4e (h : 0 < bs.length) (h1 : bs[0].toNat = 4) (he : (fget (bs.drop 1)).2.2 ≠ 0) : sget bs = (p0, 0, (fget (bs.drop 1)).2.2) := by
  have e := cons0 h
  generalize hc : bs[0] = c at e h1
  generalize hr : bs.drop 1 = r at e he ⊢
  subst e
  rw [sget, if_neg (by omega), if_neg (by omega), if_pos h1, if_pos he]
theorem sget_4s (h : 0 < bs.length) (h1 : bs[0].toNat = 4) (he : (fget (bs.drop 1)).2.2 = 0) (hs : bs.length < 1 + (fget (bs.drop 1)).2.1 + 2) : sget bs = (p0, 0, 1) := by
  have e := cons0 h
  have hl : bs.length = (bs.drop 1).length + 1 := by rw [List.length_drop]; omega
  generalize hc : bs[0] = c at e h1
  generalize hr : bs.drop 1 = r at e he hs hl ⊢
  subst e
  rw [sget, if_neg (by omega), if_neg (by omega), if_pos h1, if_neg (by omega)]
  exact s4_short (by rw [List.length_drop]; omega)
theorem sget_4 {x y : UInt8} (h : 0 < bs.length) (h1 : bs[0].toNat = 4) (he : (fget (bs.drop 1)).2.2 = 0) (hx : bs[1 + (fget (bs.drop 1)).2.1]? = some x) (hy : bs[1 + (fget (bs.drop 1)).2.1 + 1]? = some y) :
    sget bs = sfin ⟨4, 0, [], (fget (bs.drop 1)).1, (x.toNat : Int) - 1, y.toNat⟩ (1 + (fget (bs.drop 1)).2.1 + 2) := by
  have e := cons0 h
  have hx' : ((bs.drop 1).drop (fget (bs.drop 1)).2.1)[0]? = some x := by rw [List.drop_drop, List.getElem?_drop]; exact hx
  have hy' : ((bs.drop 1).drop (fget (bs.drop 1)).2.1)[1]? = some y := by rw [List.drop_drop, List.getElem?_drop]; exact hy
  generalize hc : bs[0] = c at e h1
  generalize hr : bs.drop 1 = r at e he hx' hy' ⊢
  subst e
  rw [sget, if_neg (by omega), if_neg (by omega), if_pos h1, if_neg (by omega)]
  generalize r.drop (fget r).2.1 = q at hx' hy'
  match q, hx', hy' with
  | a :: b :: _, hx', hy' => simp at hx' hy'; subst hx'; subst hy'; rfl
theorem sget_o (h : 0 < bs.length) (h1 : bs[0].toNat ≠ 1) (h5 : bs[0].toNat ≠ 5) (h4 : bs[0].toNat ≠ 4) : sget bs = sfin ⟨bs[0].toNat, 0, [], [], 0, 0⟩ 1 := by
  have e := cons0 h
  generalize hc : bs[0] = c at e h1 h5 h4 ⊢
  generalize hr : bs.drop 1 = r at e
  subst e
  rw [sget, if_neg h1, if_neg h5, if_neg h4]
end
theorem drop0 {bs : List UInt8} {k : Nat} (h : 0 < (bs.drop k).length) : bs[k]? = some (bs.drop k)[0] := by
  rw [List.length_drop] at h; rw [List.getElem_drop, List.getElem?_eq_getElem (by omega)]; rfl
theorem drop00 {bs : List UInt8} {k n : Nat} (h : 0 < ((bs.drop k).drop n).length) : bs[k + n]? = some ((bs.drop k).drop n)[0] := by
  rw [List.length_drop, List.length_drop] at h; rw [List.getElem_drop, List.getElem_drop, List.getElem?_eq_getElem (by omega)]; rfl
theorem drop000 {bs : List UInt8} {k n m : Nat} (h : 0 < (((bs.drop k).drop n).drop m).length) : bs[k + n + m]? = some (((bs.drop k).drop n).drop m)[0] := by
  rw [List.length_drop, List.length_drop, List.length_drop] at h; rw [List.getElem_drop, List.getElem_drop, List.getElem_drop, List.getElem?_eq_getElem (by omega)]; congr 2; omega
section
variable {bs : List UInt8}
theorem sgetK_1 (h : 0 < bs.length) (h1 : (bs[0].toNat : Int) = 1) (he : (fget (bs.drop 1)).2.2 = 0) : sget bs = sfin ⟨bs[0].toNat, 0, (bget (fget (bs.drop 1)).1).1, [], 0, 0⟩ (1 + (fget (bs.drop 1)).2.1) := by
  rw [h1]; exact sget_1 h (by omega) he
theorem sgetK_5 {x : UInt8} (h : 0 < bs.length) (h1 : (bs[0].toNat : Int) = 5) (hx : bs[1]? = some x) : sget bs = sfin ⟨bs[0].toNat, x.toNat, [], [], 0, 0⟩ 2 := by
  rw [h1]; exact sget_5 h (by omega) hx
theorem sgetK_4 {x y : UInt8} (h : 0 < bs.length) (h1 : (bs[0].toNat : Int) = 4) (he : (fget (bs.drop 1)).2.2 = 0) (hx : bs[1 + (fget (bs.drop 1)).2.1]? = some x) (hy : bs[1 + (fget (bs.drop 1)).2.1 + 1]? = some y) :
    sget bs = sfin ⟨bs[0].toNat, 0, [], (fget (bs.drop 1)).1, (x.toNat : Int) - 1, y.toNat⟩ (1 + (fget (bs.drop 1)).2.1 + 2) := by
  rw [h1]; exact sget_4 h (by omega) he hx hy
end
theorem sfin_0 {p : StepP} {k : Nat} (h : (sfin p k).2.2 = 0) : sOk p ∧ sfin p k = (p, k, 0) := by
  by_cases ho : sOk p
  · exact ⟨ho, sfin_y ho⟩
  · rw [sfin_n ho] at h; simp at h
theorem sget_sEnc (p : StepP) (r : List UInt8) (h : sOk p) : sget (sEnc p ++ r) = (p, (sEnc p).length, 0) := by
  have h0 := h
  have hk := encs_le h
  obtain ⟨kd, n, ops, kp, tn, ct⟩ := p
  unfold sOk SOk at h
  simp only at h hk
  rcases h with h | h | h | h
  · obtain ⟨rfl, ho, rfl, hkp, rfl, rfl⟩ := h
    have hkp := List.eq_nil_of_length_eq_zero hkp
    subst hkp
    have e : sEnc ⟨1, 0, ops, [], 0, 0⟩ = bt 1 :: fenc (encs ops) := by unfold sEnc; simp
    rw [e, List.cons_append, sget, if_pos (by decide), fget_fenc r (by omega)]
    simp only [bget_encs ho]
    rw [if_neg (by simp), sfin_y h0]
    simp [Nat.add_comm]
  · obtain ⟨hkd, rfl, ho, hkp, rfl, rfl⟩ := h
    have hkp := List.eq_nil_of_length_eq_zero hkp
    have ho := List.eq_nil_of_length_eq_zero ho
    subst hkp; subst ho
    have hb : ((bt kd).toNat : Int) = kd := bt_n (by omega) (by omega)
    have e : sEnc ⟨kd, 0, [], [], 0, 0⟩ = [bt kd] := by unfold sEnc; simp; omega
    rw [e, List.cons_append, sget, if_neg (by omega), if_neg (by omega), if_neg (by omega), hb, sfin_y h0]
    rfl
  · obtain ⟨rfl, h1, h2, ho, hkp, rfl, rfl⟩ := h
    have hkp := List.eq_nil_of_length_eq_zero hkp
    have ho := List.eq_nil_of_length_eq_zero ho
    subst hkp; subst ho
    have hb := bt_n (x := n) (by omega) (by omega)
    have e : sEnc ⟨5, n, [], [], 0, 0⟩ = [bt 5, bt n] := by unfold sEnc; simp
    rw [e, List.cons_append, List.cons_append, sget, if_neg (by decide), if_pos (by decide)]
    simp only [s5, hb]
    rw [sfin_y h0]
    rfl
  · obtain ⟨rfl, rfl, ho, hkp, h1, h2, h3, h4⟩ := h
    have ho := List.eq_nil_of_length_eq_zero ho
    subst ho
    have hb := bt_n (x := tn + 1) (by omega) (by omega)
    have hc := bt_n (x := ct) (by omega) (by omega)
    have e : sEnc ⟨4, 0, [], kp, tn, ct⟩ = bt 4 :: (fenc kp ++ [bt (tn + 1), bt ct]) := by unfold sEnc; simp
    rw [e, List.cons_append, List.append_assoc, sget, if_neg (by decide), if_neg (by decide), if_pos (by decide), fget_fenc _ (by omega)]
    simp only [List.drop_left]
    rw [if_neg (by simp)]
    simp only [List.cons_append, List.nil_append, s4]
    rw [hb, hc, show tn + 1 - 1 = tn by omega, sfin_y h0]
    simp only [List.length_cons, List.length_append, List.length_nil]
    congr 2
    omega
theorem sEnc_sget {bs : List UInt8} (h : (sget bs).2.2 = 0) : sOk (sget bs).1 ∧ sEnc (sget bs).1 = bs.take (sget bs).2.1 ∧ 1 ≤ (sget bs).2.1 ∧ (sget bs).2.1 ≤ bs.length := by
  rcases Nat.eq_zero_or_pos bs.length with h0 | h0
  · rw [sget_nil h0] at h; simp at h
  by_cases h1 : bs[0].toNat = 1
  · by_cases he : (fget (bs.drop 1)).2.2 = 0
    · rw [sget_1 h0 h1 he] at h ⊢
      obtain ⟨ho, e⟩ := sfin_0 h
      rw [e]
      simp only
      have hf := fenc_fget he
      have hfb := fget_bound (bs.drop 1)
      rw [List.length_drop] at hfb
      have hb0 : (bget (fget (bs.drop 1)).1).2 = 0 := by
        refine Decidable.byContradiction fun hne => ?_
        have hn := bget_no hne
        unfold sOk SOk at ho
        simp only [hn] at ho
        have h8 : ¬ OkL [] := by decide
        rcases ho with q | q | q | q
        · exact h8 q.2.1
        all_goals omega
      have hb1 := encs_bget hb0
      refine ⟨ho, ?_, by omega, by omega⟩
      rw [take_one_add h0, ← hf.1]
      unfold sEnc
      simp only [if_true, hb1.2]
      rw [← bt_c bs[0], h1]
      simp
    · rw [sget_1e h0 h1 he] at h; exact absurd h he
  by_cases h5 : bs[0].toNat = 5
  · by_cases hl : (bs.drop 1).length = 0
    · rw [sget_5e h0 h5 hl] at h; simp at h
    · rw [List.length_drop] at hl
      have hx : bs[1]? = some bs[1] := List.getElem?_eq_getElem (by omega)
      rw [sget_5 h0 h5 hx] at h ⊢
      obtain ⟨ho, e⟩ := sfin_0 h
      rw [e]
      refine ⟨ho, ?_, by simp, by simp only; omega⟩
      rw [show (2 : Nat) = 1 + 1 from rfl, take_one_add h0, List.drop_eq_getElem_cons (by omega)]
      unfold sEnc
      simp only [bt_c]
      rw [← bt_c bs[0], h5]
      rfl
  by_cases h4 : bs[0].toNat = 4
  · by_cases he : (fget (bs.drop 1)).2.2 = 0
    · by_cases hl : bs.length < 1 + (fget (bs.drop 1)).2.1 + 2
      · rw [sget_4s h0 h4 he hl] at h; simp at h
      · have hx : bs[1 + (fget (bs.drop 1)).2.1]? = some bs[1 + (fget (bs.drop 1)).2.1] := List.getElem?_eq_getElem (by omega)
        have hy : bs[1 + (fget (bs.drop 1)).2.1 + 1]? = some bs[1 + (fget (bs.drop 1)).2.1 + 1] := List.getElem?_eq_getElem (by omega)
        rw [sget_4 h0 h4 he hx hy] at h ⊢
        obtain ⟨ho, e⟩ := sfin_0 h
        rw [e]
        refine ⟨ho, ?_, by simp only; omega, by simp only; omega⟩
        have hf := fenc_fget he
        unfold sEnc
        simp only [bt_c, show ((4 : Int) = 1) = False by simp, show ((4 : Int) = 5) = False by simp, if_false, if_true, List.nil_append, List.append_nil]
        rw [show ((bs[1 + (fget (bs.drop 1)).2.1].toNat : Int) - 1 + 1) = (bs[1 + (fget (bs.drop 1)).2.1].toNat : Int) by omega, bt_c, hf.1]
        have e2 : bs.take (1 + (fget (bs.drop 1)).2.1 + 2) = bs[0] :: ((bs.drop 1).take ((fget (bs.drop 1)).2.1 + 2)) := by rw [← take_one_add h0]; rfl
        rw [e2, List.take_add, List.drop_drop]
        have e3 : (bs.drop (1 + (fget (bs.drop 1)).2.1)).take 2 = [bs[1 + (fget (bs.drop 1)).2.1], bs[1 + (fget (bs.drop 1)).2.1 + 1]] := by
          rw [List.drop_eq_getElem_cons (by omega), List.drop_eq_getElem_cons (i := 1 + (fget (bs.drop 1)).2.1 + 1) (by omega)]; rfl
        rw [e3, show bt 4 = bs[0] by rw [← bt_c bs[0], h4]; rfl]
    · rw [sget_4e h0 h4 he] at h; exact absurd h he
  · rw [sget_o h0 h1 h5 h4] at h ⊢
    obtain ⟨ho, e⟩ := sfin_0 h
    rw [e]
    refine ⟨ho, ?_, by simp, by simp only; omega⟩
    rw [show (1 : Nat) = 1 + 0 from rfl, take_one_add h0]
    unfold sEnc
    simp only [bt_c]
    rw [if_neg (by omega), if_neg (by omega), if_neg (by omega)]
    simp
def sgo : Nat → List StepP → List UInt8 → List StepP × Int
  | _, acc, [] => (acc, 0)
  | 0, _, _ :: _ => ([], 0)
  | f + 1, acc, c :: r => if acc.length = 64 then ([], 5) else if (sget (c :: r)).2.2 ≠ 0 then ([], (sget (c :: r)).2.2) else sgo f (acc ++ [(sget (c :: r)).1]) ((c :: r).drop (sget (c :: r)).2.1)
theorem sgo_nil {f : Nat} {acc : List StepP} {bs : List UInt8} (h : bs.length = 0) : sgo f acc bs = (acc, 0) := by
  rw [List.eq_nil_of_length_eq_zero h]; cases f <;> rfl
theorem sgo_long {f : Nat} {acc : List StepP} {bs : List UInt8} (h : 0 < bs.length) (hf : bs.length ≤ f) (ha : acc.length = 64) : sgo f acc bs = ([], 5) := by
  cases bs with
  | nil => simp at h
  | cons c r =>
    cases f with
    | zero => simp at hf
    | succ f => rw [sgo, if_pos ha]
theorem sgo_err {f : Nat} {acc : List StepP} {bs : List UInt8} (h : 0 < bs.length) (hf : bs.length ≤ f) (ha : acc.length ≠ 64) (he : (sget bs).2.2 ≠ 0) : sgo f acc bs = ([], (sget bs).2.2) := by
  cases bs with
  | nil => simp at h
  | cons c r =>
    cases f with
    | zero => simp at hf
    | succ f => rw [sgo, if_neg ha, if_pos he]
theorem sgo_step {f : Nat} {acc : List StepP} {bs : List UInt8} (h : 0 < bs.length) (hf : bs.length ≤ f) (ha : acc.length ≠ 64) (he : (sget bs).2.2 = 0) : sgo f acc bs = sgo (f - 1) (acc ++ [(sget bs).1]) (bs.drop (sget bs).2.1) := by
  cases bs with
  | nil => simp at h
  | cons c r =>
    cases f with
    | zero => simp at hf
    | succ f => rw [sgo, if_neg ha, if_neg (by omega)]; rfl
/-- what bytes are as a script, the error -/
def sdec (bs : List UInt8) : List StepP × Int := sgo bs.length [] bs
theorem sgo_sencs : ∀ (l : List StepP) (f : Nat) (acc : List StepP), (∀ p ∈ l, sOk p) → acc.length + l.length ≤ 64 → (sencs l).length ≤ f → sgo f acc (sencs l) = (acc ++ l, 0)
  | [], f, acc, _, _, _ => by rw [sgo_nil (by simp [sencs])]; simp
  | p :: l, f, acc, h, hn, hf => by
    have hp := h p (List.mem_cons_self)
    have e : sencs (p :: l) = sEnc p ++ sencs l := by unfold sencs; rw [List.flatMap_cons]
    have h1 : 0 < (sEnc p).length := by unfold sEnc; simp
    have hg := sget_sEnc p (sencs l) hp
    rw [List.length_cons] at hn
    rw [e] at hf ⊢
    rw [sgo_step (by rw [List.length_append]; omega) hf (by omega) (by rw [hg]), hg]
    simp only []
    rw [List.drop_left, sgo_sencs l _ _ (fun x hx => h x (List.mem_cons_of_mem _ hx)) (by simp; omega) (by rw [List.length_append] at hf; omega)]
    simp
theorem sdec_sencs {l : List StepP} (h : ∀ p ∈ l, sOk p) (hn : l.length ≤ 64) : sdec (sencs l) = (l, 0) := sgo_sencs l _ [] h (by simpa using hn) (Nat.le_refl _)
theorem sencs_sgo : ∀ (f : Nat) (acc : List StepP) (bs : List UInt8) (L : List StepP), bs.length ≤ f → acc.length ≤ 64 → sgo f acc bs = (L, 0) → ∃ l, L = acc ++ l ∧ sencs l = bs ∧ (∀ p ∈ l, sOk p) ∧ L.length ≤ 64 := by
  intro f
  induction f with
  | zero =>
    intro acc bs L hf ha h
    have : bs = [] := List.eq_nil_of_length_eq_zero (by omega)
    subst this
    rw [sgo_nil rfl] at h
    injection h with h _
    subst h
    exact ⟨[], by simp, rfl, by simp, ha⟩
  | succ f ih =>
    intro acc bs L hf ha h
    rcases Nat.eq_zero_or_pos bs.length with h0 | h0
    · have : bs = [] := List.eq_nil_of_length_eq_zero h0
      subst this
      rw [sgo_nil rfl] at h
      injection h with h _
      subst h
      exact ⟨[], by simp, rfl, by simp, ha⟩
    · by_cases hl : acc.length = 64
      · rw [sgo_long h0 hf hl] at h
        injection h with _ h
        simp at h
      by_cases he : (sget bs).2.2 = 0
      · rw [sgo_step h0 hf hl he] at h
        obtain ⟨b1, b2, b3, b4⟩ := sEnc_sget he
        obtain ⟨l, h1, h2, h3, h4⟩ := ih _ _ _ (by rw [List.length_drop]; omega) (by simp; omega) h
        refine ⟨(sget bs).1 :: l, by rw [h1]; simp, ?_, ?_, h4⟩
        · unfold sencs at h2 ⊢
          rw [List.flatMap_cons, h2, b2, List.take_append_drop]
        · intro p hp
          rcases List.mem_cons.1 hp with rfl | hp
          · exact b1
          · exact h3 p hp
      · rw [sgo_err h0 hf hl he] at h
        injection h with _ h
        exact absurd h he
theorem sencs_sdec {bs : List UInt8} (h : (sdec bs).2 = 0) : sencs (sdec bs).1 = bs ∧ (∀ p ∈ (sdec bs).1, sOk p) ∧ (sdec bs).1.length ≤ 64 := by
  have e : sgo bs.length [] bs = ((sdec bs).1, 0) := Prod.ext rfl h
  obtain ⟨l, h1, h2, h3, h4⟩ := sencs_sgo _ _ _ _ (Nat.le_refl _) (by simp) e
  rw [List.nil_append] at h1
  rw [h1]
  exact ⟨h2, h3, h1 ▸ h4⟩
theorem sgo_no : ∀ (f : Nat) (acc : List StepP) (bs : List UInt8), (sgo f acc bs).2 ≠ 0 → (sgo f acc bs).1 = [] := by
  intro f
  induction f with
  | zero => intro acc bs h; cases bs <;> simp [sgo] at h ⊢
  | succ f ih =>
    intro acc bs h
    cases bs with
    | nil => simp [sgo] at h
    | cons c r =>
      rw [sgo] at h ⊢
      split
      · rfl
      · rename_i h1
        split
        · rfl
        · rename_i h2
          rw [if_neg h1, if_neg h2] at h
          exact ih _ _ h
theorem sdec_no {bs : List UInt8} (h : (sdec bs).2 ≠ 0) : (sdec bs).1 = [] := sgo_no _ _ _ h
theorem sdec_ok (bs : List UInt8) : (∀ p ∈ (sdec bs).1, sOk p) ∧ (sdec bs).1.length ≤ 64 := by
  by_cases h : (sdec bs).2 = 0
  · exact (sencs_sdec h).2
  · rw [sdec_no h]; simp
theorem sdec_ex : sdec [2, 5, 3] = ([⟨2, 0, [], [], 0, 0⟩, ⟨5, 3, [], [], 0, 0⟩], 0) := by
  have e : sencs [⟨2, 0, [], [], 0, 0⟩, ⟨5, 3, [], [], 0, 0⟩] = [2, 5, 3] := by
    simp only [sencs, List.flatMap_cons, List.flatMap_nil, sEnc]
    rfl
  rw [← e]
  refine sdec_sencs ?_ (by simp)
  intro p hp
  simp only [List.mem_cons, List.not_mem_nil, or_false] at hp
  rcases hp with rfl | rfl
  · exact .inr (.inl ⟨.inl rfl, rfl, rfl, rfl, rfl, rfl⟩)
  · exact .inr (.inr (.inl ⟨rfl, by simp, by simp, rfl, rfl, rfl, rfl⟩))
end Go.Proofs.Ytbmohojdlgedpaa.Pl
