/-
  How the arguments of a law open: every number, text, struct and slice that the model reads before the call, as plain data. They hold of every program.
-/
import Derived.Test.YtkjgjejkfjhcjaaDoorGb
import Derived.Deep.Slices
import Derived.SizedLaws
import Derived.ChangeArms
import Derived.ProofKit
namespace Go.Proofs.YtkjgjejkfjhcjaaDoor.Gw
open Go.RowKit Go.Deep
set_option linter.unusedVariables false
set_option linter.unusedSimpArgs false

section
variable {H : Type} {enc : TypeId × Value → H} {P : Program} {W : World}
/-- What type t's cells read as: a datum y, its cells e y, and what is good of it. -/
def Rdr (enc : TypeId × Value → H) (P : Program) (W : World) (t : TypeId) {X : Type} (e : X → List Value) (good : X → Prop) : Prop :=
  ∀ (fuel : Nat) (cs : List Value) (x : DataW H × List MemPlace), DataW.trod enc P W 0 (fun _ => true) true fuel t cs = some x → (x.1.weights P t).all (· ≤ reachBytes) = true → ∃ y, cs = e y ∧ good y
theorem Rdr.map {t : TypeId} {X Y : Type} {e : X → List Value} {good : X → Prop} {e' : Y → List Value} {good' : Y → Prop} (R : Rdr enc P W t e good) (g : X → Y) (he : ∀ y, good y → e y = e' (g y)) (hg : ∀ y, good y → good' (g y)) : Rdr enc P W t e' good' := by
  intro fuel cs x h hw
  obtain ⟨y, rfl, hy⟩ := R fuel cs x h hw
  exact ⟨g y, he y hy, hg y hy⟩
theorem Rdr.int {t : TypeId} {k : IntKind} (ht : P.underlying t = some (.int k)) : Rdr enc P W t (fun n : Int => [.int k n]) (fun n => (Lit.int k n).wf = true) := by
  intro fuel cs x h hw
  obtain ⟨n, rfl, rfl, hn⟩ := DataW.trod_int ht h
  exact ⟨n, rfl, hn⟩
theorem Rdr.bool {t : TypeId} (ht : P.underlying t = some .bool) : Rdr enc P W t (fun b : Bool => [.bool b]) (fun _ => True) := by
  intro fuel cs x h hw
  obtain ⟨n, rfl, rfl⟩ := DataW.trod_bool ht h
  exact ⟨n, rfl, trivial⟩
theorem Rdr.str {t : TypeId} (ht : P.underlying t = some .string) : Rdr enc P W t (fun s : ByteArray => [.string s]) (fun s => s.size ≤ 140737488351232) := by
  intro fuel cs x h hw
  obtain ⟨n, rfl, rfl, hn⟩ := DataW.trod_string ht h
  refine ⟨n, rfl, ?_⟩
  have := List.all_eq_true.1 hw _ (List.mem_singleton.2 rfl)
  have h2 : n.data.toList.length ≤ reachBytes := of_decide_eq_true this
  have e1 : n.data.toList.length = n.size := by cases n; simp [ByteArray.size]
  have e2 : reachBytes = 140737488351232 := by decide
  omega
theorem list_of_lt {X : Type} {p : Nat → X → Prop} : ∀ {n : Nat}, (∀ i, i < n → ∃ x, p i x) → ∃ ys : List X, ys.length = n ∧ ∀ i x, ys[i]? = some x → p i x
  | 0, _ => ⟨[], rfl, fun i x h => by simp at h⟩
  | n + 1, h => by
    obtain ⟨ys, hl, hy⟩ := list_of_lt (n := n) (fun i hi => h i (by omega))
    obtain ⟨x, hx⟩ := h n (by omega)
    refine ⟨ys ++ [x], by simp [hl], fun i z hz => ?_⟩
    rcases Nat.lt_or_ge i n with hin | hin
    · rw [List.getElem?_append_left (by omega)] at hz
      exact hy i z hz
    · rw [List.getElem?_append_right (by omega)] at hz
      have : i - ys.length = 0 := by
        rcases Nat.eq_zero_or_pos (i - ys.length) with h0 | h0
        · exact h0
        · rw [List.getElem?_eq_none (by simp; omega)] at hz; cases hz
      rw [this] at hz
      have e : i = n := by omega
      subst e
      injection hz with hz
      subst hz
      exact hx
theorem fl_get? {X : Type} {ec : X → List Value} {sz : Nat} (he : Enc ec sz) {ys : List X} {j : Nat} {v : Value} (h : (fl ec ys)[j]? = some v) : ∃ i k y, ys[i]? = some y ∧ (ec y)[k]? = some v ∧ k < sz ∧ j = i * sz + k := by
  have hj : j < (fl ec ys).length := (List.getElem?_eq_some_iff.1 h).1
  rw [fl_len he] at hj
  have hs : 0 < sz := by
    rcases Nat.eq_zero_or_pos sz with h0 | h0
    · rw [h0] at hj; simp at hj
    · exact h0
  have hi : j / sz < ys.length := Nat.div_lt_of_lt_mul (by rw [Nat.mul_comm]; exact hj)
  refine ⟨j / sz, j % sz, ys[j / sz], by simp [hi], ?_, Nat.mod_lt _ hs, by rw [Nat.mul_comm]; exact (Nat.div_add_mod j sz).symm⟩
  have := fl_get he hi
  rw [← this, List.getElem?_take_of_lt (Nat.mod_lt _ hs), List.getElem?_drop]
  rw [show j / sz * sz + j % sz = j by rw [Nat.mul_comm]; exact Nat.div_add_mod j sz]
  exact h
theorem weights_all_mem {e : TypeId} {d : DataW H} : ∀ {l : List (DataW H)}, d ∈ l → ∀ n ∈ d.weights P e, n ∈ DataW.weightsAll P e l
  | x :: l, h, n, hn => by
    simp only [DataW.weightsAll, List.mem_append]
    rcases List.mem_cons.1 h with rfl | h
    · exact .inl hn
    · exact .inr (weights_all_mem h n hn)
theorem Rdr.slice {t e : TypeId} {sz by_ : Nat} {X : Type} {ec : X → List Value} {good : X → Prop} (R : Rdr enc P W e ec good) (he : Enc ec sz) (ht : P.underlying t = some (.slice e)) (hs : P.cellsOf e = sz) (hb : P.bytesOf e = by_) :
    Rdr enc P W t (fun y : Option Addr × Nat × List X => [.slice y.1 y.2.2.length y.2.1])
      (fun y => Sli 0 0 W.heap.size W y.1 (fl ec y.2.2) ∧ y.2.2.length ≤ y.2.1 ∧ y.2.1 * by_ ≤ 140737488351232 ∧ ∀ x ∈ y.2.2, good x) := by
  intro fuel cs x h hw
  rcases open_slice ht h with ⟨rfl, rfl⟩ | ⟨a, len, cap, m, n, D, Pl, rfl, _, hl, hm, hmm, rfl, hx⟩
  · exact ⟨(none, 0, []), rfl, .inl rfl, Nat.le_refl _, by simp, fun x hx => by cases hx⟩
  simp only [if_true] at hmm
  subst hmm
  rw [hs] at hx
  simp only [DataW.weights, ht, List.all_cons, Bool.and_eq_true, List.all_append, hb, decide_eq_true_eq] at hw
  obtain ⟨hw1, hw2, _⟩ := hw
  have hkey : ∀ i, i < len → ∃ y, (∀ k, k < sz → W.cell? ((a.add (i * sz)).add k) = (ec y)[k]?) ∧ good y := by
    intro i hi
    obtain ⟨cs', h1, h2⟩ := hx i (by omega)
    obtain ⟨_, hlen, hc⟩ := World.cells?_some h1
    obtain ⟨y, rfl, hy⟩ := R n cs' _ h2 (by
      refine List.all_eq_true.2 fun q hq => ?_
      exact List.all_eq_true.1 hw2 _ (weights_all_mem (List.mem_map.2 ⟨i, by simpa using hi, rfl⟩) q hq))
    exact ⟨y, hc, hy⟩
  obtain ⟨ys, hys, hyy⟩ := list_of_lt hkey
  refine ⟨(some a, m, ys), by rw [← hys], ?_, by rw [hys]; exact hl, ?_, ?_⟩
  · have key : ∀ j v, (fl ec ys)[j]? = some v → a.spot = none ∧ ∃ c t' fr, W.heap[a.block]? = some (.cells c t' fr) ∧ c[a.off + j]? = some v := by
      intro j v hj
      obtain ⟨i, k, y, hi, hk, hks, rfl⟩ := fl_get? he hj
      have hc := (hyy i y hi).1 k hks
      rw [hk] at hc
      have hq : ∀ q : Addr, q.block = a.block → q.off = a.off + (i * sz + k) → (a.spot = none ∨ q.spot = none) → W.cell? q = some v → ∃ c t' fr, W.heap[a.block]? = some (.cells c t' fr) ∧ c[a.off + (i * sz + k)]? = some v := by
        intro q hq1 hq2 _ hq3
        unfold World.cell? at hq3
        rw [hq1] at hq3
        split at hq3
        · rename_i c t' fr hh
          split at hq3
          · cases hq3
          · exact ⟨c, t', fr, hh, by rw [← hq2]; exact hq3⟩
        · cases hq3
      have hsp : a.spot = none := by
        have hpos : 0 < ys.length := Nat.lt_of_le_of_lt (Nat.zero_le _) (List.getElem?_eq_some_iff.1 hi).1
        have h0 := (hyy 0 ys[0] (List.getElem?_eq_getElem hpos)).1 0 (by omega)
        have hl0 : 0 < (ec ys[0]).length := by rw [he.len]; omega
        rw [List.getElem?_eq_getElem hl0] at h0
        simp only [Nat.zero_mul, Addr.add, if_true] at h0
        unfold World.cell? at h0
        split at h0
        · split at h0
          · cases h0
          · rename_i hn; simpa using hn
        · cases h0
      refine ⟨hsp, hq ((a.add (i * sz)).add k) ?_ ?_ (.inl hsp) hc⟩
      · unfold Addr.add; split <;> split <;> rfl
      · unfold Addr.add; split <;> split <;> simp_all <;> omega
    rcases Classical.em (fl ec ys = []) with h0 | h0
    · exact .inl h0
    · obtain ⟨v, hv⟩ : ∃ v, (fl ec ys)[0]? = some v := by
        cases hh : fl ec ys with
        | nil => exact absurd hh h0
        | cons v l => exact ⟨v, rfl⟩
      obtain ⟨hsp, c, t', fr, h1, h2⟩ := key 0 v hv
      refine .inr ⟨a.block, a.off, c, fr, ?_, Nat.zero_le _, (Array.getElem?_eq_some_iff.1 h1).1, ⟨t', h1, .inl rfl⟩, ?_⟩
      · cases a; simp_all
      · intro j v hj
        obtain ⟨_, c', t2, fr2, h3, h4⟩ := key j v hj
        rw [h1] at h3
        injection h3 with h3
        injection h3 with h3
        subst h3
        exact h4
  · have e2 : reachBytes = 140737488351232 := by decide
    have : len + (m - len) = m := by omega
    simp only [List.length_map, List.length_range, this] at hw1
    show m * by_ ≤ _
    omega
  · intro y hy
    obtain ⟨i, hi, rfl⟩ := List.mem_iff_getElem.1 hy
    exact (hyy i _ (List.getElem?_eq_getElem hi)).2
/-- The fields of a struct, from cell off on. -/
def Rds (enc : TypeId × Value → H) (P : Program) (W : World) (fs : List Field) (off : Nat) {X : Type} (e : X → List Value) (good : X → Prop) : Prop :=
  ∀ (n : Nat) (cs : List Value) (xs : List (DataW H × List MemPlace)), (∀ (i : Nat) (f : Field), fs[i]? = some f → off ≤ f.offset ∧ DataW.trod enc P W 0 (fun _ => true) true n f.type ((cs.drop (f.offset - off)).take (P.cellsOf f.type)) = xs[i]?) → xs.length = fs.length →
    cs.length = (fs.map fun f : Field => P.cellsOf f.type).sum → (DataW.weightsEach P (fs.map (·.type)) (xs.map (·.1))).all (· ≤ reachBytes) = true → ∃ y, cs = e y ∧ good y
theorem Rds.nil {off : Nat} : Rds enc P W [] off (fun _ : Unit => []) (fun _ => True) := by
  intro n cs xs _ _ hl _
  exact ⟨(), List.eq_nil_of_length_eq_zero (by simpa using hl), trivial⟩
theorem Rds.cons {f : Field} {fs : List Field} {off sz : Nat} {X Y : Type} {e1 : X → List Value} {g1 : X → Prop} {e2 : Y → List Value} {g2 : Y → Prop} (R : Rdr enc P W f.type e1 g1) (hs : P.cellsOf f.type = sz) (ho : f.offset = off) (hge : fs.all (fun f : Field => Nat.ble (off + sz) f.offset) = true) (T : Rds enc P W fs (off + sz) e2 g2) :
    Rds enc P W (f :: fs) off (fun y : X × Y => e1 y.1 ++ e2 y.2) (fun y => g1 y.1 ∧ g2 y.2) := by
  intro n cs xs hf hx hl hw
  cases xs with
  | nil => simp at hx
  | cons x xs =>
    simp only [List.map_cons, List.sum_cons, hs] at hl
    simp only [List.map_cons, DataW.weightsEach, List.all_append, Bool.and_eq_true] at hw
    have h0 := (hf 0 f rfl).2
    rw [ho, Nat.sub_self, List.drop_zero, hs] at h0
    obtain ⟨y1, h1, hy1⟩ := R n _ x h0 hw.1
    obtain ⟨y2, h2, hy2⟩ := T n (cs.drop sz) xs (fun i f' hi => by
      have hi' := hf (i + 1) f' hi
      have hle : off + sz ≤ f'.offset := by
        have := List.all_eq_true.1 hge f' (List.mem_of_getElem? hi)
        simpa [Nat.ble_eq] using this
      refine ⟨hle, ?_⟩
      rw [List.drop_drop]
      rw [show sz + (f'.offset - (off + sz)) = f'.offset - off by omega]
      exact hi'.2) (by simpa using hx) (by rw [List.length_drop]; omega) hw.2
    refine ⟨(y1, y2), ?_, hy1, hy2⟩
    show cs = e1 y1 ++ e2 y2
    rw [← h1, ← h2, List.take_append_drop]
theorem Rdr.struct {t : TypeId} {fs : Array Field} {fl : List Field} {X : Type} {e : X → List Value} {good : X → Prop} (ht : P.underlying t = some (.struct fs)) (hfl : fs.toList = fl) (hc : P.cellsOf t = (fl.map fun f : Field => P.cellsOf f.type).sum) (R : Rds enc P W fl 0 e good) : Rdr enc P W t e good := by
  intro fuel cs x h hw
  obtain ⟨xs, n, rfl, rfl, hl, hx, hi⟩ := DataW.trod_struct ht h
  subst hfl
  refine R n cs xs (fun i f hf => ⟨Nat.zero_le _, ?_⟩) (by simpa using hx) (by rw [hl, hc]) ?_
  · rw [Nat.sub_zero]
    exact hi i f (by simpa using hf)
  · simpa only [DataW.weights, ht] using hw
/-- One argument. -/
theorem Rdr.arg {t : TypeId} {X : Type} {e : X → List Value} {good : X → Prop} (R : Rdr enc P W t e good) {ts : List TypeId} {ds : List (DataW H)} (hsz : (DataW.weightsEach P ts ds).all (· ≤ reachBytes) = true) {j : Nat} {v : Value} {d : DataW H} {ps : List MemPlace}
    (ht : ts[j]? = some t) (hd : ds[j]? = some d) (h : DataW.Trod enc P W 0 (fun _ => true) true t v d ps) : ∃ y, v.cells.toList = e y ∧ good y := by
  obtain ⟨fuel, h⟩ := h
  exact R fuel _ _ h (List.all_eq_true.2 fun n hn => List.all_eq_true.1 hsz n (DataW.weights_mem_each ht hd n hn))
end
theorem byte_of (n : Int) (h : (Lit.int .u8 n).wf = true) : [Value.int .u8 n] = encB (UInt8.ofNat n.toNat) := by
  have h' : 0 ≤ n ∧ n ≤ 255 := by
    simp [Lit.wf] at h
    have e1 : IntKind.u8.min = 0 := rfl
    have e2 : IntKind.u8.max = 255 := rfl
    omega
  have e : (UInt8.ofNat n.toNat).toNat = n.toNat := by rw [UInt8.toNat_ofNat']; omega
  show _ = [Value.int .u8 ((UInt8.ofNat n.toNat).toNat : Int)]
  rw [e, show ((n.toNat : Nat) : Int) = n from by omega]
theorem of_cell {v u : Value} (h : v.cells.toList = [u]) (hv : ∀ cs, v ≠ .agg cs) : v = u := by
  cases v <;> simp_all [Value.cells]
theorem of_agg {cs : Array Value} {l : List Value} (h : (Value.agg cs).cells.toList = l) : cs = l.toArray := by
  subst h; simp [Value.cells]
end Go.Proofs.YtkjgjejkfjhcjaaDoor.Gw
