/-
  Plain mathematics: what is written is read back, and what is read was written so. Nothing of the program or of the model stands here.
-/
import Derived.Test.YtkjgjejkfjhcjaaDoorVp
namespace Go.Proofs.YtkjgjejkfjhcjaaDoor.Pl
theorem n256 (m : Nat) (h : m < 256) : (UInt8.ofNat m).toNat = m := by rw [UInt8.toNat_ofNat']; omega
theorem vgo_vput : ∀ (f m i n : Nat) (r : List UInt8), m ≤ f → m * 128 ^ i < 18446744073709551616 → i ≤ 9 → (m = 0 → i = 0) → vgo i n (vput m ++ r) = (n + m * 128 ^ i, i + (vput m).length, 0) := by
  intro f
  induction f with
  | zero =>
    intro m i n r hf hm hi h0
    obtain rfl : m = 0 := by omega
    rw [vput_lt (by omega)]
    have : i = 0 := h0 rfl
    subst this
    simp [vgo]
  | succ f ih =>
    intro m i n r hf hm hi h0
    have h9 : i = 9 → m ≤ 1 := by
      intro e
      subst e
      rcases Nat.lt_or_ge m 2 with h | h
      · omega
      · have : 2 * 128 ^ 9 ≤ m * 128 ^ 9 := Nat.mul_le_mul_right _ h
        omega
    by_cases hlt : m < 128
    · rw [vput_lt hlt, List.singleton_append, vgo, n256 m (by omega), if_neg (by omega), if_pos hlt, if_neg (by omega), Nat.mod_eq_of_lt hlt]
      rfl
    · rw [vput_ge (by omega), List.cons_append, vgo, n256 (m % 128 + 128) (by omega), if_neg (by omega), if_neg (by omega)]
      have e1 : (m % 128 + 128) % 128 = m % 128 := by omega
      have e2 : m = m % 128 + 128 * (m / 128) := by omega
      have e3 : m % 128 * 128 ^ i + m / 128 * 128 ^ (i + 1) = m * 128 ^ i := by
        have : m * 128 ^ i = (m % 128 + 128 * (m / 128)) * 128 ^ i := by rw [← e2]
        rw [this, Nat.add_mul, Nat.pow_succ]
        congr 1
        rw [Nat.mul_comm (128 ^ i) 128, ← Nat.mul_assoc, Nat.mul_comm (m / 128) 128]
      rw [e1, ih (m / 128) (i + 1) _ r (by omega) (by omega) (by omega) (by omega), Nat.add_assoc, e3, List.length_cons]
      congr 2
      omega
theorem vget_vput {m : Nat} (r : List UInt8) (hm : m < 18446744073709551616) : vget (vput m ++ r) = (m, (vput m).length, 0) := by
  have := vgo_vput m m 0 0 r (Nat.le_refl _) (by omega) (by omega) (fun _ => rfl)
  simpa [vget] using this
theorem fget_fenc {fs : List UInt8} (r : List UInt8) (h : fs.length ≤ 65536) : fget (fenc fs ++ r) = (fs, (fenc fs).length, 0) := by
  unfold fenc
  rw [if_pos h, List.append_assoc]
  have hv := vget_vput (m := fs.length) (fs ++ r) (by omega)
  unfold fget
  rw [hv]
  simp only []
  rw [if_neg (by omega), if_neg (by omega), if_neg (by simp only [List.length_append]; omega), List.drop_left, List.take_left, List.length_append]
theorem vput_vgo : ∀ (bs : List UInt8) (i n : Nat), (vgo i n bs).2.2 = 0 → ∃ m, (vgo i n bs).1 = n + m * 128 ^ i ∧ i ≤ (vgo i n bs).2.1 ∧ vput m = bs.take ((vgo i n bs).2.1 - i) ∧ (m = 0 → i = 0)
  | [], i, n, h => by simp [vgo] at h
  | c :: r, i, n, h => by
    have hc : c.toNat < 256 := c.toNat_lt
    rw [vgo] at h ⊢
    by_cases h1 : i = 9 ∧ 1 < c.toNat
    · rw [if_pos h1] at h; simp at h
    · rw [if_neg h1] at h ⊢
      by_cases h2 : c.toNat < 128
      · rw [if_pos h2] at h ⊢
        by_cases h3 : c.toNat = 0 ∧ 0 < i
        · rw [if_pos h3] at h; simp at h
        · rw [if_neg h3]
          refine ⟨c.toNat, by rw [Nat.mod_eq_of_lt h2], by simp, ?_, by omega⟩
          rw [vput_lt h2, show i + 1 - i = 1 by omega]
          simp
      · rw [if_neg h2] at h ⊢
        obtain ⟨m, e1, e2, e3, e4⟩ := vput_vgo r (i + 1) (n + c.toNat % 128 * 128 ^ i) h
        refine ⟨c.toNat % 128 + 128 * m, ?_, by omega, ?_, by omega⟩
        · rw [e1, Nat.add_assoc, Nat.add_mul, Nat.pow_succ]
          congr 2
          rw [Nat.mul_comm (128 ^ i) 128, ← Nat.mul_assoc, Nat.mul_comm m 128]
        · have hm : m ≠ 0 := by omega
          rw [vput_ge (by omega), show (c.toNat % 128 + 128 * m) / 128 = m by omega, e3]
          have ec : UInt8.ofNat ((c.toNat % 128 + 128 * m) % 128 + 128) = c := by
            rw [show (c.toNat % 128 + 128 * m) % 128 + 128 = c.toNat by omega]
            exact UInt8.ofNat_toNat
          rw [ec, show (vgo (i + 1) (n + c.toNat % 128 * 128 ^ i) r).2.1 - i = ((vgo (i + 1) (n + c.toNat % 128 * 128 ^ i) r).2.1 - (i + 1)) + 1 by omega, List.take_succ_cons]
theorem vput_vget {bs : List UInt8} (h : (vget bs).2.2 = 0) : vput (vget bs).1 = bs.take (vget bs).2.1 := by
  obtain ⟨m, e1, _, e3, _⟩ := vput_vgo bs 0 0 h
  unfold vget
  rw [e1, show 0 + m * 128 ^ 0 = m by omega]
  simpa using e3
theorem fenc_fget {bs : List UInt8} (h : (fget bs).2.2 = 0) : fenc (fget bs).1 = bs.take (fget bs).2.1 ∧ (fget bs).1.length ≤ 65536 := by
  have hb := vget_bound bs
  unfold fget at h ⊢
  by_cases h1 : (vget bs).2.2 ≠ 0
  · rw [if_pos h1] at h; exact absurd h h1
  · rw [if_neg h1] at h ⊢
    by_cases h2 : 65536 < (vget bs).1
    · rw [if_pos h2] at h; simp at h
    · rw [if_neg h2] at h ⊢
      by_cases h3 : bs.length < (vget bs).2.1 + (vget bs).1
      · rw [if_pos h3] at h; simp at h
      · rw [if_neg h3]
        have hl : ((bs.drop (vget bs).2.1).take (vget bs).1).length = (vget bs).1 := by rw [List.length_take, List.length_drop]; omega
        refine ⟨?_, by simp only []; omega⟩
        simp only []
        unfold fenc
        rw [hl, if_pos (by omega), vput_vget (by omega), ← List.take_add]
theorem ba_ext {s : ByteArray} {l : List UInt8} (h : s.data.toList = l) : s = ⟨l.toArray⟩ := by
  cases s; subst h; simp
theorem ba_app (a b : List UInt8) : (⟨(a ++ b).toArray⟩ : ByteArray) = ⟨a.toArray⟩ ++ ⟨b.toArray⟩ := by
  apply ByteArray.ext
  rw [ByteArray.data_append]
  simp
theorem ba_inj {a b : List UInt8} : (⟨a.toArray⟩ : ByteArray) = ⟨b.toArray⟩ ↔ a = b := by
  constructor
  · intro h; injection h with h; simpa using congrArg Array.toList h
  · rintro rfl; rfl
theorem ba_len (s : ByteArray) : s.data.toList.length = s.size := by cases s; simp [ByteArray.size]
theorem opEnc_len {k : Int} {key val : ByteArray} (h : OkOp k key val) : (opEnc k key val).length ≤ 200 := by
  have h1 := fenc_len key.data.toList
  have h2 := fenc_len val.data.toList
  rw [ba_len] at h1 h2
  unfold OkOp at h
  unfold opEnc
  split <;> simp only [List.length_cons, List.length_append, List.length_nil] <;> omega
theorem oget_opEnc {k : Int} {key val : ByteArray} (r : List UInt8) (h : OkOp k key val) : oget (opEnc k key val ++ r) = ((k, key, val), (opEnc k key val).length, 0) := by
  have hk : k = 1 ∨ k = 2 := by unfold OkOp at h; omega
  have hkl : key.data.toList.length ≤ 65536 := by rw [ba_len]; unfold OkOp at h; omega
  have hvl : val.data.toList.length ≤ 65536 := by rw [ba_len]; unfold OkOp at h; omega
  have hkey : (⟨key.data.toList.toArray⟩ : ByteArray) = key := by cases key; simp
  have hval : (⟨val.data.toList.toArray⟩ : ByteArray) = val := by cases val; simp
  rcases hk with rfl | rfl
  · have e : opEnc 1 key val ++ r = UInt8.ofNat 1 :: (fenc key.data.toList ++ (fenc val.data.toList ++ r)) := by unfold opEnc; rw [if_pos rfl]; simp
    have e2 : (opEnc 1 key val).length = 1 + ((fenc key.data.toList).length + (fenc val.data.toList).length) := by unfold opEnc; rw [if_pos rfl, List.length_cons, List.length_append]; omega
    have ht : fget ((UInt8.ofNat 1 :: (fenc key.data.toList ++ (fenc val.data.toList ++ r))).drop 1) = (key.data.toList, (fenc key.data.toList).length, 0) := by
      rw [List.drop_succ_cons, List.drop_zero]; exact fget_fenc _ hkl
    have ht2 : fget ((UInt8.ofNat 1 :: (fenc key.data.toList ++ (fenc val.data.toList ++ r))).drop (1 + (fenc key.data.toList).length)) = (val.data.toList, (fenc val.data.toList).length, 0) := by
      rw [Nat.add_comm, List.drop_succ_cons, List.drop_left]; exact fget_fenc _ hvl
    rw [e, rget_1y (by simp) (by rfl) (by rw [ht]) (by rw [ht, ht2]) (by rw [ht]; simp only []; rw [ht2]; simp only [hkey, hval]; exact h), ht]
    simp only []
    rw [ht2]
    simp only [hkey, hval, e2, Nat.add_assoc]
    rfl
  · have hv0 : val = ⟨#[]⟩ := by
      have : val.size = 0 := by unfold OkOp at h; omega
      cases val with | mk d => cases d with | mk l => cases l with | nil => rfl | cons x y => simp [ByteArray.size] at this
    have e : opEnc 2 key val ++ r = UInt8.ofNat 2 :: (fenc key.data.toList ++ r) := by unfold opEnc; rw [if_neg (by decide)]; simp
    have e2 : (opEnc 2 key val).length = 1 + (fenc key.data.toList).length := by unfold opEnc; rw [if_neg (by decide), List.length_cons, List.append_nil]; omega
    have ht : fget ((UInt8.ofNat 2 :: (fenc key.data.toList ++ r)).drop 1) = (key.data.toList, (fenc key.data.toList).length, 0) := by
      rw [List.drop_succ_cons, List.drop_zero]; exact fget_fenc _ hkl
    rw [e, rget_2y (by simp) (by show ¬ ((2 : Nat) ≠ 1 ∧ (2 : Nat) ≠ 2); decide) (by show (2 : Nat) ≠ 1; decide) (by rw [ht]) (by rw [ht]; simp only [hkey, ← hv0]; exact h), ht]
    simp only [hkey, e2, ← hv0]
    rfl
theorem take_one_add {bs : List UInt8} (h : 0 < bs.length) (n : Nat) : bs.take (1 + n) = bs[0] :: (bs.drop 1).take n := by
  cases bs with
  | nil => simp at h
  | cons a b => rw [Nat.add_comm, List.take_succ_cons]; rfl
theorem opEnc_oget {bs : List UInt8} (h : (oget bs).2.2 = 0) : OkOp (oget bs).1.1 (oget bs).1.2.1 (oget bs).1.2.2 ∧ opEnc (oget bs).1.1 (oget bs).1.2.1 (oget bs).1.2.2 = bs.take (oget bs).2.1 ∧ (oget bs).2.1 ≤ bs.length := by
  rcases Nat.eq_zero_or_pos bs.length with h0 | h0
  · rw [List.eq_nil_of_length_eq_zero h0] at h; simp [oget] at h
  by_cases hk : bs[0].toNat ≠ 1 ∧ bs[0].toNat ≠ 2
  · rw [oget_k h0 hk] at h; simp at h
  have hb0 : bs = bs[0] :: bs.drop 1 := by cases bs with | nil => simp at h0 | cons a b => rfl
  have hfb := fget_bound (bs.drop 1)
  rw [List.length_drop] at hfb
  by_cases he : (fget (bs.drop 1)).2.2 ≠ 0
  · rw [rget_e h0 hk he] at h; exact absurd h he
  have he' : (fget (bs.drop 1)).2.2 = 0 := by omega
  obtain ⟨hf1, hf2⟩ := fenc_fget he'
  by_cases h1 : bs[0].toNat = 1
  · by_cases he2 : (fget (bs.drop (1 + (fget (bs.drop 1)).2.1))).2.2 ≠ 0
    · rw [rget_1e h0 h1 he' he2] at h; exact absurd h he2
    have he2' : (fget (bs.drop (1 + (fget (bs.drop 1)).2.1))).2.2 = 0 := by omega
    by_cases ho : OkOp bs[0].toNat ⟨(fget (bs.drop 1)).1.toArray⟩ ⟨(fget (bs.drop (1 + (fget (bs.drop 1)).2.1))).1.toArray⟩
    · have hg := rget_1y h0 h1 he' he2' ho
      rw [hg]
      obtain ⟨hf3, _⟩ := fenc_fget he2'
      have hfb2 := (fget_bound (bs.drop (1 + (fget (bs.drop 1)).2.1))).1
      rw [List.length_drop] at hfb2
      refine ⟨ho, ?_, by simp only []; omega⟩
      simp only []
      unfold opEnc
      rw [if_pos (by omega)]
      simp only [hf1, hf3]
      have ec : UInt8.ofNat (((bs[0].toNat : Int) % 256).toNat) = bs[0] := by
        have : ((bs[0].toNat : Int) % 256).toNat = bs[0].toNat := by have := bs[0].toNat_lt; omega
        rw [this]; exact UInt8.ofNat_toNat
      rw [ec]
      have e3 : bs.take (1 + (fget (bs.drop 1)).2.1 + (fget (bs.drop (1 + (fget (bs.drop 1)).2.1))).2.1) = bs.take (1 + (fget (bs.drop 1)).2.1) ++ (bs.drop (1 + (fget (bs.drop 1)).2.1)).take (fget (bs.drop (1 + (fget (bs.drop 1)).2.1))).2.1 := List.take_add
      have e4 : bs.take (1 + (fget (bs.drop 1)).2.1) = bs[0] :: (bs.drop 1).take (fget (bs.drop 1)).2.1 := take_one_add h0 _
      rw [e3, e4]
      rfl
    · rw [rget_1n h0 h1 he' he2' ho] at h; simp at h
  · by_cases ho : OkOp bs[0].toNat ⟨(fget (bs.drop 1)).1.toArray⟩ ⟨#[]⟩
    · have hg := rget_2y h0 hk h1 he' ho
      rw [hg]
      refine ⟨ho, ?_, by simp only []; omega⟩
      simp only []
      unfold opEnc
      rw [if_neg (by omega)]
      simp only [hf1, List.append_nil]
      have ec : UInt8.ofNat (((bs[0].toNat : Int) % 256).toNat) = bs[0] := by
        have : ((bs[0].toNat : Int) % 256).toNat = bs[0].toNat := by have := bs[0].toNat_lt; omega
        rw [this]; exact UInt8.ofNat_toNat
      rw [ec]
      have e4 : bs.take (1 + (fget (bs.drop 1)).2.1) = bs[0] :: (bs.drop 1).take (fget (bs.drop 1)).2.1 := take_one_add h0 _
      rw [e4]
    · rw [rget_2n h0 hk h1 he' ho] at h; simp at h
end Go.Proofs.YtkjgjejkfjhcjaaDoor.Pl
