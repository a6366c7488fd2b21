/-
  strings.Join and strings.Split, by the shelf's contracts, in the words of rows: they hold of every program that bears the library's bodies.
-/
import Derived.Test.YtkjgjejkfjhcjaaDoorGk
import Derived.Test.YtkjgjejkfjhcjaaDoorVy
import Derived.Shelf.Strings.OnBuilder
import Derived.Shelf.Strings.Split
namespace Go.Proofs.YtkjgjejkfjhcjaaDoor.Gw
open Go.RowKit Go.Shelf Pl
set_option linter.unusedVariables false
set_option linter.unusedSimpArgs false
def encW (x : List UInt8) : List Value := [.string ⟨x.toArray⟩]
theorem EncW : Enc encW 1 := ⟨fun _ => rfl, fun _ => rfl⟩
theorem fl_encW : ∀ xs : List (List UInt8), fl encW xs = xs.map (fun x => Value.string ⟨x.toArray⟩)
  | [] => rfl
  | x :: xs => by rw [List.map_cons, ← fl_encW xs]; rfl
section
variable {P : Program} {ρ : Ren}
theorem bas_data (xs : List (List UInt8)) : (xs.map (fun x => (⟨x.toArray⟩ : ByteArray))).map (·.data.toList) = xs := by
  induction xs with
  | nil => rfl
  | cons x xs ih => rw [List.map_cons, List.map_cons, ih]
theorem join_run (L : Lays.n156 P ρ) (X : Builder.Extra P ρ) {w : World} {t lo hi c : Nat} {A : Option Addr} {xs : List (List UInt8)} {sep : List UInt8} (hS : Sli t lo hi w A (fl encW xs)) (hc : xs.length ≤ c)
    (hN : xs.length ≤ 140737488355328) (hl : (Go.Lib.join xs sep).length ≤ 140737488355328) :
    Runs P (ρ.f 156) #[.slice A xs.length c, .string ⟨sep.toArray⟩] w fun v w' => w.grownBy w' none ∧ v = .string ⟨(Go.Lib.join xs sep).toArray⟩ := by
  rcases hS with h | ⟨g, off, cs, fr, rfl, h1, h2, ⟨t', h3, ht⟩, h4⟩
  · obtain rfl : xs = [] := by
      cases xs with
      | nil => rfl
      | cons x xs => rw [fl_encW] at h; cases h
    exact (Any.strings_Join_none L X A c ⟨sep.toArray⟩ w).mono fun e w' ⟨he, hw⟩ => by subst he hw; exact ⟨gb_refl _ _, rfl⟩
  · have hj := Any.strings_Join L X g off c (xs.map (fun x => (⟨x.toArray⟩ : ByteArray))) ⟨sep.toArray⟩ w (fun j x hx => by
      rw [cell_of_row w g (off + j) cs t' fr h3]
      refine h4 j _ ?_
      rw [List.getElem?_map] at hx
      obtain ⟨y, hy, rfl⟩ := Option.map_eq_some_iff.1 hx
      rw [fl_encW, List.getElem?_map, hy]
      rfl) (Array.getElem?_eq_some_iff.1 h3).1 (by rw [List.length_map]; exact hN) (by rw [List.length_map]; exact hc) (by rw [bas_data]; exact hl)
    rw [List.length_map, bas_data] at hj
    exact hj.mono fun e w' ⟨he, hb⟩ => by subst he; exact ⟨below_gb hb, rfl⟩
theorem ix_one : ∀ (l : List UInt8) (c : UInt8), Go.Lib.index l [c] = Go.Lib.indexByte l c
  | [], c => rfl
  | b :: l, c => by
    rw [Go.Lib.index, Go.Lib.indexByte, ix_one l c]
    by_cases h : b = c
    · subst h; simp [List.isPrefixOf]
    · have h' : ¬ c = b := fun e => h e.symm
      simp [List.isPrefixOf, h, h']
theorem split_run (L : Lays.n146 P ρ) (hi9 : (P.info? (ρ.t 9)).map (fun i => (i.zero, i.size, i.bytes)) = some (some (.string ByteArray.empty), 1, 16)) {w : World} {s : List UInt8} (hs : s.length < 4294967281) :
    Runs P (ρ.f 146) #[.string ⟨s.toArray⟩, .string ⟨#[10]⟩] w fun v w' => w.grownBy w' none ∧ ∃ A, v = .slice A (pcs s).length (pcs s).length ∧ Sli (ρ.t 9) w.heap.size w'.heap.size w' A (fl encW (pcs s)) := by
  have hz : (⟨s.toArray⟩ : ByteArray).size = s.length := by simp [ByteArray.size]
  have hC : Calls P (ρ.f 138) #[.string ⟨s.toArray⟩, .string ⟨#[10]⟩] w fun e w' => e = .returned (.int .i64 (Go.Lib.countB ⟨s.toArray⟩ ⟨#[10]⟩)) ∧ w' = w := by
    refine (Any.strings_Count_one { L with } ⟨s.toArray⟩ 10 w).mono fun e w' ⟨he, hw⟩ => ⟨?_, hw⟩
    rw [he]
    show _ = Ending.returned (Value.int .i64 ((Go.Lib.count s [10] : Nat) : Int))
    rw [Go.Lib.count_one]
    rfl
  have hle := Go.Lib.countB_le ⟨#[10]⟩ (by decide) _ ⟨s.toArray⟩ (Nat.le_refl _)
  have hlen := Go.Lib.splitB_all ⟨#[10]⟩ (by decide) 0 _ ⟨s.toArray⟩ rfl
  have c := Any.strings_genSplit_core { L with } hi9 ⟨s.toArray⟩ ⟨#[10]⟩ 0 (-1) (Go.Lib.countB ⟨s.toArray⟩ ⟨#[10]⟩ + 1) w (by rw [hz]; exact hs) (by decide) (Nat.zero_le _)
    (fun x c _ => (Any.strings_Index_one { L with } x 10 _).mono fun e w' ⟨he, hw⟩ => ⟨by rw [he]; show _ = Ending.returned (Value.int .i64 (Go.Lib.index x.data.toList [10])); rw [ix_one], hw⟩) hC (by decide) (by decide) (by rw [if_pos (by decide)]; omega)
  rw [Nat.add_sub_cancel, hlen] at c
  have e2 : Go.Lib.cellsOf (Go.Lib.splitB ⟨#[10]⟩ 0 (Go.Lib.countB ⟨s.toArray⟩ ⟨#[10]⟩) ⟨s.toArray⟩) (Go.Lib.countB ⟨s.toArray⟩ ⟨#[10]⟩ + 1) = ((Go.Lib.splitB ⟨#[10]⟩ 0 (Go.Lib.countB ⟨s.toArray⟩ ⟨#[10]⟩) ⟨s.toArray⟩).map Value.string).toArray := by rw [← hlen]; exact Go.Lib.cellsOf_full _
  rw [e2] at c
  have hd : (Go.Lib.splitB ⟨#[10]⟩ 0 (Go.Lib.countB ⟨s.toArray⟩ ⟨#[10]⟩) ⟨s.toArray⟩).map (·.data.toList) = pcs s := by
    rw [Go.Lib.splitB_data]; exact splitK_pcs _ _ rfl
  have hn : Go.Lib.countB ⟨s.toArray⟩ ⟨#[10]⟩ + 1 = (pcs s).length := by rw [← hd, List.length_map, hlen]
  have hv : (Go.Lib.splitB ⟨#[10]⟩ 0 (Go.Lib.countB ⟨s.toArray⟩ ⟨#[10]⟩) ⟨s.toArray⟩).map Value.string = fl encW (pcs s) := by
    rw [fl_encW, ← hd, List.map_map]
    exact List.map_congr_left fun x _ => rfl
  rw [hv, hn] at c
  have t3 := L.t3; have t9 := L.t9; have t31 := L.t31
  have a3 := L.a3; have a9 := L.a9; have a31 := L.a31
  have z3 := L.z3; have v3 := L.v3; have z9 := L.z9; have v9 := L.v9; have z31 := L.z31; have v31 := L.v31
  have e221 : ∀ args w, (callFunc (ρ.f 221) args).run P w = .ok (.enter (ρ.f 221) args) w := enters_of L.f221 (by kernel_rfl) rfl
  have key : Calls P (ρ.f 146) #[.string ⟨s.toArray⟩, .string ⟨#[10]⟩] w fun e w' => e = .returned (.slice (some ⟨w.heap.size, 0, none⟩) (pcs s).length (pcs s).length) ∧ w' = w.alloc (.cells (fl encW (pcs s)).toArray (ρ.t 9)) := by
    go_enter L.f146, Body.n146_ntmps ρ
    go_wp2_with (go_at_fn (ρ.f 221); refine c.mono ?_; rintro e w' ⟨rfl, hw⟩; rw [hw])
    go_ret
    exact ⟨rfl, rfl⟩
  exact key.mono fun e w' ⟨he, hw⟩ => by
    subst he hw
    refine ⟨gb_alloc w _, _, rfl, ?_⟩
    exact (Blk.sli (m := 0) (blk_new w _ _)).wide (Nat.le_refl _) (by show w.heap.size + 1 ≤ (w.heap.push _).size; rw [Array.size_push]; exact Nat.le_refl _)
end
end Go.Proofs.YtkjgjejkfjhcjaaDoor.Gw
