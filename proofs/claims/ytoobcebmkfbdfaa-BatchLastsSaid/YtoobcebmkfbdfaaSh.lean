/-
  The library's sort over operations, compared by their keys: what it leaves of a row of one's own.
-/
import Derived.Test.YtoobcebmkfbdfaaGh
import Derived.Test.YtoobcebmkfbdfaaRows
import Derived.Shelf.SlLaysF0
import Derived.Shelf.SlSortCmp.NoneTotal
import Derived.WalkKit
import Derived.ProofKit
namespace Go.Proofs.Ytoobcebmkfbdfaa
open Go.RowKit Go.Sort Go.Shelf Go.Lib Gw Pl
set_option linter.unusedVariables false
set_option linter.unusedSimpArgs false
def sortOp_ren : Go.Shelf.Ren := ⟨fun | 6 => 73 | 15 => 135 | 14 => 134 | 28 => 174 | 29 => 175 | 20 => 166 | 21 => 167 | 22 => 168 | 23 => 169 | 24 => 170 | 25 => 171 | 26 => 172 | 27 => 173 | 46 => 200 | 47 => 201 | 48 => 202 | 49 => 203 | 50 => 204 | 57 => 221 | n => n, fun | 22 => 22 | 24 => 128 | 25 => 132 | 3 => 3 | 39 => 52 | 0 => 0 | 53 => 255 | 55 => 224 | 4 => 4 | 46 => 248 | 45 => 247 | 50 => 252 | 5 => 5 | 9 => 9 | 66 => 273 | 70 => 277 | 76 => 295 | 77 => 163 | n => n, fun | n => n⟩
theorem sortOp : Go.Proofs.SlLaysF0.n6 Try.prog sortOp_ren := {
  mixed := by kernel_rfl
  f6 := ⟨Try.f73.name, by decide, Try.func73.trans (congrArg some (by kernel_rfl))⟩
  f14 := ⟨Try.f134.name, by decide, Try.func134.trans (congrArg some (by kernel_rfl))⟩
  f15 := Try.func135.trans (congrArg some (by kernel_rfl))
  f20 := ⟨Try.f166.name, by decide, Try.func166.trans (congrArg some (by kernel_rfl))⟩
  f21 := ⟨Try.f167.name, by decide, Try.func167.trans (congrArg some (by kernel_rfl))⟩
  f22 := ⟨Try.f168.name, by decide, Try.func168.trans (congrArg some (by kernel_rfl))⟩
  f23 := ⟨Try.f169.name, by decide, Try.func169.trans (congrArg some (by kernel_rfl))⟩
  f24 := ⟨Try.f170.name, by decide, Try.func170.trans (congrArg some (by kernel_rfl))⟩
  f25 := ⟨Try.f171.name, by decide, Try.func171.trans (congrArg some (by kernel_rfl))⟩
  f26 := ⟨Try.f172.name, by decide, Try.func172.trans (congrArg some (by kernel_rfl))⟩
  f27 := ⟨Try.f173.name, by decide, Try.func173.trans (congrArg some (by kernel_rfl))⟩
  f28 := Try.func174.trans (congrArg some (by kernel_rfl))
  f29 := Try.func175.trans (congrArg some (by kernel_rfl))
  f46 := ⟨Try.f200.name, by decide, Try.func200.trans (congrArg some (by kernel_rfl))⟩
  f47 := Try.func201.trans (congrArg some (by kernel_rfl))
  f48 := Try.func202.trans (congrArg some (by kernel_rfl))
  f49 := ⟨Try.f203.name, by decide, Try.func203.trans (congrArg some (by kernel_rfl))⟩
  f50 := ⟨Try.f204.name, by decide, Try.func204.trans (congrArg some (by kernel_rfl))⟩
  f57 := ⟨Try.f221.name, by decide, Try.func221.trans (congrArg some (by kernel_rfl))⟩
  t0 := Try.underlying0
  a0 := Try.isAgg0
  z0 := Try.sizeOf0
  v0 := Try.zeroValue0
  t3 := Try.underlying3
  a3 := Try.isAgg3
  z3 := Try.sizeOf3
  v3 := Try.zeroValue3
  t4 := Try.underlying4
  a4 := Try.isAgg4
  z4 := Try.sizeOf4
  v4 := Try.zeroValue4
  t5 := Try.underlying5
  a5 := Try.isAgg5
  z5 := Try.sizeOf5
  v5 := Try.zeroValue5
  t9 := Try.underlying9
  a9 := Try.isAgg9
  z9 := Try.sizeOf9
  v9 := Try.zeroValue9
  t22 := Try.underlying22
  a22 := Try.isAgg22
  z22 := Try.sizeOf22
  v22 := Try.zeroValue22
  t25 := Try.underlying132
  a25 := Try.isAgg132
  z25 := Try.sizeOf132
  v25 := Try.zeroValue132
  t39 := Try.underlying52
  a39 := Try.isAgg52
  z39 := Try.sizeOf52
  v39 := Try.zeroValue52
  t45 := Try.underlying247
  a45 := Try.isAgg247
  z45 := Try.sizeOf247
  v45 := Try.zeroValue247
  t46 := Try.underlying248
  a46 := Try.isAgg248
  z46 := Try.sizeOf248
  v46 := Try.zeroValue248
  t50 := Try.underlying252
  a50 := Try.isAgg252
  z50 := Try.sizeOf252
  v50 := Try.zeroValue252
  t53 := Try.underlying255
  a53 := Try.isAgg255
  z53 := Try.sizeOf255
  v53 := Try.zeroValue255
  t55 := Try.underlying224
  a55 := Try.isAgg224
  z55 := Try.sizeOf224
  v55 := Try.zeroValue224
  t66 := Try.underlying273
  a66 := Try.isAgg273
  z66 := Try.sizeOf273
  v66 := Try.zeroValue273
  t70 := Try.underlying277
  a70 := Try.isAgg277
  z70 := Try.sizeOf277
  v70 := Try.zeroValue277
  t76 := Try.underlying295
  a76 := Try.isAgg295
  z76 := Try.sizeOf295
  v76 := Try.zeroValue295
  t77 := Try.underlying163
  a77 := Try.isAgg163
  z77 := Try.sizeOf163
  v77 := Try.zeroValue163 }
set_option maxHeartbeats 1000000 in
theorem closure_last (x y : Opd) (W : World) : Calls Try.prog 74 #[.agg (encOp x).toArray, .agg (encOp y).toArray] W fun e w' => e = .returned (.int .i64 (cfS x y)) ∧ ∃ q os', w' = Go.Sort.grow (W.drewN q) os' := by
  have h1 := less_slt x.key y.key
  have h4 := toList_eq x.key y.key
  have ht : ¬ slt x.key y.key → (slt y.key x.key ↔ ¬ x.key = y.key) := fun h => ⟨fun q e => by rw [e] at q; exact slt_irrefl _ q, fun q => Decidable.not_not.1 fun z => q (slt_tri h z)⟩
  have hg : ∀ w, (binOp .gtr 9 (.string x.key) (.string y.key)).run Try.prog w = .ok (.bool (decide (slt y.key x.key))) w := fun w => by
    have h := slt_or x.key y.key
    simp only [binOp, Op.stringOp, less_slt, toList_eq, h, Sem.run_pure]
    simp
  unfold encOp cfS
  go_enter Try.func74, Try.ntmps74
  go_wp2
  all_goals first
    | (go_ret; exact ⟨rfl, 0, _, by rw [alloc_eq_grow, alloc_eq_grow, grow_grow]; rfl⟩)
    | (exfalso; simp_all [slt_irrefl])
theorem sort_ops {w : World} {base : Nat} {A : Option Addr} {c : Nat} {xs : List Opd} (ho : w.ownsRow base 128 3 (.slice A xs.length c) xs.length (fl encOp xs)) (hn : xs.length ≤ 1000000) :
    Runs Try.prog 73 #[.slice A xs.length c, .func (.func 74) #[] #[]] w (fun v w' => w.grownBy w' (Value.slice A xs.length c).ownBlock ∧ v = .tuple #[] ∧ ∃ ys, ys.Perm xs ∧ ys.Pairwise (fun a b => ¬ slt b.key a.key) ∧ w'.ownsRow base 128 3 (.slice A ys.length c) ys.length (fl encOp ys)) := by
  have ho' := ho
  obtain ⟨hl, h | ⟨g, cap, cur, e, hb, hh, _⟩⟩ := ho'
  · injection h.1 with e1 e2 e3
    subst e1
    have hx : xs = [] := List.eq_nil_of_length_eq_zero e2
    subst hx
    exact Calls.mono (AnyF.slices_SortFunc_none sortOp none c (.func (.func 74) #[] #[]) w) (by
      rintro e' w' ⟨rfl, rfl⟩
      exact ⟨gb_refl _ _, rfl, [], List.Perm.refl _, List.Pairwise.nil, ho⟩)
  · injection e with e1 e2 e3
    subst e1
    have hblk := (Array.getElem?_eq_some_iff.1 hh).1
    have eg : ∀ args w, (callFunc 74 args).run Try.prog w = .ok (.enter 74 args) w := enters_of Try.func74 (by kernel_rfl) rfl
    have hcon := AnyQ.slices_SortFunc sortOp 3 Try.isAgg128 Try.sizeOf128 encOp (fun _ => rfl) (fun x v hv => List.all_eq_true.1 (EncOp.one x) v hv) cfS swoS 74 #[] g 0 c xs.toArray w eg
      (fun _ _ _ _ x y => closure_last x y _) (own_holds (k := 3) (fun _ => rfl) ho) hblk (by simp; omega)
    refine Calls.mono hcon ?_
    rintro e' w' ⟨rfl, d', n, os, hp, hs, rfl⟩
    have hsz : d'.size = xs.length := by have := hp.1; simpa using this
    obtain ⟨q1, q2⟩ := sorted_own (k := 3) (n := n) (os := os) (d := d') (fun _ => rfl) hsz ho
    refine ⟨q2, rfl, d'.toList, ?_, ?_, q1⟩
    · have h2 := hp.2.2
      have e1 : d'.extract 0 xs.toArray.size = d' := by rw [List.size_toArray, ← hsz]; simp
      rw [e1] at h2
      simpa using h2
    · rw [List.pairwise_iff_getElem]
      intro i j hi hj hij
      have hj' : j < d'.size := by simpa using hj
      have h3 := hs i j (Nat.zero_le _) hij (by rw [List.size_toArray, ← hsz]; exact hj')
      rw [ltOf_cfS, getElem!_pos _ j hj', getElem!_pos _ i (by omega)] at h3
      simpa using h3
end Go.Proofs.Ytoobcebmkfbdfaa
