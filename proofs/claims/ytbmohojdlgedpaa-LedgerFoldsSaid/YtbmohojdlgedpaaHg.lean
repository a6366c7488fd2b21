/-
  Changes and transactions as data; the operation of a change.
-/
import Derived.Test.YtbmohojdlgedpaaHf
namespace Go.Proofs.Ytbmohojdlgedpaa
open Go.RowKit Gw Pl
set_option linter.unusedVariables false
set_option linter.unusedSimpArgs false
theorem fld34_0 : fldB Try.prog 34 0 0 = true := by kernel_rfl
theorem fld34_2 : fldB Try.prog 34 2 2 = true := by kernel_rfl
theorem fld34_4 : fldB Try.prog 34 4 4 = true := by kernel_rfl
theorem scl4 : sclB Try.prog 4 = true := by kernel_rfl
structure Chg where
  key : ByteArray
  was : Bool
  is : Bool
  old : ByteArray
  new : ByteArray
  next : Int
def encC (x : Chg) : List Value := [.string x.key, .bool x.was, .bool x.is, .string x.old, .string x.new, .int .i64 x.next]
theorem EncC : Enc encC 6 := ⟨fun _ => rfl, fun _ => rfl⟩
structure Ent where
  lsn : Int
  chain : Int
  la : Option Addr
  lc : Nat
  ch : List Chg
def encEn (x : Ent) : List Value := [.int .i64 x.lsn, .int .i64 x.chain, .slice x.la x.ch.length x.lc]
theorem EncEn : Enc encEn 3 := ⟨fun _ => rfl, fun _ => rfl⟩
def DeepE (hi : Nat) (w : World) (l : List Ent) : Prop := ∀ y ∈ l, Sli 0 0 hi w y.la (fl encC y.ch)
section
variable {hi : Nat} {w w' : World} {l : List Ent}
theorem DeepE.gb (h : DeepE hi w l) (hg : w.grownBy w' none) : DeepE hi w' l := fun y hy => (h y hy).gb hg
theorem DeepE.old {g : Nat} (h : DeepE hi w l) (hg : w.grownBy w' (some g)) (hr : hi ≤ g) : DeepE hi w' l := fun y hy => (h y hy).old hg hr
theorem DeepE.own {base t sz m : Nat} {v : Value} {us : List Value} (h : DeepE hi w l) (ho : w.ownsRow base t sz v m us) (hb : hi ≤ base) (hg : w.grownBy w' v.ownBlock) : DeepE hi w' l := fun y hy => (h y hy).grown hg (fun k hk => .inr (Nat.le_trans hb (World.ownsRow.lt ho k hk).1))
theorem DeepE.getL (h : DeepE hi w l) {i : Nat} (hi' : i < l.length) : Sli 0 0 hi w l[i].la (fl encC l[i].ch) := h _ (List.getElem_mem _)
theorem DeepE.top (h : DeepE hi w l) : DeepE w.heap.size w l := fun y hy => (h y hy).top
end
def GoodEn (W : World) (y : Ent) : Prop := Sli 0 0 W.heap.size W y.la (fl encC y.ch)
def opC (c : Chg) : Opd := if c.is = true then ⟨1, c.key, c.new⟩ else ⟨2, c.key, ⟨#[]⟩⟩
def chs (l : List Ent) : List Chg := l.flatMap (·.ch)
def kvF (l : List Chg) (s : List Kv) : List Kv := (l.map opC).foldl apK s
theorem kv_snoc {l : List Chg} {c : Chg} {s : List Kv} : kvF (l ++ [c]) s = apK (kvF l s) (opC c) := by unfold kvF; rw [List.map_append, List.foldl_append]; rfl
theorem kv_sort {l : List Chg} {s : List Kv} (h : SortK s) : SortK (kvF l s) := apF_sort _ h
theorem kv_nil {l : List Chg} : SortK (kvF l []) := kv_sort List.Pairwise.nil
theorem kv_len {l : List Chg} {s : List Kv} : (kvF l s).length ≤ s.length + l.length := by have := apF_len (l.map opC) (l := s); rw [List.length_map] at this; exact this
theorem kv_key {l : List Chg} : ∀ p ∈ kvF l [], p.1.size ≤ 1000000 := fun p hp => Nat.le_trans (apF_key (l.map opC) (l := []) (fun p hp => by cases hp) p hp) (by decide)
def fit1 (s : List Kv) (c : Chg) : Bool := ((getK s c.key).isSome == c.was) && decide (gO (getK s c.key) = c.old)
def fitsB : List Chg → List Kv → Bool
  | [], _ => true
  | c :: r, s => fit1 s c && fitsB r (apK s (opC c))
theorem fits_snoc : ∀ {l : List Chg} {c : Chg} {s : List Kv}, fitsB (l ++ [c]) s = (fitsB l s && fit1 (kvF l s) c)
  | [], c, s => by show (fit1 s c && true) = (true && fit1 s c); simp
  | d :: l, c, s => by
    show (fit1 s d && fitsB (l ++ [c]) (apK s (opC d))) = ((fit1 s d && fitsB l (apK s (opC d))) && fit1 (kvF (d :: l) s) c)
    rw [fits_snoc, Bool.and_assoc]
    rfl
theorem fits_stop {l : List Chg} {c : Chg} {r : List Chg} {s : List Kv} (h : fit1 (kvF l s) c = false) : fitsB (l ++ c :: r) s = false := by
  induction l generalizing s with
  | nil => show (fit1 s c && _) = false; rw [show fit1 s c = false from h]; rfl
  | cons d l ih =>
    show (fit1 s d && fitsB (l ++ c :: r) (apK s (opC d))) = false
    rw [ih h]; simp
theorem chs_succ {l : List Ent} {i : Nat} (h : i < l.length) : chs (l.take (i + 1)) = chs (l.take i) ++ (l[i]).ch := by
  unfold chs
  rw [List.take_succ_eq_append_getElem h, List.flatMap_append]
  simp
theorem chs_all {l : List Ent} {i : Nat} (h : l.length ≤ i) : chs (l.take i) = chs l := by rw [List.take_of_length_le h]
theorem chs_split {l : List Ent} {i : Nat} (h : i < l.length) : chs l = chs (l.take i) ++ ((l[i]).ch ++ chs (l.drop (i + 1))) := by
  have e : l = l.take i ++ l[i] :: l.drop (i + 1) := by rw [← List.drop_eq_getElem_cons h, List.take_append_drop]
  have e2 : chs l = chs (l.take i ++ l[i] :: l.drop (i + 1)) := congrArg chs e
  rw [e2]
  unfold chs
  rw [List.flatMap_append, List.flatMap_cons]
theorem chs_pre {l : List Ent} {i j : Nat} (h : i < l.length) (hj : j < (l[i]).ch.length) : ∃ r, chs l = chs (l.take i) ++ (l[i]).ch.take j ++ (l[i]).ch[j] :: r := by
  refine ⟨(l[i]).ch.drop (j + 1) ++ chs (l.drop (i + 1)), ?_⟩
  have e : (l[i]).ch = (l[i]).ch.take j ++ (l[i]).ch[j] :: (l[i]).ch.drop (j + 1) := by rw [← List.drop_eq_getElem_cons hj, List.take_append_drop]
  rw [chs_split h]
  have e2 : (l[i]).ch ++ chs (l.drop (i + 1)) = ((l[i]).ch.take j ++ (l[i]).ch[j] :: (l[i]).ch.drop (j + 1)) ++ chs (l.drop (i + 1)) := congrArg (· ++ chs (l.drop (i + 1))) e
  rw [e2]
  simp only [List.append_assoc, List.cons_append]
theorem pre_len {l : List Ent} {i j : Nat} (h : i < l.length) : (chs (l.take i) ++ (l[i]).ch.take j).length ≤ (chs l).length := by
  rw [chs_split h, List.length_append, List.length_append, List.length_append, List.length_take]
  omega
theorem pre_go {l : List Ent} {i j : Nat} (h : i < l.length) (hj : j < (l[i]).ch.length) : chs (l.take i) ++ (l[i]).ch.take (j + 1) = chs (l.take i) ++ (l[i]).ch.take j ++ [(l[i]).ch[j]] := by
  rw [List.take_succ_eq_append_getElem hj, List.append_assoc]
theorem pre_end {l : List Ent} {i j : Nat} (h : i < l.length) (hj : (l[i]).ch.length ≤ j) : chs (l.take i) ++ (l[i]).ch.take j = chs (l.take (i + 1)) := by
  rw [List.take_of_length_le hj, chs_succ h]
theorem tab_b {l : List Ent} {i j n : Nat} {t : Tr} (h : i < l.length) (hk : t.kvs = kvF (chs (l.take i) ++ (l[i]).ch.take j) []) (hb : (chs l).length ≤ 3600) (hn : n ≤ 1) : t.kvs.length + n ≤ 800000 := by
  have h1 := kv_len (l := chs (l.take i) ++ (l[i]).ch.take j) (s := [])
  have h2 := pre_len (j := j) h
  rw [hk]
  simp only [List.length_nil] at h1
  omega
theorem chs_len {l : List Ent} (h : l.length ≤ 60) (h2 : ∀ y ∈ l, y.ch.length ≤ 60) : (chs l).length ≤ 3600 := by
  have : ∀ l : List Ent, (∀ y ∈ l, y.ch.length ≤ 60) → (chs l).length ≤ 60 * l.length := by
    intro l
    induction l with
    | nil => intro _; exact Nat.zero_le _
    | cons y r ih =>
      intro h2
      have h3 := h2 y List.mem_cons_self
      have h4 := ih (fun z hz => h2 z (List.mem_cons_of_mem _ hz))
      show (chs (y :: r)).length ≤ _
      unfold chs at h4 ⊢
      rw [List.flatMap_cons, List.length_append, List.length_cons]
      omega
  have := this l h2
  omega
theorem txop_ok {w : World} {c : Chg} :
    Runs Try.prog 32 #[.agg #[.string c.key, .bool c.was, .bool c.is, .string c.old, .string c.new, .int .i64 c.next]] w (fun v_ w' => w.grownBy w' none ∧ v_ = .agg (encOp (opC c)).toArray) := by
  have hB := gb_refl w none
  refine enter Try.func32 Try.ntmps32 rfl rfl ?_
  refine C_seq (C_reg rfl ?_)
  refine L_box (cs := [.string c.key, .bool c.was, .bool c.is, .string c.old, .string c.new, .int .i64 c.next]) rfl rfl rfl ?_
  intro g1 w1 eg1 hb1 hs1 hz1
  have ge1 : w.heap.size ≤ g1 := eg_ge hB eg1
  replace hB := gb_tr hB hs1
  refine L_alloc (cs := [.int .i64 0, .string (⟨#[]⟩), .string (⟨#[]⟩)]) zer71 rfl rfl ?_
  intro g2 w2 eg2 hb2 hs2 hz2
  have ge2 : w.heap.size ≤ g2 := eg_ge hB eg2
  have lt1 : g1 < g2 := lt_of_eg hb1.lt eg2
  replace hB := gb_tr hB hs2
  replace hb1 := hb1.gb hs2
  refine L_nil (N_then (C_seq (C_seq (C_reg rfl ?_))))
  refine L_run (R_field (r := 2) rfl fld34_2 rfl) rfl ?_
  refine L_run (R_load1 rfl scl4 (hb1.cell (i := 2) rfl)) rfl ?_
  refine L_nil (N_then ?_)
  refine C_cond rfl (fun h1 => ?_) (fun h1 => ?_)
  · refine C_seq (C_reg rfl ?_)
    refine L_run (R_field (r := 0) rfl fld34_0 rfl) rfl ?_
    refine L_run (R_load1 rfl scl9 (hb1.cell (i := 0) rfl)) rfl ?_
    refine L_run (R_field (r := 4) rfl fld34_4 rfl) rfl ?_
    refine L_run (R_load1 rfl scl9 (hb1.cell (i := 4) rfl)) rfl ?_
    refine L_run (R_build (pv := [(0, .int .i64 1), (1, .string c.key), (2, .string c.new)]) (cs := [.int .i64 1, .string c.key, .string c.new]) rfl (by kernel_rfl)) rfl ?_
    refine L_stA (vs := [.int .i64 1, .string c.key, .string c.new]) rfl rfl rfl sz71 rfl hb2 rfl ?_
    intro w3 hb3 hs3 hz3
    replace hB := gb_trg hB hs3 ge2
    replace hb1 := hb1.grown hs3 (ne_lt lt1)
    refine L_nil (N_then (C_ret (R_then ?_)))
    refine retC (vs := [.int .i64 1, .string c.key, .string c.new]) Try.results32 rfl agg71 (At.pre (hb3.at_ 0) rfl) rfl  ?_
    exact ⟨hB, by unfold opC; rw [if_pos h1]; rfl⟩
  · refine C_skip (N_then (C_seq (C_reg rfl ?_)))
    refine L_run (R_field (r := 0) rfl fld34_0 rfl) rfl ?_
    refine L_run (R_load1 rfl scl9 (hb1.cell (i := 0) rfl)) rfl ?_
    refine L_run (R_build (pv := [(0, .int .i64 2), (1, .string c.key)]) (cs := [.int .i64 2, .string c.key, .string (⟨#[]⟩)]) rfl (by kernel_rfl)) rfl ?_
    refine L_stA (vs := [.int .i64 2, .string c.key, .string (⟨#[]⟩)]) rfl rfl rfl sz71 rfl hb2 rfl ?_
    intro w4 hb4 hs4 hz4
    replace hB := gb_trg hB hs4 ge2
    replace hb1 := hb1.grown hs4 (ne_lt lt1)
    refine L_nil (N_then (C_ret ?_))
    refine retC (vs := [.int .i64 2, .string c.key, .string (⟨#[]⟩)]) Try.results32 rfl agg71 (At.pre (hb4.at_ 0) rfl) rfl  ?_
    exact ⟨hB, by unfold opC; rw [if_neg (by rw [h1]; decide)]; rfl⟩

end Go.Proofs.Ytbmohojdlgedpaa
