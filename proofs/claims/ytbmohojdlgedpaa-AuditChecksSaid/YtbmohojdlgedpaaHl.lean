/-
  Contracts of the references 33 and 37: operations applied to pairs.
-/
import Derived.Test.YtbmohojdlgedpaaHi
import Derived.Test.YtbmohojdlgedpaaVd
namespace Go.Proofs.Ytbmohojdlgedpaa
open Go.RowKit Gw Pl
set_option linter.unusedVariables false
set_option linter.unusedSimpArgs false
theorem cb27 : callB Try.prog 27 = true := by kernel_rfl
theorem cb28 : callB Try.prog 28 = true := by kernel_rfl
theorem cb94 : callB Try.prog 94 = true := by kernel_rfl
theorem scl80 : sclB Try.prog 80 = true := by kernel_rfl
theorem slc90 : slcB Try.prog 90 80 1 24 = true := by kernel_rfl
structure OpsD where
  a : Option Addr
  c : Nat
  xs : List Opd
def encO2 (y : OpsD) : List Value := [.slice y.a y.xs.length y.c]
theorem EncO2 : Enc encO2 1 := ⟨fun _ => rfl, fun _ => rfl⟩
def DeepO (hi : Nat) (w : World) (l : List OpsD) : Prop := ∀ y ∈ l, Sli 0 0 hi w y.a (fl encOp y.xs)
section
variable {hi : Nat} {w w' : World} {l : List OpsD}
theorem DeepO.gb (h : DeepO hi w l) (hg : w.grownBy w' none) : DeepO hi w' l := fun y hy => (h y hy).gb hg
theorem DeepO.old {g : Nat} (h : DeepO hi w l) (hg : w.grownBy w' (some g)) (hr : hi ≤ g) : DeepO hi w' l := fun y hy => (h y hy).old hg hr
theorem DeepO.own {base t sz m : Nat} {v : Value} {us : List Value} (h : DeepO hi w l) (ho : w.ownsRow base t sz v m us) (hb : hi ≤ base) (hg : w.grownBy w' v.ownBlock) : DeepO hi w' l := fun y hy => (h y hy).grown hg (fun k hk => .inr (Nat.le_trans hb (World.ownsRow.lt ho k hk).1))
theorem DeepO.getX (h : DeepO hi w l) {i : Nat} (hi' : i < l.length) : Sli 0 0 hi w l[i].a (fl encOp l[i].xs) := h _ (List.getElem_mem _)
theorem DeepO.top (h : DeepO hi w l) : DeepO w.heap.size w l := fun y hy => (h y hy).top
theorem DeepO.take (h : DeepO hi w l) {n : Nat} : DeepO hi w (l.take n) := fun y hy => h y (List.mem_of_mem_take hy)
theorem DeepO.snoc {y : OpsD} (h : DeepO hi w l) (h1 : Sli 0 0 hi w y.a (fl encOp y.xs)) : DeepO hi w (l ++ [y]) := by
  intro z hz
  rcases List.mem_append.1 hz with hz | hz
  · exact h z hz
  · rw [List.mem_singleton.1 hz]; exact h1
theorem DeepO.nil : DeepO hi w [] := fun y hy => by cases hy
end
def apL (l : List OpsD) : List Kv := (l.flatMap (·.xs)).foldl apK []
def opsN (l : List OpsD) : Nat := (l.flatMap (·.xs)).length
theorem apL_sort {l : List OpsD} : SortK (apL l) := apF_sort _ List.Pairwise.nil
theorem apL_go {l : List OpsD} {i : Nat} (h : i < l.length) : apL (l.take (i + 1)) = ((l[i]).xs).foldl apK (apL (l.take i)) := by
  unfold apL
  rw [List.take_succ_eq_append_getElem h, List.flatMap_append, List.foldl_append]
  simp
theorem apL_len {l : List OpsD} : (apL l).length ≤ opsN l := by have := apF_len (l.flatMap (·.xs)) (l := []); simpa [apL, opsN] using this
theorem opsN_go {l : List OpsD} {i : Nat} (h : i < l.length) : opsN (l.take i) + (l[i]).xs.length ≤ opsN l := by
  have e : l.flatMap (·.xs) = (l.take i ++ l[i] :: l.drop (i + 1)).flatMap (·.xs) := by rw [← List.drop_eq_getElem_cons h, List.take_append_drop]
  unfold opsN
  rw [e, List.flatMap_append, List.flatMap_cons, List.length_append, List.length_append]
  omega
theorem opsN_take {l : List OpsD} {i : Nat} : opsN (l.take i) ≤ opsN l := by
  have e : l.flatMap (·.xs) = (l.take i ++ l.drop i).flatMap (·.xs) := by rw [List.take_append_drop]
  unfold opsN
  rw [e, List.flatMap_append, List.length_append]
  omega
theorem apL_key {l : List OpsD} : ∀ p ∈ apL l, p.1.size ≤ 1000000 := by
  intro p hp
  exact Nat.le_trans (apF_key (l.flatMap (fun y : OpsD => y.xs)) (l := []) (fun _ h => by cases h) p hp) (by decide)
theorem apI_len {ops : List Opd} {i : Nat} {s : List Kv} : ((ops.take i).foldl apK s).length ≤ s.length + ops.length := by
  have h := apF_len (ops.take i) (l := s)
  rw [List.length_take] at h
  omega
theorem rapply_ok {w : World} {t1 lo hi t2 lo2 hi2 : Nat} {A A2 : Option Addr} {c c2 : Nat} {l : List Kv} {ops : List Opd} (hS : Sli t1 lo hi w A (fl encK l)) (hF : Sli t2 lo2 hi2 w A2 (fl encOp ops)) (hs : SortK l) (hb : l.length + ops.length ≤ 1000000) :
    Runs Try.prog 94 #[.slice A l.length c, .slice A2 ops.length c2] w (fun v_ w' => w.grownBy w' none ∧ ∃ A' c' n', v_ = .tuple #[.slice A' (ops.foldl apK l).length c', .int .i64 n'] ∧ Sli 0 0 w'.heap.size w' A' (fl encK (ops.foldl apK l))) := by
  have hB := gb_refl w none
  replace hS := hS.top
  replace hF := hF.top
  refine enter Try.func94 Try.ntmps94 rfl rfl ?_
  refine C_seq (C_reg rfl ?_)
  refine L_run (R_assign rfl) rfl ?_
  refine L_run (R_assign rfl) rfl ?_
  refine L_nil (N_then (C_seq (C_reg rfl ?_)))
  refine L_run (R_assign rfl) rfl ?_
  refine L_nil (N_then (C_seq (C_seq (C_reg rfl ?_))))
  refine L_run (R_assign rfl) rfl ?_
  refine L_nil (N_then (C_block ?_))
  refine C_loop (fun m_ a_ w_ => ∃ (σ_ : Nat → Value) (i : Nat) (nn : Nat) (Aj : Option Addr) (cj : Nat) (zz : Nat), a_ = Ac 49 σ_ [] [(0, .slice Aj (((ops.take i).foldl apK l).length) cj), (1, .slice A2 ops.length c2), (4, .slice none 0 0), (5, .int .i64 0), (6, .int .i64 (nn : Int)), (7, .int .i64 (i : Int))] ∧ w.grownBy w_ none ∧ Sli t2 lo2 w.heap.size w_ A2 (fl encOp ops) ∧ Sli 0 0 zz w_ Aj (fl encK ((ops.take i).foldl apK l)) ∧ (nn ≤ i) ∧ (i ≤ ops.length) ∧ ops.length - i = m_) (ops.length - 0) ?_ ?_
  · exact ⟨_, 0, 0, A, c, w.heap.size, Ac_frg ⟨(agr rfl (by first | rfl | (congr 1; omega) | (congr 1; simp; done) | (congr 1; simp only [IntKind.wrap_u64, IntKind.wrap_i64, IntKind.wrap_u8]; omega) | (congr 1 <;> omega))), rfl, rfl, rfl, (agr rfl (by first | rfl | (congr 1; omega) | (congr 1; simp; done) | (congr 1; simp only [IntKind.wrap_u64, IntKind.wrap_i64, IntKind.wrap_u8]; omega) | (congr 1 <;> omega))), (agr rfl (by first | rfl | (congr 1; omega) | (congr 1; simp; done) | (congr 1; simp only [IntKind.wrap_u64, IntKind.wrap_i64, IntKind.wrap_u8]; omega) | (congr 1 <;> omega))), trivial⟩, hB, hF, (by rw [List.take_zero]; exact Sli.any hS), (Nat.le_refl _), (Nat.zero_le _), rfl⟩
  · clear hB
    clear hS hF
    rintro m_ a_ w1 ⟨σ_, i, nn, Aj, cj, zz, rfl, hB, hF, hSj, hnn, hi_, rfl⟩
    refine C_seq (C_seq (C_reg rfl ?_))
    refine L_run (R_move rfl) rfl ?_
    refine L_run (R_move rfl) rfl ?_
    refine L_run (R_lenSl rfl slc80) rfl ?_
    refine L_run (R_lss rfl rfl) rfl ?_
    refine L_nil (N_then ?_)
    refine C_if rfl (fun h1 => ?_) (fun h1 => ?_)
    · refine C_skip (N_then (C_seq (C_block (C_seq (C_seq (C_reg rfl ?_))))))
      have hkb : ((ops.take i).foldl apK l).length ≤ 1000000 := Nat.le_trans apI_len hb
      have hks : SortK ((ops.take i).foldl apK l) := apF_sort _ hs
      refine L_run (R_move rfl) rfl ?_
      refine L_run (R_move rfl) rfl ?_
      have hl1 : i < ops.length := by first | omega | (simp; omega)
      refine T_index (xs := ops) (i := i) EncOp rfl rfl (by first | rfl | omega) slc80 hl1 hF rfl ?_
      intro g1 o1 ha1
      refine L_run (R_loadA (vs := [.int .i64 ((ops[i]).kind), .string ((ops[i]).key), .string ((ops[i]).val)]) rfl agg71 (At.pre ha1 rfl) rfl) rfl ?_
      refine L_call rfl cb27 (ref10_Right) rfl ?_
      rintro _ w2 ⟨hs1, rfl⟩
      replace hB := gb_tr hB hs1
      replace hF := hF.gb hs1
      replace hSj := hSj.gb hs1
      replace ha1 := At.gb ha1 hs1 (by simp)
      refine L_run (R_notD rfl) rfl ?_
      refine L_nil (N_then ?_)
      refine C_ifN rfl (fun h2 => ?_) (fun h2 => ?_)
      · refine C_exit (X_then (X_hit (N_then (C_reg rfl ?_))))
        refine L_run (R_move rfl) rfl ?_
        refine L_run (R_add64 rfl rfl (by omega)) rfl ?_
        refine L_run (R_assign rfl) rfl ?_
        refine L_nil (N_then ?_)
        have hlt : i < ops.length := by omega
        have et_ : (ops.take (i + 1)).foldl apK l = (ops.take i).foldl apK l := by rw [apF_go hlt, apK_no h2]
        exact ⟨ops.length - (i + 1), by omega, _, (i + 1), nn, Aj, cj, zz, Ac_frg ⟨(agr rfl (by rw [et_])), rfl, rfl, rfl, rfl, (agr rfl (by first | rfl | (congr 1; omega) | (congr 1; simp; done) | (congr 1; simp only [IntKind.wrap_u64, IntKind.wrap_i64, IntKind.wrap_u8]; omega) | (congr 1 <;> omega))), trivial⟩, hB, hF, (by rw [et_]; exact hSj), (by omega), (by omega), rfl⟩
      · refine C_skip (N_then (C_seq (C_reg rfl ?_)))
        refine L_run (R_move rfl) rfl ?_
        refine L_run (R_add64 rfl rfl (by omega)) rfl ?_
        refine L_run (R_assign rfl) rfl ?_
        refine L_nil (N_then (C_seq (C_reg rfl ?_)))
        refine L_run (R_move rfl) rfl ?_
        refine L_run (R_move rfl) rfl ?_
        have hl2 : i < ops.length := by first | omega | (simp; omega)
        refine T_index (xs := ops) (i := i) EncOp rfl rfl (by first | rfl | omega) slc80 hl2 hF rfl ?_
        intro g2 o2 ha2
        refine L_run (R_field rfl fld71_0 rfl) rfl ?_
        refine L_run (R_load1 rfl scl3 (ha2 0 _ rfl)) rfl ?_
        refine L_run (R_eql rfl rfl) rfl ?_
        refine L_nil (N_then ?_)
        refine C_if rfl (fun h3 => ?_) (fun h3 => ?_)
        · refine C_draw2 rfl mix ?_
          intro w3 hs2 hz1
          replace hB := gb_tr hB hs2
          replace hF := hF.gb hs2
          replace hSj := hSj.gb hs2
          replace ha1 := At.gb ha1 hs2 (by simp)
          replace ha2 := At.gb ha2 hs2 (by simp)
          have hl3 : i < ops.length := by first | omega | (simp; omega)
          obtain ⟨g3, o3, r1, eA1, er1, ha3⟩ := Sli.place' (xs := ops) (i := i) EncOp hF hl3 rfl
          refine ⟨fun W_ => At W_ g3 r1 [.int .i64 ((ops[i]).kind), .string ((ops[i]).key), .string ((ops[i]).val)] ∧ True, [0, 1, 2, 3, 4, 5, 6, 7, 8, 9, 10, 12], ?_⟩
          refine T_takeA (i := 0) rfl (by kernel_rfl) (by kernel_rfl) (by kernel_rfl) (by kernel_rfl) (Y_of (fun _ ⟨ha3, _⟩ => R_move rfl)) ⟨ha3, trivial⟩ rfl ?_
          refine T_takeA (i := 1) rfl (by kernel_rfl) (by kernel_rfl) (by kernel_rfl) (by kernel_rfl) (Y_of (fun _ ⟨ha3, _⟩ => R_move rfl)) ⟨ha3, trivial⟩ rfl ?_
          refine T_takeA (i := 2) rfl (by kernel_rfl) (by kernel_rfl) (by kernel_rfl) (by kernel_rfl) (Y_of (fun _ ⟨ha3, _⟩ => R_move rfl)) ⟨ha3, trivial⟩ rfl ?_
          refine T_takeA (i := 3) rfl (by kernel_rfl) (by kernel_rfl) (by kernel_rfl) (by kernel_rfl) (Y_of (fun _ ⟨ha3, _⟩ => R_indexE rfl rfl (by first | rfl | omega) slc80 hl3 eA1 er1)) ⟨ha3, trivial⟩ rfl ?_
          refine T_takeA (i := 4) rfl (by kernel_rfl) (by kernel_rfl) (by kernel_rfl) (by kernel_rfl) (Y_of (fun _ ⟨ha3, _⟩ => R_field rfl fld71_1 rfl)) ⟨ha3, trivial⟩ rfl ?_
          refine T_takeA (i := 5) rfl (by kernel_rfl) (by kernel_rfl) (by kernel_rfl) (by kernel_rfl) (Y_of (fun _ ⟨ha3, _⟩ => R_load1 rfl scl9 (ha3 1 _ rfl))) ⟨ha3, trivial⟩ rfl ?_
          refine T_takeA (i := 6) rfl (by kernel_rfl) (by kernel_rfl) (by kernel_rfl) (by kernel_rfl) (Y_of (fun _ ⟨ha3, _⟩ => R_move rfl)) ⟨ha3, trivial⟩ rfl ?_
          refine T_takeA (i := 7) rfl (by kernel_rfl) (by kernel_rfl) (by kernel_rfl) (by kernel_rfl) (Y_of (fun _ ⟨ha3, _⟩ => R_move rfl)) ⟨ha3, trivial⟩ rfl ?_
          refine T_takeA (i := 8) rfl (by kernel_rfl) (by kernel_rfl) (by kernel_rfl) (by kernel_rfl) (Y_of (fun _ ⟨ha3, _⟩ => R_indexE rfl rfl (by first | rfl | omega) slc80 hl3 eA1 er1)) ⟨ha3, trivial⟩ rfl ?_
          refine T_takeA (i := 9) rfl (by kernel_rfl) (by kernel_rfl) (by kernel_rfl) (by kernel_rfl) (Y_of (fun _ ⟨ha3, _⟩ => R_field rfl fld71_2 rfl)) ⟨ha3, trivial⟩ rfl ?_
          refine T_takeA (i := 10) rfl (by kernel_rfl) (by kernel_rfl) (by kernel_rfl) (by kernel_rfl) (Y_of (fun _ ⟨ha3, _⟩ => R_load1 rfl scl9 (ha3 2 _ rfl))) ⟨ha3, trivial⟩ rfl ?_
          refine T_all (rs := [11]) (by kernel_rfl) rfl (all1 (O_one rfl ?_))
          have ge1 : w.heap.size ≤ w3.heap.size := hB.size
          refine L_call rfl cb28 (rput_ok (l := (ops.take i).foldl apK l) (key := (ops[i]).key) (x := (ops[i]).val) hSj hkb hks) rfl ?_
          rintro _ w4 ⟨hs3, A_1, c_1, rfl, ho1⟩
          replace hB := gb_tr hB hs3
          replace hF := hF.gb hs3
          replace hSj := hSj.gb hs3
          replace ha1 := At.gb ha1 hs3 (by simp)
          replace ha2 := At.gb ha2 hs3 (by simp)
          replace ha3 := At.gb ha3 hs3 (by simp)
          refine L_nil (N_then ⟨fun hN_ => ⟨ha3, trivial⟩, ?_⟩)
          refine T_takeA (i := 12) rfl (by kernel_rfl) (by kernel_rfl) (by kernel_rfl) (by kernel_rfl) (Y_of (fun _ ⟨ha3, _⟩ => R_assign rfl)) ⟨ha3, trivial⟩ rfl ?_
          refine T_done (by kernel_rfl) (CalmE.normal ?_)
          refine N_in (N_then (C_reg rfl ?_))
          refine L_run (R_move rfl) rfl ?_
          refine L_run (R_add64 rfl rfl (by omega)) rfl ?_
          refine L_run (R_assign rfl) rfl ?_
          refine L_nil (N_then ?_)
          have hlt : i < ops.length := by omega
          have et_ : (ops.take (i + 1)).foldl apK l = (putK ((ops.take i).foldl apK l) ((ops[i]).key) ((ops[i]).val)) := by rw [apF_go hlt, apK_put h2 h3]
          exact ⟨ops.length - (i + 1), by omega, _, (i + 1), (nn + 1), A_1, c_1, w4.heap.size, Ac_frg ⟨(agr rfl (by rw [et_])), rfl, rfl, rfl, (agr rfl (by first | rfl | (congr 1; omega) | (congr 1; simp; done) | (congr 1; simp only [IntKind.wrap_u64, IntKind.wrap_i64, IntKind.wrap_u8]; omega) | (congr 1 <;> omega))), (agr rfl (by first | rfl | (congr 1; omega) | (congr 1; simp; done) | (congr 1; simp only [IntKind.wrap_u64, IntKind.wrap_i64, IntKind.wrap_u8]; omega) | (congr 1 <;> omega))), trivial⟩, hB, hF, (by rw [et_]; exact Sli.any (own_of ho1).2.2), (by omega), (by omega), rfl⟩
        · refine C_reg rfl ?_
          refine L_run (R_move rfl) rfl ?_
          refine L_run (R_move rfl) rfl ?_
          refine L_run (R_move rfl) rfl ?_
          have hl4 : i < ops.length := by first | omega | (simp; omega)
          refine T_index (xs := ops) (i := i) EncOp rfl rfl (by first | rfl | omega) slc80 hl4 hF rfl ?_
          intro g4 o4 ha4
          refine L_run (R_field rfl fld71_1 rfl) rfl ?_
          refine L_run (R_load1 rfl scl9 (ha4 1 _ rfl)) rfl ?_
          have ge2 : w.heap.size ≤ w2.heap.size := hB.size
          refine L_call rfl cb29 (rdel_ok (l := (ops.take i).foldl apK l) (key := (ops[i]).key) hSj hkb) rfl ?_
          rintro _ w5 ⟨hs4, A_2, c_2, rfl, ho2⟩
          replace hB := gb_tr hB hs4
          replace hF := hF.gb hs4
          replace hSj := hSj.gb hs4
          replace ha1 := At.gb ha1 hs4 (by simp)
          replace ha2 := At.gb ha2 hs4 (by simp)
          replace ha4 := At.gb ha4 hs4 (by simp)
          refine L_run (R_assign rfl) rfl ?_
          refine L_nil (N_in (N_then (C_reg rfl ?_)))
          refine L_run (R_move rfl) rfl ?_
          refine L_run (R_add64 rfl rfl (by omega)) rfl ?_
          refine L_run (R_assign rfl) rfl ?_
          refine L_nil (N_then ?_)
          have hlt : i < ops.length := by omega
          have et_ : (ops.take (i + 1)).foldl apK l = (delK ((ops.take i).foldl apK l) ((ops[i]).key)) := by rw [apF_go hlt, apK_del h2 h3]
          exact ⟨ops.length - (i + 1), by omega, _, (i + 1), (nn + 1), A_2, c_2, w5.heap.size, Ac_frg ⟨(agr rfl (by rw [et_])), rfl, rfl, rfl, (agr rfl (by first | rfl | (congr 1; omega) | (congr 1; simp; done) | (congr 1; simp only [IntKind.wrap_u64, IntKind.wrap_i64, IntKind.wrap_u8]; omega) | (congr 1 <;> omega))), (agr rfl (by first | rfl | (congr 1; omega) | (congr 1; simp; done) | (congr 1; simp only [IntKind.wrap_u64, IntKind.wrap_i64, IntKind.wrap_u8]; omega) | (congr 1 <;> omega))), trivial⟩, hB, hF, (by rw [et_]; exact Sli.any (own_of ho2).2.2), (by omega), (by omega), rfl⟩
    · refine C_exit (X_then (X_then (X_hit (N_then (C_seq (C_reg rfl ?_))))))
      refine L_run (R_move rfl) rfl ?_
      refine L_run (R_move rfl) rfl ?_
      refine L_run (R_assign rfl) rfl ?_
      refine L_run (R_assign rfl) rfl ?_
      refine L_nil (N_then (C_ret ?_))
      refine ret2 Try.results94 rfl rfl ?_
      have et_ : ops.take i = ops := List.take_of_length_le (by omega)
      rw [et_] at hSj ⊢
      exact ⟨hB, _, _, _, rfl, hSj.top⟩

theorem rafter_ok {w : World} {t1 lo hi : Nat} {A : Option Addr} {c : Nat} {l : List OpsD} (hS : Sli t1 lo hi w A (fl encO2 l)) (hD : DeepO w.heap.size w l) (hb : opsN l ≤ 1000000) (hb2 : l.length ≤ 1000000) :
    Runs Try.prog 88 #[.slice A l.length c, .int .i64 (l.length : Int)] w (fun v_ w' => w.grownBy w' none ∧ ∃ A' c', v_ = .slice A' (apL l).length c' ∧ Sli 0 0 w'.heap.size w' A' (fl encK (apL l))) := by
  have hB := gb_refl w none
  replace hS := hS.top
  refine enter Try.func88 Try.ntmps88 rfl rfl ?_
  refine C_seq (C_reg rfl ?_)
  refine L_run (R_assign rfl) rfl ?_
  refine L_nil (N_then (C_seq (C_reg rfl ?_)))
  refine L_run (R_assign rfl) rfl ?_
  refine L_nil (N_then (C_seq (C_seq (C_reg rfl ?_))))
  refine L_run (R_assign rfl) rfl ?_
  refine L_nil (N_then (C_block ?_))
  refine C_loop (fun m_ a_ w_ => ∃ (σ_ : Nat → Value) (i : Nat) (Aj : Option Addr) (cj : Nat) (zz : Nat), a_ = Ac 28 σ_ [] [(0, .slice A l.length c), (1, .int .i64 (l.length : Int)), (4, .slice none 0 0), (5, .slice Aj ((apL (l.take i)).length) cj), (6, .int .i64 (i : Int))] ∧ w.grownBy w_ none ∧ Sli t1 lo w.heap.size w_ A (fl encO2 l) ∧ DeepO w.heap.size w_ l ∧ Sli 0 0 zz w_ Aj (fl encK (apL (l.take i))) ∧ (i ≤ l.length) ∧ l.length - i = m_) (l.length - 0) ?_ ?_
  · exact ⟨_, 0, none, 0, 0, Ac_frg ⟨rfl, rfl, rfl, (agr rfl (by first | rfl | (congr 1; omega) | (congr 1; simp; done) | (congr 1; simp only [IntKind.wrap_u64, IntKind.wrap_i64, IntKind.wrap_u8]; omega) | (congr 1 <;> omega))), (agr rfl (by first | rfl | (congr 1; omega) | (congr 1; simp; done) | (congr 1; simp only [IntKind.wrap_u64, IntKind.wrap_i64, IntKind.wrap_u8]; omega) | (congr 1 <;> omega))), trivial⟩, hB, hS, hD, Sli.nil, (Nat.zero_le _), rfl⟩
  · clear hB
    clear hS hD
    rintro m_ a_ w1 ⟨σ_, i, Aj, cj, zz, rfl, hB, hS, hD, hSj, hi_, rfl⟩
    refine C_seq (C_seq (C_reg rfl ?_))
    refine L_run (R_move rfl) rfl ?_
    refine L_run (R_move rfl) rfl ?_
    refine L_run (R_lenSl rfl slc90) rfl ?_
    refine L_run (R_lss rfl rfl) rfl ?_
    refine L_run (R_move rfl) rfl ?_
    refine L_splitD (p := (i : Int) < (l.length : Int)) (fun h1 => ?_) (fun h1 => ?_)
    · refine L_yes rfl rfl rfl (decide_eq_true h1) ?_
      refine L_run (R_move rfl) rfl ?_
      refine L_yes rfl rfl rfl (decide_eq_true h1) ?_
      refine L_run (R_move rfl) rfl ?_
      refine L_yes rfl rfl rfl (decide_eq_true h1) ?_
      refine L_run (R_lss rfl rfl) rfl ?_
      refine L_run (R_pickT rfl (decide_eq_true h1) rfl) rfl ?_
      refine L_nil (N_then (C_condT rfl (decide_eq_true h1) (C_skip (N_then (C_seq (C_block (C_reg rfl ?_)))))))
      have hlt : i < l.length := by omega
      have hn1 := opsN_go hlt
      have hn2 := apL_len (l := l.take i)
      refine L_run (R_move rfl) rfl ?_
      refine L_run (R_move rfl) rfl ?_
      refine L_run (R_move rfl) rfl ?_
      have hl1 : i < l.length := by first | omega | (simp; omega)
      refine T_index (xs := l) (i := i) EncO2 rfl rfl (by first | rfl | omega) slc90 hl1 hS rfl ?_
      intro g1 o1 ha1
      refine L_run (R_load1 rfl scl80 (ha1 0 _ rfl)) rfl ?_
      refine L_call rfl cb94 (rapply_ok (l := apL (l.take i)) (ops := (l[i]).xs) hSj (hD.getX (i := i) (by first | assumption | omega | (simp; omega))) apL_sort (by omega)) rfl ?_
      rintro _ w2 ⟨hs1, A_1, c_1, nx1, rfl, hS_1⟩
      replace hB := gb_tr hB hs1
      replace hS := hS.gb hs1
      replace hD := hD.gb hs1
      replace hSj := hSj.gb hs1
      replace ha1 := At.gb ha1 hs1 (by simp)
      refine L_run (R_move rfl) rfl ?_
      refine L_run (R_extract rfl rfl) rfl ?_
      refine L_run (R_extract rfl rfl) rfl ?_
      refine L_run (R_assign rfl) rfl ?_
      refine L_nil (N_in (N_then (C_reg rfl ?_)))
      refine L_run (R_move rfl) rfl ?_
      refine L_run (R_add64 rfl rfl (by omega)) rfl ?_
      refine L_run (R_assign rfl) rfl ?_
      refine L_nil (N_then ?_)
      have et_ := apL_go hlt
      exact ⟨l.length - (i + 1), by omega, _, (i + 1), A_1, c_1, w2.heap.size, Ac_frg ⟨rfl, rfl, rfl, (agr rfl (by first | (rw [et_]; done) | (rw [et_]; rfl))), (agr rfl (by first | rfl | (congr 1; omega) | (congr 1; simp; done) | (congr 1; simp only [IntKind.wrap_u64, IntKind.wrap_i64, IntKind.wrap_u8]; omega) | (congr 1 <;> omega))), trivial⟩, hB, hS, hD, (by rw [et_]; exact hS_1), (by omega), rfl⟩
    · refine L_no rfl rfl rfl (decide_eq_false h1) rfl ?_
      refine L_no rfl rfl rfl (decide_eq_false h1) rfl ?_
      refine L_no rfl rfl rfl (decide_eq_false h1) rfl ?_
      refine L_run (R_pickF rfl (decide_eq_false h1) rfl) rfl ?_
      refine L_nil (N_then (C_condF rfl rfl (C_exit (X_then (X_then (X_hit (N_then (C_seq (C_reg rfl ?_)))))))))
      refine L_run (R_move rfl) rfl ?_
      refine L_run (R_assign rfl) rfl ?_
      refine L_nil (N_then (C_ret ?_))
      refine ret1 Try.results88 rfl ?_
      have et_ : l.take i = l := List.take_of_length_le (by omega)
      rw [et_] at hSj ⊢
      exact ⟨hB, _, _, rfl, hSj.top⟩

end Go.Proofs.Ytbmohojdlgedpaa
