/-
  Contracts of the package cut: a record's fragments.
-/
import Derived.Test.YtbpjdcpfphnccaaDoorTl
namespace Go.Proofs.YtbpjdcpfphnccaaDoor
open Go.RowKit Gw Pl
set_option linter.unusedVariables false
set_option linter.unusedSimpArgs false
theorem agg89 : aggB Tryd.prog 89 4 = true := by kernel_rfl
theorem cb47 : callB Tryd.prog 47 = true := by kernel_rfl
theorem slc99 : slcB Tryd.prog 99 92 3 40 = true := by kernel_rfl
theorem sz89 : szB Tryd.prog 89 4 = true := by kernel_rfl
theorem zer92 : (Tryd.prog.info? 92).bind (·.zero) = some (.agg #[.int .i64 0, .int .u32 0, .slice none 0 0]) := by kernel_rfl
/-! ### fragments as data, their bytes in rows of their own -/
structure FrD where
  k : Nat
  ep : Nat
  a : Option Addr
  c : Nat
  xs : List UInt8
def encF (f : FrD) : List Value := [.int .i64 (f.k : Int), .int .u32 (f.ep : Int), .slice f.a f.xs.length f.c]
theorem EncF : Enc encF 3 := ⟨fun _ => rfl, fun _ => rfl⟩
def DeepFr (t lo hi : Nat) (w : World) (fs : List FrD) : Prop := ∀ y ∈ fs, Sli t lo hi w y.a (fl encB y.xs)
section
variable {t lo hi : Nat} {w w' : World} {fs : List FrD}
theorem DeepFr.nil : DeepFr t lo hi w [] := fun y hy => by cases hy
theorem DeepFr.gb (h : DeepFr t lo hi w fs) (hg : w.grownBy w' none) : DeepFr t lo hi w' fs := fun y hy => (h y hy).gb hg
theorem DeepFr.other {g t' : Nat} {cs : List Value} (h : DeepFr t lo hi w fs) (hb : Blk w g t' cs) (h0 : Nat.beq t 0 = false) (hne : Nat.beq t t' = false) (hg : w.grownBy w' (some g)) : DeepFr t lo hi w' fs := fun y hy => (h y hy).other hb h0 hne hg
theorem DeepFr.otherO {base t' sz m : Nat} {v : Value} {us : List Value} (h : DeepFr t lo hi w fs) (ho : w.ownsRow base t' sz v m us) (h0 : Nat.beq t 0 = false) (hne : Nat.beq t t' = false) (hg : w.grownBy w' v.ownBlock) : DeepFr t lo hi w' fs := fun y hy => (h y hy).otherO ho h0 hne hg
theorem DeepFr.far {g : Nat} (h : DeepFr t lo hi w fs) (hg : w.grownBy w' (some g)) (hr : g < lo ∨ hi ≤ g) : DeepFr t lo hi w' fs := fun y hy => (h y hy).grown hg (by rintro _ ⟨rfl⟩; exact hr)
theorem DeepFr.farO {base t' sz m : Nat} {v : Value} {us : List Value} (h : DeepFr t lo hi w fs) (ho : w.ownsRow base t' sz v m us) (hb : hi ≤ base) (hg : w.grownBy w' v.ownBlock) : DeepFr t lo hi w' fs := fun y hy => (h y hy).grown hg (fun k hk => .inr (Nat.le_trans hb (World.ownsRow.lt ho k hk).1))
theorem DeepFr.top (h : DeepFr t lo hi w fs) : DeepFr t lo w.heap.size w fs := fun y hy => (h y hy).top
theorem DeepFr.snoc {y : FrD} {lo' hi' : Nat} (h : DeepFr t lo hi w fs) (h1 : Sli t lo' hi' w y.a (fl encB y.xs)) (hl : lo ≤ lo') : DeepFr t lo w.heap.size w (fs ++ [y]) := by
  intro z hz
  rcases List.mem_append.1 hz with hz | hz
  · exact (h z hz).top
  · rw [List.mem_singleton] at hz
    subst hz
    exact (h1.top).wide hl (Nat.le_refl _)
theorem DeepFr.get (h : DeepFr t lo hi w fs) {i : Nat} (hi' : i < fs.length) : Sli t lo hi w fs[i].a (fl encB fs[i].xs) := h _ (List.getElem_mem _)
end
def frN (ep : Nat) (d : List UInt8) (p : Nat × Nat × Nat × Nat) : Nat × Nat × List UInt8 := (p.2.1, ep, (d.drop p.2.2.1).take (p.2.2.2 - p.2.2.1))
def FrsI (ep : Nat) (d : List UInt8) (fs : List FrD) (ps : List (Nat × Nat × Nat × Nat)) : Prop := fs.map (fun f => (f.k, f.ep, f.xs)) = ps.map (frN ep d)
theorem FrsI.snoc {ep i : Nat} {d : List UInt8} {fs : List FrD} {ps : List (Nat × Nat × Nat × Nat)} {y : FrD} (h : FrsI ep d fs (ps.take i)) (hi : i < ps.length) (hy : (y.k, y.ep, y.xs) = frN ep d ps[i]) : FrsI ep d (fs ++ [y]) (ps.take (i + 1)) := by
  unfold FrsI at *
  rw [List.take_succ_eq_append_getElem hi, List.map_append, List.map_append, h, List.map_singleton, List.map_singleton, hy]
theorem FrsI.len {ep : Nat} {d : List UInt8} {fs : List FrD} {ps : List (Nat × Nat × Nat × Nat)} (h : FrsI ep d fs ps) : fs.length = ps.length := by
  have := congrArg List.length h
  simpa using this
theorem FrsI.get {ep i : Nat} {d : List UInt8} {fs : List FrD} {ps : List (Nat × Nat × Nat × Nat)} (h : FrsI ep d fs ps) (h1 : i < fs.length) (h2 : i < ps.length) : fs[i].k = ps[i].2.1 ∧ fs[i].ep = ep ∧ fs[i].xs = (d.drop ps[i].2.2.1).take (ps[i].2.2.2 - ps[i].2.2.1) := by
  have e := congrArg (fun l => l[i]?) h
  simp only [List.getElem?_map, List.getElem?_eq_getElem h1, List.getElem?_eq_getElem h2, Option.map_some, Option.some.injEq, frN, Prod.mk.injEq] at e
  exact e
theorem pad_copy {b : List UInt8} : spl (List.replicate 832 (0 : UInt8)) 0 (b.take 832) = padN b := by
  unfold spl padN padI
  have e1 : b.take 832 = b.take (min b.length 832) := by
    rcases Nat.le_total b.length 832 with h | h
    · rw [Nat.min_eq_left h, List.take_of_length_le h, List.take_of_length_le (Nat.le_refl _)]
    · rw [Nat.min_eq_right h]
  rw [List.take_zero, List.nil_append, Nat.zero_add, List.drop_replicate, List.length_take, Nat.min_comm 832, e1]
theorem frags_ok {w : World} {t1 lo hi : Nat} {A : Option Addr} {c ep a : Nat} {d : List UInt8} (hS : Sli t1 lo hi w A (fl encB d)) (hd : d.length ≤ 1000000) (hc : d.length ≤ c) (ha : a ≤ 832) :
    Runs Tryd.prog 48 #[.int .u32 (ep : Int), .int .i64 (a : Int), .slice A d.length c] w (fun v w' => w.grownBy w' none ∧ ∃ (fs : List FrD) (A' : Option Addr) (c' : Nat), v = .tuple #[.slice A' fs.length c', .bool (cutN a d.length).isSome] ∧ World.ownsRow w' w.heap.size 92 3 (.slice A' fs.length c') fs.length (fl encF fs) ∧ DeepFr 5 w.heap.size w'.heap.size w' fs ∧ FrsI ep d fs (cps (cutN a d.length))) := by
  have hB := gb_refl w none
  have hPO : POk d.length (cps (cutN a d.length)) := by
    cases hcu : cutN a d.length with
    | none => intro p hp; cases hp
    | some r_ => exact (cutN_ok ha hcu).1
  have hPL : (cps (cutN a d.length)).length ≤ 833 := by
    cases hcu : cutN a d.length with
    | none => exact Nat.zero_le _
    | some r_ => exact cutN_len hcu
  replace hS := hS.top
  refine enter Tryd.func48 Tryd.ntmps48 rfl rfl ?_
  refine C_seq (C_reg rfl ?_)
  refine L_run (R_assign rfl) rfl ?_
  refine L_run (R_assign rfl) rfl ?_
  refine L_nil (N_then (C_seq (C_reg rfl ?_)))
  refine L_run (R_move rfl) rfl ?_
  refine L_run (R_move rfl) rfl ?_
  refine L_run (R_lenSl rfl slc46) rfl ?_
  have ge1 : w.heap.size ≤ w.heap.size := hB.size
  refine L_call rfl cb47 (cut_ok (a := a) (n := d.length) ha hd) rfl ?_
  rintro _ w1 ⟨hs1, A_1, c_1, rfl, ho1⟩
  replace hB := gb_tr hB hs1
  replace hS := hS.gb hs1
  have hlo1 : w.heap.size ≤ w1.heap.size := hs1.size
  refine L_run (R_move rfl) rfl ?_
  refine L_run (R_extract rfl rfl) rfl ?_
  refine L_run (R_extract rfl rfl) rfl ?_
  refine L_run (R_extract rfl rfl) rfl ?_
  refine L_run (R_assign rfl) rfl ?_
  refine L_run (R_assign rfl) rfl ?_
  refine L_run (R_assign rfl) rfl ?_
  refine L_nil (N_then (C_seq (C_seq (C_reg rfl ?_))))
  refine L_run (R_move rfl) rfl ?_
  refine L_run (R_not rfl) rfl ?_
  refine L_nil (N_then ?_)
  refine C_cond rfl (fun h1 => ?_) (fun h1 => ?_)
  · refine C_seq (C_reg rfl ?_)
    refine L_run (R_assign rfl) rfl ?_
    refine L_run (R_assign rfl) rfl ?_
    refine L_nil (N_then (C_ret (R_then ?_)))
    refine ret2 Tryd.results48 rfl rfl ?_
    have hx_ : cutN a d.length = none := by cases hcu : cutN a d.length with
      | none => rfl
      | some r_ => simp_all
    exact ⟨hB, [], none, 0, by rw [hx_]; rfl, own_nil _ _ _ _, DeepFr.nil, by rw [hx_]; rfl⟩
  · refine C_skip (N_then (C_seq (C_reg rfl ?_)))
    refine L_run (R_assign rfl) rfl ?_
    refine L_nil (N_then (C_seq (C_seq (C_reg rfl ?_))))
    refine L_run (R_move rfl) rfl ?_
    refine L_run (R_lenSl rfl slc84) rfl ?_
    refine L_run (R_move rfl) rfl ?_
    refine L_nil (N_then (C_block ?_))
    refine C_loop (fun m_ a_ w_ => ∃ (σ_ : Nat → Value) (fs : List FrD) (Aj : Option Addr) (cj : Nat) (i : Nat), a_ = Ac 47 σ_ [] [(0, .int .u32 (ep : Int)), (1, .int .i64 (a : Int)), (2, .slice A d.length c), (6, .slice none 0 0), (7, .bool false), (11, .slice Aj fs.length cj), (24, .slice A_1 ((cps (cutN a d.length)).length) c_1), (25, .int .i64 ((cps (cutN a d.length)).length : Int)), (26, .int .i64 (i : Int))] ∧ w.grownBy w_ none ∧ Sli t1 lo w.heap.size w_ A (fl encB d) ∧ World.ownsRow w_ w.heap.size 89 4 (.slice A_1 (cps (cutN a d.length)).length c_1) (cps (cutN a d.length)).length (fl encP (cps (cutN a d.length))) ∧ World.ownsRow w_ w.heap.size 92 3 (.slice Aj fs.length cj) fs.length (fl encF fs) ∧ DeepFr 5 w.heap.size w_.heap.size w_ fs ∧ (i ≤ (cps (cutN a d.length)).length) ∧ (FrsI ep d fs ((cps (cutN a d.length)).take i)) ∧ (fs.length = i) ∧ (cps (cutN a d.length)).length - i = m_) ((cps (cutN a d.length)).length - 0) ?_ ?_
    · exact ⟨_, [], none, 0, 0, Ac_frg ⟨rfl, rfl, rfl, rfl, rfl, (agr rfl (by first | rfl | (congr 1; omega) | (congr 1; simp; done) | (congr 1; simp only [IntKind.wrap_u64, IntKind.wrap_i64, IntKind.wrap_u8]; omega) | (congr 1 <;> omega))), rfl, rfl, (agr rfl (by first | rfl | (congr 1; omega) | (congr 1; simp; done) | (congr 1; simp only [IntKind.wrap_u64, IntKind.wrap_i64, IntKind.wrap_u8]; omega) | (congr 1 <;> omega))), trivial⟩, hB, hS, ho1, (own_nil _ _ _ _), DeepFr.nil, (by omega), rfl, rfl, rfl⟩
    · clear hB
      clear hS ho1 hlo1
      rintro m_ a_ w2 ⟨σ_, fs, Aj, cj, i, rfl, hB, hS, ho1, hoF, hDF, hi, hFr, hfl, rfl⟩
      have hlt_ : w2.heap.size ≤ w2.heap.size := Nat.le_refl _
      refine C_seq (C_reg rfl ?_)
      refine L_run (R_lss rfl rfl) rfl ?_
      refine L_nil (N_then (C_seq ?_))
      refine C_if rfl (fun h2 => ?_) (fun h2 => ?_)
      · refine C_skip (N_then (C_seq (C_block (C_seq (C_reg rfl ?_)))))
        have hl1 : i < (cps (cutN a d.length)).length := by first | omega | (simp; omega)
        refine T_index (xs := cps (cutN a d.length)) (i := i) EncP rfl rfl (by first | rfl | omega) slc84 hl1 (own_of ho1).2.2 rfl ?_
        intro g1 o1 ha1
        refine L_run (R_loadA (vs := [.int .i64 ((((cps (cutN a d.length))[i]).1 : Nat) : Int), .int .i64 ((((cps (cutN a d.length))[i]).2.1 : Nat) : Int), .int .i64 ((((cps (cutN a d.length))[i]).2.2.1 : Nat) : Int), .int .i64 ((((cps (cutN a d.length))[i]).2.2.2 : Nat) : Int)]) rfl agg89 (At.pre ha1 rfl) rfl) rfl ?_
        refine L_alloc (cs := [.int .i64 0, .int .i64 0, .int .i64 0, .int .i64 0]) zer89 rfl rfl ?_
        intro g2 w3 eg1 hb1 hs2 hz1
        have ge2 : w.heap.size ≤ g2 := eg_ge hB eg1
        have hap1 : ∀ k_, (Value.slice A_1 (cps (cutN a d.length)).length c_1).ownBlock = some k_ → k_ ≠ g2 := fun k_ hk => by have h_ := (World.ownsRow.lt ho1 k_ hk).2; omega
        replace hB := gb_tr hB hs2
        replace hS := hS.gb hs2
        replace ho1 := own_gb ho1 hs2
        replace hoF := own_gb hoF hs2
        replace hlt_ := Nat.le_trans hlt_ hs2.size
        replace hDF := hDF.gb hs2
        replace ha1 := At.gb ha1 hs2 (by simp)
        refine L_stA (vs := [.int .i64 ((((cps (cutN a d.length))[i]).1 : Nat) : Int), .int .i64 ((((cps (cutN a d.length))[i]).2.1 : Nat) : Int), .int .i64 ((((cps (cutN a d.length))[i]).2.2.1 : Nat) : Int), .int .i64 ((((cps (cutN a d.length))[i]).2.2.2 : Nat) : Int)]) rfl rfl rfl sz89 rfl hb1 rfl ?_
        intro w4 hb2 hs3 hz2
        replace hB := gb_trg hB hs3 ge2
        replace hS := hS.old hs3 ge2
        replace ho1 := ho1.kept hs3 (.inr (fun e_ => hap1 _ e_ rfl))
        replace hoF := own_other hoF hb1 rfl hs3
        replace hlt_ := Nat.le_trans hlt_ hs3.size
        replace hDF := hDF.other hb1 rfl rfl hs3
        refine L_nil (N_then ?_)
        refine C_join (fun a_ w_ => (∃ (σ_ : Nat → Value) (A_4 : Option Addr) (A_3 : Option Addr) (c_2 : Nat) (c_3 : Nat), a_ = Ac 47 σ_ [] [(0, .int .u32 (ep : Int)), (1, .int .i64 (a : Int)), (2, .slice A d.length c), (6, .slice none 0 0), (7, .bool false), (11, .slice A_4 ((fs ++ ([(⟨(((cps (cutN a d.length))[i]).2.1), ep, A_3, c_2, ((d.drop (((cps (cutN a d.length))[i]).2.2.1)).take ((((cps (cutN a d.length))[i]).2.2.2) - (((cps (cutN a d.length))[i]).2.2.1)))⟩ : FrD)])).length) c_3), (13, .pointer (some ⟨g2, 0, none⟩)), (24, .slice A_1 ((cps (cutN a d.length)).length) c_1), (25, .int .i64 ((cps (cutN a d.length)).length : Int)), (26, .int .i64 (i : Int)), (27, .bool (decide ((i : Int) < ((cps (cutN a d.length)).length : Int)))), (28, .pointer (some ⟨g1, o1, none⟩)), (29, .agg #[.int .i64 ((((cps (cutN a d.length))[i]).1 : Nat) : Int), .int .i64 ((((cps (cutN a d.length))[i]).2.1 : Nat) : Int), .int .i64 ((((cps (cutN a d.length))[i]).2.2.1 : Nat) : Int), .int .i64 ((((cps (cutN a d.length))[i]).2.2.2 : Nat) : Int)])] ∧ w.grownBy w_ none ∧ Sli t1 lo w.heap.size w_ A (fl encB d) ∧ World.ownsRow w_ w.heap.size 89 4 (.slice A_1 (cps (cutN a d.length)).length c_1) (cps (cutN a d.length)).length (fl encP (cps (cutN a d.length))) ∧ DeepFr 5 w.heap.size w2.heap.size w_ fs ∧ Blk w_ g2 89 [.int .i64 ((((cps (cutN a d.length))[i]).1 : Nat) : Int), .int .i64 ((((cps (cutN a d.length))[i]).2.1 : Nat) : Int), .int .i64 ((((cps (cutN a d.length))[i]).2.2.1 : Nat) : Int), .int .i64 ((((cps (cutN a d.length))[i]).2.2.2 : Nat) : Int)] ∧ World.ownsRow w_ w.heap.size 5 1 (.slice A_3 ((d.drop (((cps (cutN a d.length))[i]).2.2.1)).take ((((cps (cutN a d.length))[i]).2.2.2) - (((cps (cutN a d.length))[i]).2.2.1))).length c_2) ((d.drop (((cps (cutN a d.length))[i]).2.2.1)).take ((((cps (cutN a d.length))[i]).2.2.2) - (((cps (cutN a d.length))[i]).2.2.1))).length (fl encB ((d.drop (((cps (cutN a d.length))[i]).2.2.1)).take ((((cps (cutN a d.length))[i]).2.2.2) - (((cps (cutN a d.length))[i]).2.2.1)))) ∧ World.ownsRow w_ w.heap.size 92 3 (.slice A_4 (fs ++ ([(⟨(((cps (cutN a d.length))[i]).2.1), ep, A_3, c_2, ((d.drop (((cps (cutN a d.length))[i]).2.2.1)).take ((((cps (cutN a d.length))[i]).2.2.2) - (((cps (cutN a d.length))[i]).2.2.1)))⟩ : FrD)])).length c_3) (fs ++ ([(⟨(((cps (cutN a d.length))[i]).2.1), ep, A_3, c_2, ((d.drop (((cps (cutN a d.length))[i]).2.2.1)).take ((((cps (cutN a d.length))[i]).2.2.2) - (((cps (cutN a d.length))[i]).2.2.1)))⟩ : FrD)])).length (fl encF (fs ++ ([(⟨(((cps (cutN a d.length))[i]).2.1), ep, A_3, c_2, ((d.drop (((cps (cutN a d.length))[i]).2.2.1)).take ((((cps (cutN a d.length))[i]).2.2.2) - (((cps (cutN a d.length))[i]).2.2.1)))⟩ : FrD)]))) ∧ (∀ k_, (Value.slice A_1 (cps (cutN a d.length)).length c_1).ownBlock = some k_ → k_ ≠ g2))) ?_ ?_
        · refine C_draw2 rfl mix ?_
          intro w5 hs4 hz3
          replace hB := gb_tr hB hs4
          replace hS := hS.gb hs4
          replace ho1 := own_gb ho1 hs4
          replace hoF := own_gb hoF hs4
          replace hlt_ := Nat.le_trans hlt_ hs4.size
          replace hDF := hDF.gb hs4
          replace hb2 := hb2.gb hs4
          refine ⟨fun W_ => Blk W_ g2 89 [.int .i64 ((((cps (cutN a d.length))[i]).1 : Nat) : Int), .int .i64 ((((cps (cutN a d.length))[i]).2.1 : Nat) : Int), .int .i64 ((((cps (cutN a d.length))[i]).2.2.1 : Nat) : Int), .int .i64 ((((cps (cutN a d.length))[i]).2.2.2 : Nat) : Int)] ∧ True, [0, 1, 2, 3, 5, 6, 7, 8, 9, 12, 15], ?_⟩
          refine T_takeA (i := 0) rfl rfl (by kernel_rfl) (by kernel_rfl) (by kernel_rfl) (Y_of (fun _ ⟨hb2, _⟩ => R_move rfl)) ⟨hb2, trivial⟩ rfl ?_
          refine T_takeA (i := 1) rfl rfl (by kernel_rfl) (by kernel_rfl) (by kernel_rfl) (Y_of (fun _ ⟨hb2, _⟩ => R_field (r := 1) rfl fld89_1 rfl)) ⟨hb2, trivial⟩ rfl ?_
          refine T_takeA (i := 2) rfl rfl (by kernel_rfl) (by kernel_rfl) (by kernel_rfl) (Y_of (fun _ ⟨hb2, _⟩ => R_load1 rfl scl3 (hb2.cell (i := 1) rfl))) ⟨hb2, trivial⟩ rfl ?_
          refine T_takeA (i := 3) rfl rfl (by kernel_rfl) (by kernel_rfl) (by kernel_rfl) (Y_of (fun _ ⟨hb2, _⟩ => R_move rfl)) ⟨hb2, trivial⟩ rfl ?_
          refine T_takeA (i := 5) rfl rfl (by kernel_rfl) (by kernel_rfl) (by kernel_rfl) (Y_of (fun _ ⟨hb2, _⟩ => R_move rfl)) ⟨hb2, trivial⟩ rfl ?_
          refine T_takeA (i := 6) rfl rfl (by kernel_rfl) (by kernel_rfl) (by kernel_rfl) (Y_of (fun _ ⟨hb2, _⟩ => R_field (r := 2) rfl fld89_2 rfl)) ⟨hb2, trivial⟩ rfl ?_
          refine T_takeA (i := 7) rfl rfl (by kernel_rfl) (by kernel_rfl) (by kernel_rfl) (Y_of (fun _ ⟨hb2, _⟩ => R_load1 rfl scl3 (hb2.cell (i := 2) rfl))) ⟨hb2, trivial⟩ rfl ?_
          refine T_takeA (i := 8) rfl rfl (by kernel_rfl) (by kernel_rfl) (by kernel_rfl) (Y_of (fun _ ⟨hb2, _⟩ => R_field (r := 3) rfl fld89_3 rfl)) ⟨hb2, trivial⟩ rfl ?_
          refine T_takeA (i := 9) rfl rfl (by kernel_rfl) (by kernel_rfl) (by kernel_rfl) (Y_of (fun _ ⟨hb2, _⟩ => R_load1 rfl scl3 (hb2.cell (i := 3) rfl))) ⟨hb2, trivial⟩ rfl ?_
          refine T_all (rs := [4, 10]) (by kernel_rfl) rfl (all2 (O_one rfl ?_) (O_one rfl ?_))
          · refine L_buildSlice (pv := []) (cs := []) slc46 zer5 rfl rfl (by kernel_rfl) rfl ?_
            intro g3 w6 eg2 hb3 hs5 hz4
            have ge3 : w.heap.size ≤ g3 := eg_ge hB eg2
            have lt1 : g2 < g3 := lt_of_eg hb2.lt eg2
            replace hB := gb_tr hB hs5
            replace hS := hS.gb hs5
            replace ho1 := own_gb ho1 hs5
            replace hoF := own_gb hoF hs5
            replace hlt_ := Nat.le_trans hlt_ hs5.size
            replace hDF := hDF.gb hs5
            replace hb2 := hb2.gb hs5
            refine L_nil (N_then ⟨fun hN_ => ⟨hb2, trivial⟩, ?_⟩)
            refine T_all (rs := [10]) (by kernel_rfl) rfl (all1 (O_one rfl ?_))
            refine T_slLH (xs := d) (i := (((cps (cutN a d.length))[i]).2.2.1)) (j := (((cps (cutN a d.length))[i]).2.2.2)) EncB rfl rfl rfl (by first | rfl | omega) (by first | rfl | omega) slc46 (by have h_ := hPO.get (show i < (cps (cutN a d.length)).length by omega); omega) (by have h_ := hPO.get (show i < (cps (cutN a d.length)).length by omega); omega) (by first | omega | (simp; done) | (simp; omega)) hS rfl ?_
            intro A_2 hS_1
            refine L_nil (N_then ⟨fun hN_ => ⟨hb2, trivial⟩, ?_⟩)
            refine T_all (rs := [11]) (by kernel_rfl) rfl (all1 (O_one rfl ?_))
            have hlo2 : g3 ≤ w6.heap.size := Nat.le_of_lt hb3.lt
            have ho2 : World.ownsRow w6 g3 5 1 (.slice (some ⟨g3, 0, none⟩) ([] : List UInt8).length 0) ([] : List UInt8).length (fl encB []) := Blk.own (sz := 1) (m := 0) hb3 (by decide) rfl (Nat.le_refl _)
            refine T_append (xs := []) (ys := (d.drop (((cps (cutN a d.length))[i]).2.2.1)).take ((((cps (cutN a d.length))[i]).2.2.2) - (((cps (cutN a d.length))[i]).2.2.1))) EncB slc46 rfl rfl ho2 hS_1 (by have h_ := hPO.get (show i < (cps (cutN a d.length)).length by omega); simp only [List.length_take, List.length_drop, List.length_append, List.length_nil]; omega) hlo2 rfl ?_
            intro A_3 c_2 w7 ho3 hs6 hat1
            replace hB := gb_tro hB ho2 hs6 ge3
            replace hS := hS.grown hs6 (fun k hk => .inr (Nat.le_trans ge3 (World.ownsRow.lt ho2 k hk).1))
            replace ho1 := ho1.kept hs6 (own_type_ne' ho1 ho2 rfl)
            replace hoF := hoF.kept hs6 (own_type_ne' hoF ho2 rfl)
            replace hlt_ := Nat.le_trans hlt_ hs6.size
            replace hDF := hDF.farO ho2 (by omega) hs6
            replace hb2 := blk_own hb2 ho2 rfl hs6
            replace hS_1 := hS_1.grown hs6 (fun k hk => .inr (Nat.le_trans ge3 (World.ownsRow.lt ho2 k hk).1))
            replace hlo2 := Nat.le_trans hlo2 hs6.size
            simp only [List.nil_append] at ho3 ⊢
            refine L_nil (N_then ⟨fun hN_ => ⟨hb2, trivial⟩, ?_⟩)
            refine T_takeA (i := 12) rfl rfl (by kernel_rfl) (by kernel_rfl) (by kernel_rfl) (Y_of (fun _ ⟨hb2, _⟩ => R_build (pv := [(0, .int .i64 ((((cps (cutN a d.length))[i]).2.1 : Nat) : Int)), (1, .int .u32 (ep : Int)), (2, .slice A_3 (((d.drop (((cps (cutN a d.length))[i]).2.2.1)).take ((((cps (cutN a d.length))[i]).2.2.2) - (((cps (cutN a d.length))[i]).2.2.1))).length) c_2)]) (cs := [.int .i64 ((((cps (cutN a d.length))[i]).2.1 : Nat) : Int), .int .u32 (ep : Int), .slice A_3 (((d.drop (((cps (cutN a d.length))[i]).2.2.1)).take ((((cps (cutN a d.length))[i]).2.2.2) - (((cps (cutN a d.length))[i]).2.2.1))).length) c_2]) rfl (by kernel_rfl))) ⟨hb2, trivial⟩ rfl ?_
            refine T_all (rs := [13]) (by kernel_rfl) rfl (all1 (O_one rfl ?_))
            refine L_buildSlice (pv := [(0, .agg #[.int .i64 ((((cps (cutN a d.length))[i]).2.1 : Nat) : Int), .int .u32 (ep : Int), .slice A_3 (((d.drop (((cps (cutN a d.length))[i]).2.2.1)).take ((((cps (cutN a d.length))[i]).2.2.2) - (((cps (cutN a d.length))[i]).2.2.1))).length) c_2])]) (cs := [.int .i64 ((((cps (cutN a d.length))[i]).2.1 : Nat) : Int), .int .u32 (ep : Int), .slice A_3 (((d.drop (((cps (cutN a d.length))[i]).2.2.1)).take ((((cps (cutN a d.length))[i]).2.2.2) - (((cps (cutN a d.length))[i]).2.2.1))).length) c_2]) slc99 zer92 rfl rfl (by kernel_rfl) rfl ?_
            intro g4 w8 eg3 hb4 hs7 hz5
            have ge4 : w.heap.size ≤ g4 := eg_ge hB eg3
            have lt2 : g2 < g4 := lt_of_eg hb2.lt eg3
            have hap2 : ∀ k_, (Value.slice Aj fs.length cj).ownBlock = some k_ → k_ ≠ g4 := fun k_ hk => by have h_ := (World.ownsRow.lt hoF k_ hk).2; omega
            replace hB := gb_tr hB hs7
            replace hS := hS.gb hs7
            replace ho1 := own_gb ho1 hs7
            replace hoF := own_gb hoF hs7
            replace hlt_ := Nat.le_trans hlt_ hs7.size
            replace hDF := hDF.gb hs7
            replace hb2 := hb2.gb hs7
            replace hS_1 := hS_1.gb hs7
            replace hlo2 := Nat.le_trans hlo2 hs7.size
            replace ho3 := own_gb ho3 hs7
            refine L_nil (N_then ⟨fun hN_ => ⟨hb2, trivial⟩, ?_⟩)
            refine T_all (rs := [14]) (by kernel_rfl) rfl (all1 (O_one rfl ?_))
            refine T_append (xs := fs) (ys := [(⟨(((cps (cutN a d.length))[i]).2.1), ep, A_3, c_2, ((d.drop (((cps (cutN a d.length))[i]).2.2.1)).take ((((cps (cutN a d.length))[i]).2.2.2) - (((cps (cutN a d.length))[i]).2.2.1)))⟩ : FrD)]) EncF slc99 rfl rfl hoF (Blk.sli (m := 0) hb4) (by simp only [List.length_append, List.length_cons, List.length_nil]; omega) (by have := hB.size; omega) rfl ?_
            intro A_4 c_3 w9 ho4 hs8 hat2
            replace hB := gb_tro hB hoF hs8 (Nat.le_refl _)
            replace hS := hS.grown hs8 (fun k hk => .inr (Nat.le_trans (Nat.le_refl _) (World.ownsRow.lt hoF k hk).1))
            replace ho1 := ho1.kept hs8 (own_type_ne' ho1 hoF rfl)
            replace hlt_ := Nat.le_trans hlt_ hs8.size
            replace hDF := hDF.otherO hoF rfl rfl hs8
            replace hb2 := blk_own hb2 hoF rfl hs8
            replace hS_1 := hS_1.grown hs8 (fun k hk => .inr (Nat.le_trans (Nat.le_refl _) (World.ownsRow.lt hoF k hk).1))
            replace hlo2 := Nat.le_trans hlo2 hs8.size
            replace ho3 := ho3.kept hs8 (own_type_ne' ho3 hoF rfl)
            refine L_nil (N_then ⟨fun hN_ => ⟨hb2, trivial⟩, ?_⟩)
            refine T_takeA (i := 15) rfl rfl (by kernel_rfl) (by kernel_rfl) (by kernel_rfl) (Y_of (fun _ ⟨hb2, _⟩ => R_assign rfl)) ⟨hb2, trivial⟩ rfl ?_
            refine T_done (by kernel_rfl) (CalmE.normal ?_)
            exact ⟨rfl, ⟨_, A_4, A_3, c_2, c_3, Ac_frg ⟨rfl, rfl, rfl, rfl, rfl, rfl, rfl, rfl, rfl, rfl, rfl, rfl, rfl, trivial⟩, hB, hS, ho1, hDF, hb2, (own_lo ho3 ge3), ho4, hap1⟩⟩
          · refine T_slLH (xs := d) (i := (((cps (cutN a d.length))[i]).2.2.1)) (j := (((cps (cutN a d.length))[i]).2.2.2)) EncB rfl rfl rfl (by first | rfl | omega) (by first | rfl | omega) slc46 (by have h_ := hPO.get (show i < (cps (cutN a d.length)).length by omega); omega) (by have h_ := hPO.get (show i < (cps (cutN a d.length)).length by omega); omega) (by first | omega | (simp; done) | (simp; omega)) hS rfl ?_
            intro A_5 hS_2
            refine L_nil (N_then ⟨fun hN_ => ⟨hb2, trivial⟩, ?_⟩)
            refine T_all (rs := [4]) (by kernel_rfl) rfl (all1 (O_one rfl ?_))
            refine L_buildSlice (pv := []) (cs := []) slc46 zer5 rfl rfl (by kernel_rfl) rfl ?_
            intro g5 w10 eg4 hb5 hs9 hz6
            have ge5 : w.heap.size ≤ g5 := eg_ge hB eg4
            have lt3 : g2 < g5 := lt_of_eg hb2.lt eg4
            replace hB := gb_tr hB hs9
            replace hS := hS.gb hs9
            replace ho1 := own_gb ho1 hs9
            replace hoF := own_gb hoF hs9
            replace hlt_ := Nat.le_trans hlt_ hs9.size
            replace hDF := hDF.gb hs9
            replace hb2 := hb2.gb hs9
            replace hS_2 := hS_2.gb hs9
            refine L_nil (N_then ⟨fun hN_ => ⟨hb2, trivial⟩, ?_⟩)
            refine T_all (rs := [11]) (by kernel_rfl) rfl (all1 (O_one rfl ?_))
            have hlo3 : g5 ≤ w10.heap.size := Nat.le_of_lt hb5.lt
            have ho5 : World.ownsRow w10 g5 5 1 (.slice (some ⟨g5, 0, none⟩) ([] : List UInt8).length 0) ([] : List UInt8).length (fl encB []) := Blk.own (sz := 1) (m := 0) hb5 (by decide) rfl (Nat.le_refl _)
            refine T_append (xs := []) (ys := (d.drop (((cps (cutN a d.length))[i]).2.2.1)).take ((((cps (cutN a d.length))[i]).2.2.2) - (((cps (cutN a d.length))[i]).2.2.1))) EncB slc46 rfl rfl ho5 hS_2 (by have h_ := hPO.get (show i < (cps (cutN a d.length)).length by omega); simp only [List.length_take, List.length_drop, List.length_append, List.length_nil]; omega) hlo3 rfl ?_
            intro A_6 c_4 w11 ho6 hs10 hat3
            replace hB := gb_tro hB ho5 hs10 ge5
            replace hS := hS.grown hs10 (fun k hk => .inr (Nat.le_trans ge5 (World.ownsRow.lt ho5 k hk).1))
            replace ho1 := ho1.kept hs10 (own_type_ne' ho1 ho5 rfl)
            replace hoF := hoF.kept hs10 (own_type_ne' hoF ho5 rfl)
            replace hlt_ := Nat.le_trans hlt_ hs10.size
            replace hDF := hDF.farO ho5 (by omega) hs10
            replace hb2 := blk_own hb2 ho5 rfl hs10
            replace hS_2 := hS_2.grown hs10 (fun k hk => .inr (Nat.le_trans ge5 (World.ownsRow.lt ho5 k hk).1))
            replace hlo3 := Nat.le_trans hlo3 hs10.size
            simp only [List.nil_append] at ho6 ⊢
            refine L_nil (N_then ⟨fun hN_ => ⟨hb2, trivial⟩, ?_⟩)
            refine T_takeA (i := 12) rfl rfl (by kernel_rfl) (by kernel_rfl) (by kernel_rfl) (Y_of (fun _ ⟨hb2, _⟩ => R_build (pv := [(0, .int .i64 ((((cps (cutN a d.length))[i]).2.1 : Nat) : Int)), (1, .int .u32 (ep : Int)), (2, .slice A_6 (((d.drop (((cps (cutN a d.length))[i]).2.2.1)).take ((((cps (cutN a d.length))[i]).2.2.2) - (((cps (cutN a d.length))[i]).2.2.1))).length) c_4)]) (cs := [.int .i64 ((((cps (cutN a d.length))[i]).2.1 : Nat) : Int), .int .u32 (ep : Int), .slice A_6 (((d.drop (((cps (cutN a d.length))[i]).2.2.1)).take ((((cps (cutN a d.length))[i]).2.2.2) - (((cps (cutN a d.length))[i]).2.2.1))).length) c_4]) rfl (by kernel_rfl))) ⟨hb2, trivial⟩ rfl ?_
            refine T_all (rs := [13]) (by kernel_rfl) rfl (all1 (O_one rfl ?_))
            refine L_buildSlice (pv := [(0, .agg #[.int .i64 ((((cps (cutN a d.length))[i]).2.1 : Nat) : Int), .int .u32 (ep : Int), .slice A_6 (((d.drop (((cps (cutN a d.length))[i]).2.2.1)).take ((((cps (cutN a d.length))[i]).2.2.2) - (((cps (cutN a d.length))[i]).2.2.1))).length) c_4])]) (cs := [.int .i64 ((((cps (cutN a d.length))[i]).2.1 : Nat) : Int), .int .u32 (ep : Int), .slice A_6 (((d.drop (((cps (cutN a d.length))[i]).2.2.1)).take ((((cps (cutN a d.length))[i]).2.2.2) - (((cps (cutN a d.length))[i]).2.2.1))).length) c_4]) slc99 zer92 rfl rfl (by kernel_rfl) rfl ?_
            intro g6 w12 eg5 hb6 hs11 hz7
            have ge6 : w.heap.size ≤ g6 := eg_ge hB eg5
            have lt4 : g2 < g6 := lt_of_eg hb2.lt eg5
            have hap3 : ∀ k_, (Value.slice Aj fs.length cj).ownBlock = some k_ → k_ ≠ g6 := fun k_ hk => by have h_ := (World.ownsRow.lt hoF k_ hk).2; omega
            replace hB := gb_tr hB hs11
            replace hS := hS.gb hs11
            replace ho1 := own_gb ho1 hs11
            replace hoF := own_gb hoF hs11
            replace hlt_ := Nat.le_trans hlt_ hs11.size
            replace hDF := hDF.gb hs11
            replace hb2 := hb2.gb hs11
            replace hS_2 := hS_2.gb hs11
            replace hlo3 := Nat.le_trans hlo3 hs11.size
            replace ho6 := own_gb ho6 hs11
            refine L_nil (N_then ⟨fun hN_ => ⟨hb2, trivial⟩, ?_⟩)
            refine T_all (rs := [14]) (by kernel_rfl) rfl (all1 (O_one rfl ?_))
            refine T_append (xs := fs) (ys := [(⟨(((cps (cutN a d.length))[i]).2.1), ep, A_6, c_4, ((d.drop (((cps (cutN a d.length))[i]).2.2.1)).take ((((cps (cutN a d.length))[i]).2.2.2) - (((cps (cutN a d.length))[i]).2.2.1)))⟩ : FrD)]) EncF slc99 rfl rfl hoF (Blk.sli (m := 0) hb6) (by simp only [List.length_append, List.length_cons, List.length_nil]; omega) (by have := hB.size; omega) rfl ?_
            intro A_7 c_5 w13 ho7 hs12 hat4
            replace hB := gb_tro hB hoF hs12 (Nat.le_refl _)
            replace hS := hS.grown hs12 (fun k hk => .inr (Nat.le_trans (Nat.le_refl _) (World.ownsRow.lt hoF k hk).1))
            replace ho1 := ho1.kept hs12 (own_type_ne' ho1 hoF rfl)
            replace hlt_ := Nat.le_trans hlt_ hs12.size
            replace hDF := hDF.otherO hoF rfl rfl hs12
            replace hb2 := blk_own hb2 hoF rfl hs12
            replace hS_2 := hS_2.grown hs12 (fun k hk => .inr (Nat.le_trans (Nat.le_refl _) (World.ownsRow.lt hoF k hk).1))
            replace hlo3 := Nat.le_trans hlo3 hs12.size
            replace ho6 := ho6.kept hs12 (own_type_ne' ho6 hoF rfl)
            refine L_nil (N_then ⟨fun hN_ => ⟨hb2, trivial⟩, ?_⟩)
            refine T_takeA (i := 15) rfl rfl (by kernel_rfl) (by kernel_rfl) (by kernel_rfl) (Y_of (fun _ ⟨hb2, _⟩ => R_assign rfl)) ⟨hb2, trivial⟩ rfl ?_
            refine T_done (by kernel_rfl) (CalmE.normal ?_)
            exact ⟨rfl, ⟨_, A_7, A_6, c_4, c_5, Ac_frg ⟨rfl, rfl, rfl, rfl, rfl, rfl, rfl, rfl, rfl, rfl, rfl, rfl, rfl, trivial⟩, hB, hS, ho1, hDF, hb2, (own_lo ho6 ge5), ho7, hap1⟩⟩
        · clear hB
          clear hS ho1 hoF hlt_ hDF hb2
          rintro a_ w14 ⟨σ_, A_4, A_3, c_2, c_3, rfl, hB, hS, ho1, hDF, hb2, hj1, hj2, ap1⟩
          refine N_in (N_then (C_reg rfl ?_))
          refine L_run (R_add64 rfl rfl (by omega)) rfl ?_
          refine L_run (R_move rfl) rfl ?_
          refine L_nil (N_then ?_)
          exact ⟨(cps (cutN a d.length)).length - (i + 1), by omega, _, fs ++ ([(⟨(((cps (cutN a d.length))[i]).2.1), ep, A_3, c_2, ((d.drop (((cps (cutN a d.length))[i]).2.2.1)).take ((((cps (cutN a d.length))[i]).2.2.2) - (((cps (cutN a d.length))[i]).2.2.1)))⟩ : FrD)]), A_4, c_3, (i + 1), Ac_frg ⟨rfl, rfl, rfl, rfl, rfl, rfl, rfl, rfl, (agr rfl (by first | rfl | (congr 1; omega) | (congr 1; simp; done) | (congr 1; simp only [IntKind.wrap_u64, IntKind.wrap_i64, IntKind.wrap_u8]; omega) | (congr 1 <;> omega))), trivial⟩, hB, hS, ho1, (own_lo hj2 (Nat.le_refl _)), (hDF.snoc (own_of hj1).2.2 (Nat.le_refl _)), (by omega), (hFr.snoc (by omega) rfl), (by simp only [List.length_append, List.length_cons, List.length_nil]; omega), rfl⟩
      · refine C_exit (X_then (X_then (X_hit (N_then (C_seq (C_reg rfl ?_))))))
        refine L_run (R_move rfl) rfl ?_
        refine L_run (R_assign rfl) rfl ?_
        refine L_run (R_assign rfl) rfl ?_
        refine L_nil (N_then (C_ret ?_))
        refine ret2 Tryd.results48 rfl rfl ?_
        have hsm_ : (cutN a d.length).isSome = true := by simp_all
        exact ⟨hB, fs, _, _, by rw [hsm_], (own_lo hoF (Nat.le_refl _)), hDF.top, by have h_ := hFr; rw [List.take_of_length_le (by omega)] at h_; exact h_⟩

end Go.Proofs.YtbpjdcpfphnccaaDoor
