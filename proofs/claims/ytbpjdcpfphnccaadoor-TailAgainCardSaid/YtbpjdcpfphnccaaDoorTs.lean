/-
  Records with their data; the same records, the same sectors.
-/
import Derived.Test.YtbpjdcpfphnccaaDoorTr
namespace Go.Proofs.YtbpjdcpfphnccaaDoor
open Go.RowKit Gw Pl
set_option linter.unusedVariables false
set_option linter.unusedSimpArgs false
theorem cb32 : callB Tryd.prog 32 = true := by kernel_rfl
theorem eqg62 : Tryd.prog.eqGuardType Tryd.prog.depth 62 = false := by kernel_rfl
theorem str9 : strB Tryd.prog 9 = true := by kernel_rfl
/-! ### records with their data -/
structure RecX where
  kind : Int
  chain : Int
  lsn : Int
  prev : Int
  a : Option Addr
  c : Nat
  xs : List UInt8
def encRX (r : RecX) : List Value := [.int .i64 r.kind, .int .i64 r.chain, .int .i64 r.lsn, .int .i64 r.prev, .slice r.a r.xs.length r.c]
theorem EncRX : Enc encRX 5 := ⟨fun _ => rfl, fun _ => rfl⟩
def RecX.toD (r : RecX) : RecD := ⟨r.kind, r.chain, r.lsn, r.prev, r.a, r.xs.length, r.c⟩
theorem fl_toD (rs : List RecX) : fl encR (rs.map RecX.toD) = fl encRX rs := by
  induction rs with
  | nil => rfl
  | cons r rs ih => rw [List.map_cons, fl_cons, fl_cons, ih]; rfl
def RecX.bare (r : RecX) : Int × Int × Int × Int × List UInt8 := (r.kind, r.chain, r.lsn, r.prev, r.xs)
/-- The same records, wherever their data lies. -/
def RsEq (rs1 rs2 : List RecX) : Prop := rs1.map RecX.bare = rs2.map RecX.bare
theorem RsEq.rfl' {rs : List RecX} : RsEq rs rs := rfl
theorem RsEq.len {rs1 rs2 : List RecX} (h : RsEq rs1 rs2) : rs1.length = rs2.length := by
  have := congrArg List.length h
  simpa using this
theorem RsEq.get {rs1 rs2 : List RecX} {i : Nat} (h : RsEq rs1 rs2) (h1 : i < rs1.length) (h2 : i < rs2.length) : rs1[i].kind = rs2[i].kind ∧ rs1[i].chain = rs2[i].chain ∧ rs1[i].lsn = rs2[i].lsn ∧ rs1[i].prev = rs2[i].prev ∧ rs1[i].xs = rs2[i].xs := by
  have e := congrArg (fun l => l[i]?) h
  simpa [List.getElem?_map, List.getElem?_eq_getElem h1, List.getElem?_eq_getElem h2, RecX.bare] using e
theorem RsEq.snoc {rs1 rs2 : List RecX} {i : Nat} {y : RecX} (h : RsEq rs1 (rs2.take i)) (hi : i < rs2.length) (hy : y.bare = rs2[i].bare) : RsEq (rs1 ++ [y]) (rs2.take (i + 1)) := by
  unfold RsEq at *
  rw [List.take_succ_eq_append_getElem hi, List.map_append, List.map_append, h, List.map_singleton, List.map_singleton, hy]
def DeepX (t lo hi : Nat) (w : World) (rs : List RecX) : Prop := ∀ y ∈ rs, Sli t lo hi w y.a (fl encB y.xs)
section
variable {t lo hi : Nat} {w w' : World} {rs : List RecX}
theorem DeepX.nil : DeepX t lo hi w [] := fun y hy => by cases hy
theorem DeepX.gb (h : DeepX t lo hi w rs) (hg : w.grownBy w' none) : DeepX t lo hi w' rs := fun y hy => (h y hy).gb hg
theorem DeepX.other {g t' : Nat} {cs : List Value} (h : DeepX t lo hi w rs) (hb : Blk w g t' cs) (h0 : Nat.beq t 0 = false) (hne : Nat.beq t t' = false) (hg : w.grownBy w' (some g)) : DeepX t lo hi w' rs := fun y hy => (h y hy).other hb h0 hne hg
theorem DeepX.otherO {base t' sz m : Nat} {v : Value} {us : List Value} (h : DeepX t lo hi w rs) (ho : w.ownsRow base t' sz v m us) (h0 : Nat.beq t 0 = false) (hne : Nat.beq t t' = false) (hg : w.grownBy w' v.ownBlock) : DeepX t lo hi w' rs := fun y hy => (h y hy).otherO ho h0 hne hg
theorem DeepX.far {g : Nat} (h : DeepX t lo hi w rs) (hg : w.grownBy w' (some g)) (hr : g < lo ∨ hi ≤ g) : DeepX t lo hi w' rs := fun y hy => (h y hy).grown hg (by rintro _ ⟨rfl⟩; exact hr)
theorem DeepX.farO {base t' sz m : Nat} {v : Value} {us : List Value} (h : DeepX t lo hi w rs) (ho : w.ownsRow base t' sz v m us) (hb : hi ≤ base) (hg : w.grownBy w' v.ownBlock) : DeepX t lo hi w' rs := fun y hy => (h y hy).grown hg (fun k hk => .inr (Nat.le_trans hb (World.ownsRow.lt ho k hk).1))
theorem DeepX.top (h : DeepX t lo hi w rs) : DeepX t lo w.heap.size w rs := fun y hy => (h y hy).top
theorem DeepX.snoc {y : RecX} {lo' hi' : Nat} (h : DeepX t lo hi w rs) (h1 : Sli t lo' hi' w y.a (fl encB y.xs)) (hl : lo ≤ lo') : DeepX t lo w.heap.size w (rs ++ [y]) := by
  intro z hz
  rcases List.mem_append.1 hz with hz | hz
  · exact (h z hz).top
  · rw [List.mem_singleton] at hz
    subst hz
    exact (h1.top).wide hl (Nat.le_refl _)
theorem DeepX.get (h : DeepX t lo hi w rs) {i : Nat} (hi' : i < rs.length) : Sli t lo hi w rs[i].a (fl encB rs[i].xs) := h _ (List.getElem_mem _)
end
def DeepV (t lo hi : Nat) (w : World) (ls : List Bys) : Prop := ∀ y ∈ ls, Sli t lo hi w y.a (fl encB y.xs)
section
variable {t lo hi : Nat} {w w' : World} {ls : List Bys}
theorem DeepV.nil : DeepV t lo hi w [] := fun y hy => by cases hy
theorem DeepV.gb (h : DeepV t lo hi w ls) (hg : w.grownBy w' none) : DeepV t lo hi w' ls := fun y hy => (h y hy).gb hg
theorem DeepV.other {g t' : Nat} {cs : List Value} (h : DeepV t lo hi w ls) (hb : Blk w g t' cs) (h0 : Nat.beq t 0 = false) (hne : Nat.beq t t' = false) (hg : w.grownBy w' (some g)) : DeepV t lo hi w' ls := fun y hy => (h y hy).other hb h0 hne hg
theorem DeepV.otherO {base t' sz m : Nat} {v : Value} {us : List Value} (h : DeepV t lo hi w ls) (ho : w.ownsRow base t' sz v m us) (h0 : Nat.beq t 0 = false) (hne : Nat.beq t t' = false) (hg : w.grownBy w' v.ownBlock) : DeepV t lo hi w' ls := fun y hy => (h y hy).otherO ho h0 hne hg
theorem DeepV.far {g : Nat} (h : DeepV t lo hi w ls) (hg : w.grownBy w' (some g)) (hr : g < lo ∨ hi ≤ g) : DeepV t lo hi w' ls := fun y hy => (h y hy).grown hg (by rintro _ ⟨rfl⟩; exact hr)
theorem DeepV.farO {base t' sz m : Nat} {v : Value} {us : List Value} (h : DeepV t lo hi w ls) (ho : w.ownsRow base t' sz v m us) (hb : hi ≤ base) (hg : w.grownBy w' v.ownBlock) : DeepV t lo hi w' ls := fun y hy => (h y hy).grown hg (fun k hk => .inr (Nat.le_trans hb (World.ownsRow.lt ho k hk).1))
theorem DeepV.top (h : DeepV t lo hi w ls) : DeepV t lo w.heap.size w ls := fun y hy => (h y hy).top
theorem DeepV.snoc {y : Bys} {lo' hi' : Nat} (h : DeepV t lo hi w ls) (h1 : Sli t lo' hi' w y.a (fl encB y.xs)) (hl : lo ≤ lo') : DeepV t lo w.heap.size w (ls ++ [y]) := by
  intro z hz
  rcases List.mem_append.1 hz with hz | hz
  · exact (h z hz).top
  · rw [List.mem_singleton] at hz
    subst hz
    exact (h1.top).wide hl (Nat.le_refl _)
theorem DeepV.get (h : DeepV t lo hi w ls) {i : Nat} (hi' : i < ls.length) : Sli t lo hi w ls[i].a (fl encB ls[i].xs) := h _ (List.getElem_mem _)
end
theorem DeepV.y {t lo hi : Nat} {w : World} {ls : List Bys} (h : DeepV t lo hi w ls) : DeepY t w ls := fun y hy => sli_zero (h y hy)
theorem same11_ok {w : World} {t1 lo1 hi1 t2 lo2 hi2 : Nat} {k1 ch1 l1 p1 k2 ch2 l2 p2 : Int} {A1 A2 : Option Addr} {c1 c2 : Nat} {xs ys : List UInt8} (hS1 : Sli t1 lo1 hi1 w A1 (fl encB xs)) (hS2 : Sli t2 lo2 hi2 w A2 (fl encB ys)) (he : k1 = k2 ∧ ch1 = ch2 ∧ l1 = l2 ∧ p1 = p2 ∧ xs = ys) :
    Runs Tryd.prog 32 #[.agg #[.int .i64 k1, .int .i64 ch1, .int .i64 l1, .int .i64 p1, .slice A1 xs.length c1], .agg #[.int .i64 k2, .int .i64 ch2, .int .i64 l2, .int .i64 p2, .slice A2 ys.length c2]] w (fun v w' => w.grownBy w' none ∧ v = .bool true) := by
  have hB := gb_refl w none
  replace hS1 := hS1.top
  replace hS2 := hS2.top
  refine enter Tryd.func32 Tryd.ntmps32 rfl rfl ?_
  refine C_seq (C_reg rfl ?_)
  refine L_box (cs := [.int .i64 k1, .int .i64 ch1, .int .i64 l1, .int .i64 p1, .slice A1 xs.length c1]) rfl rfl rfl ?_
  intro g1 w1 eg1 hb1 hs1 hz1
  have ge1 : w.heap.size ≤ g1 := eg_ge hB eg1
  replace hB := gb_tr hB hs1
  replace hS1 := hS1.gb hs1
  replace hS2 := hS2.gb hs1
  refine L_box (cs := [.int .i64 k2, .int .i64 ch2, .int .i64 l2, .int .i64 p2, .slice A2 ys.length c2]) rfl rfl rfl ?_
  intro g2 w2 eg2 hb2 hs2 hz2
  have ge2 : w.heap.size ≤ g2 := eg_ge hB eg2
  have lt1 : g1 < g2 := lt_of_eg hb1.lt eg2
  replace hB := gb_tr hB hs2
  replace hS1 := hS1.gb hs2
  replace hS2 := hS2.gb hs2
  replace hb1 := hb1.gb hs2
  refine L_run (R_assign rfl) rfl ?_
  refine L_nil (N_then (C_seq (C_reg rfl ?_)))
  refine L_run (R_field (r := 0) rfl fld48_0 rfl) rfl ?_
  refine L_run (R_load1 rfl scl3 (hb1.cell (i := 0) rfl)) rfl ?_
  refine L_run (R_field (r := 0) rfl fld48_0 rfl) rfl ?_
  refine L_run (R_load1 rfl scl3 (hb2.cell (i := 0) rfl)) rfl ?_
  refine L_run (R_eql rfl rfl) rfl ?_
  refine L_run (R_move rfl) rfl ?_
  refine L_yes rfl rfl rfl (decide_eq_true he.1) ?_
  refine L_run (R_field (r := 1) rfl fld48_1 rfl) rfl ?_
  refine L_yes rfl rfl rfl (decide_eq_true he.1) ?_
  refine L_run (R_load1 rfl scl3 (hb1.cell (i := 1) rfl)) rfl ?_
  refine L_yes rfl rfl rfl (decide_eq_true he.1) ?_
  refine L_run (R_field (r := 1) rfl fld48_1 rfl) rfl ?_
  refine L_yes rfl rfl rfl (decide_eq_true he.1) ?_
  refine L_run (R_load1 rfl scl3 (hb2.cell (i := 1) rfl)) rfl ?_
  refine L_yes rfl rfl rfl (decide_eq_true he.1) ?_
  refine L_run (R_eql rfl rfl) rfl ?_
  refine L_run (R_pickT rfl (decide_eq_true he.1) rfl) rfl ?_
  refine L_run (R_move rfl) rfl ?_
  refine L_yes rfl rfl rfl (decide_eq_true he.2.1) ?_
  refine L_run (R_field (r := 2) rfl fld48_2 rfl) rfl ?_
  refine L_yes rfl rfl rfl (decide_eq_true he.2.1) ?_
  refine L_run (R_load1 rfl scl3 (hb1.cell (i := 2) rfl)) rfl ?_
  refine L_yes rfl rfl rfl (decide_eq_true he.2.1) ?_
  refine L_run (R_field (r := 2) rfl fld48_2 rfl) rfl ?_
  refine L_yes rfl rfl rfl (decide_eq_true he.2.1) ?_
  refine L_run (R_load1 rfl scl3 (hb2.cell (i := 2) rfl)) rfl ?_
  refine L_yes rfl rfl rfl (decide_eq_true he.2.1) ?_
  refine L_run (R_eql rfl rfl) rfl ?_
  refine L_run (R_pickT rfl (decide_eq_true he.2.1) rfl) rfl ?_
  refine L_run (R_move rfl) rfl ?_
  refine L_yes rfl rfl rfl (decide_eq_true he.2.2.1) ?_
  refine L_run (R_field (r := 3) rfl fld48_3 rfl) rfl ?_
  refine L_yes rfl rfl rfl (decide_eq_true he.2.2.1) ?_
  refine L_run (R_load1 rfl scl3 (hb1.cell (i := 3) rfl)) rfl ?_
  refine L_yes rfl rfl rfl (decide_eq_true he.2.2.1) ?_
  refine L_run (R_field (r := 3) rfl fld48_3 rfl) rfl ?_
  refine L_yes rfl rfl rfl (decide_eq_true he.2.2.1) ?_
  refine L_run (R_load1 rfl scl3 (hb2.cell (i := 3) rfl)) rfl ?_
  refine L_yes rfl rfl rfl (decide_eq_true he.2.2.1) ?_
  refine L_run (R_eql rfl rfl) rfl ?_
  refine L_run (R_pickT rfl (decide_eq_true he.2.2.1) rfl) rfl ?_
  refine L_run (R_move rfl) rfl ?_
  refine L_yes rfl rfl rfl (decide_eq_true he.2.2.2.1) ?_
  refine L_run (R_field (r := 4) rfl fld48_4 rfl) rfl ?_
  refine L_yes rfl rfl rfl (decide_eq_true he.2.2.2.1) ?_
  refine L_run (R_load1 rfl scl46 (hb1.cell (i := 4) rfl)) rfl ?_
  refine L_yes rfl rfl rfl (decide_eq_true he.2.2.2.1) ?_
  refine L_run (R_b2s' (bs := xs) rfl slc46 int5 str9 hS1) rfl ?_
  refine L_yes rfl rfl rfl (decide_eq_true he.2.2.2.1) ?_
  refine L_run (R_field (r := 4) rfl fld48_4 rfl) rfl ?_
  refine L_yes rfl rfl rfl (decide_eq_true he.2.2.2.1) ?_
  refine L_run (R_load1 rfl scl46 (hb2.cell (i := 4) rfl)) rfl ?_
  refine L_yes rfl rfl rfl (decide_eq_true he.2.2.2.1) ?_
  refine L_run (R_b2s' (bs := ys) rfl slc46 int5 str9 hS2) rfl ?_
  refine L_yes rfl rfl rfl (decide_eq_true he.2.2.2.1) ?_
  refine L_run (R_eqv (R_eqv (R_eqlS rfl rfl) (v' := .bool (decide (xs = ys))) (bD ba_inj)) (v' := .bool true) (bT' he.2.2.2.2)) rfl ?_
  refine L_run (R_pickT rfl (decide_eq_true he.2.2.2.1) rfl) rfl ?_
  refine L_run (R_assign rfl) rfl ?_
  refine L_nil (N_then (C_ret ?_))
  refine ret1 Tryd.results32 rfl ?_
  exact ⟨hB, rfl⟩

theorem sameall_ok {w : World} {t1 lo1 hi1 t2 lo2 hi2 u1 m1 n1 u2 m2 n2 : Nat} {A1 A2 : Option Addr} {c1 c2 : Nat} {rs1 rs2 : List RecX} (hS1 : Sli t1 lo1 hi1 w A1 (fl encRX rs1)) (hS2 : Sli t2 lo2 hi2 w A2 (fl encRX rs2)) (hD1 : DeepX u1 m1 n1 w rs1) (hD2 : DeepX u2 m2 n2 w rs2) (he : RsEq rs1 rs2) (hl : rs1.length ≤ 1000000) :
    Runs Tryd.prog 21 #[.slice A1 rs1.length c1, .slice A2 rs2.length c2] w (fun v w' => w.grownBy w' none ∧ v = .bool true) := by
  have hB := gb_refl w none
  have hle := he.len
  replace hS1 := hS1.top
  replace hS2 := hS2.top
  refine enter Tryd.func21 Tryd.ntmps21 rfl rfl ?_
  refine C_seq (C_reg rfl ?_)
  refine L_run (R_assign rfl) rfl ?_
  refine L_nil (N_then (C_seq (C_seq (C_reg rfl ?_))))
  refine L_run (R_move rfl) rfl ?_
  refine L_run (R_lenSl rfl slc26) rfl ?_
  refine L_run (R_move rfl) rfl ?_
  refine L_run (R_lenSl rfl slc26) rfl ?_
  refine L_run (R_neq rfl rfl) rfl ?_
  refine L_nil (N_then (C_condF rfl (decide_eq_false (by omega)) (C_skip (N_then (C_seq (C_seq (C_reg rfl ?_)))))))
  refine L_run (R_assign rfl) rfl ?_
  refine L_nil (N_then (C_block ?_))
  refine C_loop (fun m_ a_ w_ => ∃ (σ_ : Nat → Value) (i : Nat), a_ = Ac 27 σ_ [] [(0, .slice A1 rs1.length c1), (1, .slice A2 rs2.length c2), (4, .bool false), (5, .int .i64 (i : Int))] ∧ w.grownBy w_ none ∧ Sli t1 lo1 w.heap.size w_ A1 (fl encRX rs1) ∧ Sli t2 lo2 w.heap.size w_ A2 (fl encRX rs2) ∧ DeepX u1 m1 n1 w_ rs1 ∧ DeepX u2 m2 n2 w_ rs2 ∧ (i ≤ rs1.length) ∧ rs1.length - i = m_) (rs1.length - 0) ?_ ?_
  · exact ⟨_, 0, Ac_frg ⟨rfl, rfl, rfl, (agr rfl (by first | rfl | (congr 1; omega) | (congr 1; simp; done) | (congr 1; simp only [IntKind.wrap_u64, IntKind.wrap_i64, IntKind.wrap_u8]; omega) | (congr 1 <;> omega))), trivial⟩, hB, hS1, hS2, hD1, hD2, (by omega), rfl⟩
  · clear hB
    clear hS1 hS2 hD1 hD2
    rintro m_ a_ w1 ⟨σ_, i, rfl, hB, hS1, hS2, hD1, hD2, hi_, rfl⟩
    refine C_seq (C_seq (C_reg rfl ?_))
    refine L_run (R_move rfl) rfl ?_
    refine L_run (R_move rfl) rfl ?_
    refine L_run (R_lenSl rfl slc26) rfl ?_
    refine L_run (R_lss rfl rfl) rfl ?_
    refine L_nil (N_then ?_)
    refine C_if rfl (fun h1 => ?_) (fun h1 => ?_)
    · refine C_skip (N_then (C_seq (C_block (C_seq ?_))))
      refine C_draw2 rfl mix ?_
      intro w2 hs1 hz1
      replace hB := gb_tr hB hs1
      replace hS1 := hS1.gb hs1
      replace hS2 := hS2.gb hs1
      replace hD1 := hD1.gb hs1
      replace hD2 := hD2.gb hs1
      have hl1 : i < rs1.length := by first | omega | (simp; omega)
      obtain ⟨g1, o1, r1, eA1, er1, ha1⟩ := Sli.place' (xs := rs1) (i := i) EncRX hS1 hl1 rfl
      have hl2 : i < rs2.length := by first | omega | (simp; omega)
      obtain ⟨g2, o2, r2, eA2, er2, ha2⟩ := Sli.place' (xs := rs2) (i := i) EncRX hS2 hl2 rfl
      refine ⟨fun W_ => At W_ g1 r1 [.int .i64 ((rs1[i]).kind), .int .i64 ((rs1[i]).chain), .int .i64 ((rs1[i]).lsn), .int .i64 ((rs1[i]).prev), .slice ((rs1[i]).a) ((rs1[i]).xs.length) ((rs1[i]).c)] ∧ At W_ g2 r2 [.int .i64 ((rs2[i]).kind), .int .i64 ((rs2[i]).chain), .int .i64 ((rs2[i]).lsn), .int .i64 ((rs2[i]).prev), .slice ((rs2[i]).a) ((rs2[i]).xs.length) ((rs2[i]).c)] ∧ True, [0, 1, 2, 3, 4, 5, 6, 7, 9], ?_⟩
      refine T_takeA (i := 0) rfl rfl (by kernel_rfl) (by kernel_rfl) (by kernel_rfl) (Y_of (fun _ ⟨ha1, ha2, _⟩ => R_move rfl)) ⟨ha1, ha2, trivial⟩ rfl ?_
      refine T_takeA (i := 1) rfl rfl (by kernel_rfl) (by kernel_rfl) (by kernel_rfl) (Y_of (fun _ ⟨ha1, ha2, _⟩ => R_move rfl)) ⟨ha1, ha2, trivial⟩ rfl ?_
      refine T_takeA (i := 2) rfl rfl (by kernel_rfl) (by kernel_rfl) (by kernel_rfl) (Y_of (fun _ ⟨ha1, ha2, _⟩ => R_indexE rfl rfl (by first | rfl | omega) slc26 hl1 eA1 er1)) ⟨ha1, ha2, trivial⟩ rfl ?_
      refine T_takeA (i := 3) rfl rfl (by kernel_rfl) (by kernel_rfl) (by kernel_rfl) (Y_of (fun _ ⟨ha1, ha2, _⟩ => R_loadA (vs := [.int .i64 ((rs1[i]).kind), .int .i64 ((rs1[i]).chain), .int .i64 ((rs1[i]).lsn), .int .i64 ((rs1[i]).prev), .slice ((rs1[i]).a) ((rs1[i]).xs.length) ((rs1[i]).c)]) rfl agg48 (At.pre ha1 rfl) rfl)) ⟨ha1, ha2, trivial⟩ rfl ?_
      refine T_takeA (i := 4) rfl rfl (by kernel_rfl) (by kernel_rfl) (by kernel_rfl) (Y_of (fun _ ⟨ha1, ha2, _⟩ => R_move rfl)) ⟨ha1, ha2, trivial⟩ rfl ?_
      refine T_takeA (i := 5) rfl rfl (by kernel_rfl) (by kernel_rfl) (by kernel_rfl) (Y_of (fun _ ⟨ha1, ha2, _⟩ => R_move rfl)) ⟨ha1, ha2, trivial⟩ rfl ?_
      refine T_takeA (i := 6) rfl rfl (by kernel_rfl) (by kernel_rfl) (by kernel_rfl) (Y_of (fun _ ⟨ha1, ha2, _⟩ => R_indexE rfl rfl (by first | rfl | omega) slc26 hl2 eA2 er2)) ⟨ha1, ha2, trivial⟩ rfl ?_
      refine T_takeA (i := 7) rfl rfl (by kernel_rfl) (by kernel_rfl) (by kernel_rfl) (Y_of (fun _ ⟨ha1, ha2, _⟩ => R_loadA (vs := [.int .i64 ((rs2[i]).kind), .int .i64 ((rs2[i]).chain), .int .i64 ((rs2[i]).lsn), .int .i64 ((rs2[i]).prev), .slice ((rs2[i]).a) ((rs2[i]).xs.length) ((rs2[i]).c)]) rfl agg48 (At.pre ha2 rfl) rfl)) ⟨ha1, ha2, trivial⟩ rfl ?_
      refine T_all (rs := [8]) (by kernel_rfl) rfl (all1 (O_one rfl ?_))
      refine L_call rfl cb32 (same11_ok (hD1.get (i := i) (by first | assumption | omega | (simp; omega))) (hD2.get (i := i) (by first | assumption | omega | (simp; omega))) (he.get (by omega) (by omega))) rfl ?_
      rintro _ w3 ⟨hs2, rfl⟩
      replace hB := gb_tr hB hs2
      replace hS1 := hS1.gb hs2
      replace hS2 := hS2.gb hs2
      replace hD1 := hD1.gb hs2
      replace hD2 := hD2.gb hs2
      replace ha1 := At.gb ha1 hs2 (by simp)
      replace ha2 := At.gb ha2 hs2 (by simp)
      refine L_nil (N_then ⟨fun hN_ => ⟨ha1, ha2, trivial⟩, ?_⟩)
      refine T_takeA (i := 9) rfl rfl (by kernel_rfl) (by kernel_rfl) (by kernel_rfl) (Y_of (fun _ ⟨ha1, ha2, _⟩ => R_not rfl)) ⟨ha1, ha2, trivial⟩ rfl ?_
      refine T_done (by kernel_rfl) (CalmE.normal ?_)
      refine N_then (C_condF rfl rfl (C_skip (N_in (N_then (C_reg rfl ?_)))))
      refine L_run (R_move rfl) rfl ?_
      refine L_run (R_add64 rfl rfl (by omega)) rfl ?_
      refine L_run (R_assign rfl) rfl ?_
      refine L_nil (N_then ?_)
      exact ⟨rs1.length - (i + 1), by omega, _, (i + 1), Ac_frg ⟨rfl, rfl, rfl, (agr rfl (by first | rfl | (congr 1; omega) | (congr 1; simp; done) | (congr 1; simp only [IntKind.wrap_u64, IntKind.wrap_i64, IntKind.wrap_u8]; omega) | (congr 1 <;> omega))), trivial⟩, hB, hS1, hS2, hD1, hD2, (by omega), rfl⟩
    · refine C_exit (X_then (X_then (X_hit (N_then (C_seq (C_reg rfl ?_))))))
      refine L_run (R_assign rfl) rfl ?_
      refine L_nil (N_then (C_ret ?_))
      refine ret1 Tryd.results21 rfl ?_
      exact ⟨hB, rfl⟩

theorem bs_get {ss1 ss2 : List Sx} {i : Nat} (h : bsOf ss1 = bsOf ss2) (h1 : i < ss1.length) (h2 : i < ss2.length) : ss1[i].b = ss2[i].b := by
  have e := congrArg (fun l => l[i]?) h
  simpa [bsOf, List.getElem?_map, List.getElem?_eq_getElem h1, List.getElem?_eq_getElem h2] using e
theorem bs_len {ss1 ss2 : List Sx} (h : bsOf ss1 = bsOf ss2) : ss1.length = ss2.length := by
  have e := congrArg List.length h
  simpa [bsOf] using e
theorem same06_ok {w : World} {t1 lo1 hi1 t2 lo2 hi2 : Nat} {A1 A2 : Option Addr} {c1 c2 : Nat} {ss1 ss2 : List Sx} (hS1 : Sli t1 lo1 hi1 w A1 (fl encX ss1)) (hS2 : Sli t2 lo2 hi2 w A2 (fl encX ss2)) (he : bsOf ss1 = bsOf ss2) (hl : ss1.length ≤ 1000000) :
    Runs Tryd.prog 8 #[.slice A1 ss1.length c1, .slice A2 ss2.length c2] w (fun v w' => w.grownBy w' none ∧ v = .bool true) := by
  have hB := gb_refl w none
  have hle := bs_len he
  replace hS1 := hS1.top
  replace hS2 := hS2.top
  refine enter Tryd.func8 Tryd.ntmps8 rfl rfl ?_
  refine C_seq (C_reg rfl ?_)
  refine L_run (R_assign rfl) rfl ?_
  refine L_nil (N_then (C_seq (C_seq (C_reg rfl ?_))))
  refine L_run (R_move rfl) rfl ?_
  refine L_run (R_lenSl rfl slc34) rfl ?_
  refine L_run (R_move rfl) rfl ?_
  refine L_run (R_lenSl rfl slc34) rfl ?_
  refine L_run (R_neq rfl rfl) rfl ?_
  refine L_nil (N_then (C_condF rfl (decide_eq_false (by omega)) (C_skip (N_then (C_seq (C_seq (C_reg rfl ?_)))))))
  refine L_run (R_assign rfl) rfl ?_
  refine L_nil (N_then (C_block ?_))
  refine C_loop (fun m_ a_ w_ => ∃ (σ_ : Nat → Value) (i : Nat), a_ = Ac 26 σ_ [] [(0, .slice A1 ss1.length c1), (1, .slice A2 ss2.length c2), (4, .bool false), (5, .int .i64 (i : Int))] ∧ w.grownBy w_ none ∧ Sli t1 lo1 w.heap.size w_ A1 (fl encX ss1) ∧ Sli t2 lo2 w.heap.size w_ A2 (fl encX ss2) ∧ (i ≤ ss1.length) ∧ ss1.length - i = m_) (ss1.length - 0) ?_ ?_
  · exact ⟨_, 0, Ac_frg ⟨rfl, rfl, rfl, (agr rfl (by first | rfl | (congr 1; omega) | (congr 1; simp; done) | (congr 1; simp only [IntKind.wrap_u64, IntKind.wrap_i64, IntKind.wrap_u8]; omega) | (congr 1 <;> omega))), trivial⟩, hB, hS1, hS2, (by omega), rfl⟩
  · clear hB
    clear hS1 hS2
    rintro m_ a_ w1 ⟨σ_, i, rfl, hB, hS1, hS2, hi_, rfl⟩
    refine C_seq (C_seq (C_reg rfl ?_))
    refine L_run (R_move rfl) rfl ?_
    refine L_run (R_move rfl) rfl ?_
    refine L_run (R_lenSl rfl slc34) rfl ?_
    refine L_run (R_lss rfl rfl) rfl ?_
    refine L_nil (N_then ?_)
    refine C_if rfl (fun h1 => ?_) (fun h1 => ?_)
    · refine C_skip (N_then (C_seq (C_block (C_seq ?_))))
      refine C_draw2 rfl mix ?_
      intro w2 hs1 hz1
      replace hB := gb_tr hB hs1
      replace hS1 := hS1.gb hs1
      replace hS2 := hS2.gb hs1
      have hl1 : i < ss1.length := by first | omega | (simp; omega)
      obtain ⟨g1, o1, r1, eA1, er1, ha1⟩ := Sli.place' (xs := ss1) (i := i) EncX hS1 hl1 rfl
      replace ha1 : At w2 g1 r1 (fl encB ss1[i].b) := ha1
      have hl2 : i < ss2.length := by first | omega | (simp; omega)
      obtain ⟨g2, o2, r2, eA2, er2, ha2⟩ := Sli.place' (xs := ss2) (i := i) EncX hS2 hl2 rfl
      replace ha2 : At w2 g2 r2 (fl encB ss2[i].b) := ha2
      refine ⟨fun W_ => At W_ g1 r1 (fl encB ss1[i].b) ∧ At W_ g2 r2 (fl encB ss2[i].b) ∧ True, [0, 1, 2, 3, 4, 5, 6, 7, 8], ?_⟩
      refine T_takeA (i := 0) rfl rfl (by kernel_rfl) (by kernel_rfl) (by kernel_rfl) (Y_of (fun _ ⟨ha1, ha2, _⟩ => R_move rfl)) ⟨ha1, ha2, trivial⟩ rfl ?_
      refine T_takeA (i := 1) rfl rfl (by kernel_rfl) (by kernel_rfl) (by kernel_rfl) (Y_of (fun _ ⟨ha1, ha2, _⟩ => R_move rfl)) ⟨ha1, ha2, trivial⟩ rfl ?_
      refine T_takeA (i := 2) rfl rfl (by kernel_rfl) (by kernel_rfl) (by kernel_rfl) (Y_of (fun _ ⟨ha1, ha2, _⟩ => R_indexE rfl rfl (by first | rfl | omega) slc34 hl1 eA1 er1)) ⟨ha1, ha2, trivial⟩ rfl ?_
      refine T_takeA (i := 3) rfl rfl (by kernel_rfl) (by kernel_rfl) (by kernel_rfl) (Y_of (fun _ ⟨ha1, ha2, _⟩ => R_loadA (vs := fl encB (ss1[i].b)) rfl agg62 ha1 (flB_lenE ss1[i].h))) ⟨ha1, ha2, trivial⟩ rfl ?_
      refine T_takeA (i := 4) rfl rfl (by kernel_rfl) (by kernel_rfl) (by kernel_rfl) (Y_of (fun _ ⟨ha1, ha2, _⟩ => R_move rfl)) ⟨ha1, ha2, trivial⟩ rfl ?_
      refine T_takeA (i := 5) rfl rfl (by kernel_rfl) (by kernel_rfl) (by kernel_rfl) (Y_of (fun _ ⟨ha1, ha2, _⟩ => R_move rfl)) ⟨ha1, ha2, trivial⟩ rfl ?_
      refine T_takeA (i := 6) rfl rfl (by kernel_rfl) (by kernel_rfl) (by kernel_rfl) (Y_of (fun _ ⟨ha1, ha2, _⟩ => R_indexE rfl rfl (by first | rfl | omega) slc34 hl2 eA2 er2)) ⟨ha1, ha2, trivial⟩ rfl ?_
      refine T_takeA (i := 7) rfl rfl (by kernel_rfl) (by kernel_rfl) (by kernel_rfl) (Y_of (fun _ ⟨ha1, ha2, _⟩ => R_loadA (vs := fl encB (ss2[i].b)) rfl agg62 ha2 (flB_lenE ss2[i].h))) ⟨ha1, ha2, trivial⟩ rfl ?_
      refine T_takeA (i := 8) rfl rfl (by kernel_rfl) (by kernel_rfl) (by kernel_rfl) (Y_of (fun _ ⟨ha1, ha2, _⟩ => R_neqA rfl rfl eqg62 (eqs_bytes arr62 int5 scl5 ss1[i].h ss2[i].h))) ⟨ha1, ha2, trivial⟩ rfl ?_
      refine T_done (by kernel_rfl) (CalmE.normal ?_)
      refine N_then (C_condF rfl (decide_eq_false (fun h_ => h_ (bs_get he (by omega) (by omega)))) (C_skip (N_in (N_then (C_reg rfl ?_)))))
      refine L_run (R_move rfl) rfl ?_
      refine L_run (R_add64 rfl rfl (by omega)) rfl ?_
      refine L_run (R_assign rfl) rfl ?_
      refine L_nil (N_then ?_)
      exact ⟨ss1.length - (i + 1), by omega, _, (i + 1), Ac_frg ⟨rfl, rfl, rfl, (agr rfl (by first | rfl | (congr 1; omega) | (congr 1; simp; done) | (congr 1; simp only [IntKind.wrap_u64, IntKind.wrap_i64, IntKind.wrap_u8]; omega) | (congr 1 <;> omega))), trivial⟩, hB, hS1, hS2, (by omega), rfl⟩
    · refine C_exit (X_then (X_then (X_hit (N_then (C_seq (C_reg rfl ?_))))))
      refine L_run (R_assign rfl) rfl ?_
      refine L_nil (N_then (C_ret ?_))
      refine ret1 Tryd.results8 rfl ?_
      exact ⟨hB, rfl⟩

end Go.Proofs.YtbpjdcpfphnccaaDoor
