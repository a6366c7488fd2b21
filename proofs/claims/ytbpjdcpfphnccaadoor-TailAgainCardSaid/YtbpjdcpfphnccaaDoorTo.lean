/-
  Contracts of the package image: records laid, one by one.
-/
import Derived.Test.YtbpjdcpfphnccaaDoorTn
import Derived.Test.YtbpjdcpfphnccaaDoorGi
namespace Go.Proofs.YtbpjdcpfphnccaaDoor
open Go.RowKit Gw Pl
set_option linter.unusedVariables false
set_option linter.unusedSimpArgs false
theorem agg71 : aggB Tryd.prog 71 3 = true := by kernel_rfl
theorem cb36 : callB Tryd.prog 36 = true := by kernel_rfl
theorem fld71_1 : fldB Tryd.prog 71 1 1 = true := by kernel_rfl
theorem fld71_2 : fldB Tryd.prog 71 2 2 = true := by kernel_rfl
theorem scl22 : sclB Tryd.prog 22 = true := by kernel_rfl
theorem scl50 : sclB Tryd.prog 50 = true := by kernel_rfl
theorem sz71 : szB Tryd.prog 71 3 = true := by kernel_rfl
theorem zer71 : (Tryd.prog.info? 71).bind (·.zero) = some (.agg #[.int .i64 0, .int .i64 0, .slice none 0 0]) := by kernel_rfl
theorem rawK_begin {n fu q f : Nat} {b : Bool} : rawK n (fu + 1) b (beginN q) f = rawK n (fu + 1) b q f := by simp only [rawK, beginN_idem]
theorem cutN_begin {a n : Nat} : cutN (beginN a) n = cutN a n := by
  rw [cutN_K, cutN_K]
  exact rawK_begin (fu := 832)
theorem addN_begin {e a : Nat} {b d : List UInt8} : addN e b (beginN a) d = addN e b a d := by unfold addN; rw [cutN_begin]
theorem lay_go' {e en : Nat} {d : List UInt8} {r : List (List UInt8)} {b : List UInt8} {P : List Int} (h : (addN e b (beginN en) d).isSome = true) : layN e (d :: r) b P en = layN e r (aB (addN e b (beginN en) d)) (P ++ [((beginN en : Nat) : Int)]) (cen (addN e b (beginN en) d)) := by
  rw [addN_begin] at h ⊢
  exact lay_go h
theorem lay_no' {e en : Nat} {d : List UInt8} {r : List (List UInt8)} {b : List UInt8} {P : List Int} (h : ¬ (addN e b (beginN en) d).isSome = true) : layN e (d :: r) b P en = none := by
  rw [addN_begin] at h
  exact lay_no (by simpa using h)
theorem DeepY.lp {t L : Nat} {o : Obj} {w w' : World} {ls : List Bys} (h : DeepY t w ls) (hL : LpF w L o) (hs : w.grownBy w' (some L)) : DeepY t w' ls := fun y hy => sli_zero ((h y hy).lp hL hs)
theorem iadd_n {w : World} {t1 lo hi t2 lo2 hi2 : Nat} {A A2 : Option Addr} {c c2 e a : Nat} {body data : List UInt8} (hT : Tbw w) (hS : Sli t1 lo hi w A (fl encB body)) (hD : Sli t2 lo2 hi2 w A2 (fl encB data)) (hd : data.length ≤ 1000000) (hc2 : data.length ≤ c2) (ha : a ≤ 832) (hx : ¬ (addN e body a data).isSome = true) : Runs Tryd.prog 36 #[.int .u64 (e : Int), .slice A body.length c, .int .i64 (a : Int), .slice A2 data.length c2] w (fun v w' => w.grownBy w' none ∧ v = .tuple #[.slice none 0 0, .int .i64 0, .bool false]) :=
  (iadd_ok hT hS hD hd hc2 ha).mono fun v w' h => by
    obtain ⟨hB, A', c', rfl, ho, hn⟩ := h
    cases hx' : addN e body a data with
    | some r => rw [hx'] at hx; exact absurd rfl hx
    | none => rw [hx'] at hn; obtain ⟨rfl, rfl⟩ := hn rfl; exact ⟨hB, rfl⟩
theorem iadd_y {w : World} {t1 lo hi t2 lo2 hi2 : Nat} {A A2 : Option Addr} {c c2 e a : Nat} {body data : List UInt8} (hT : Tbw w) (hS : Sli t1 lo hi w A (fl encB body)) (hD : Sli t2 lo2 hi2 w A2 (fl encB data)) (hd : data.length ≤ 1000000) (hc2 : data.length ≤ c2) (ha : a ≤ 832) (hx : (addN e body a data).isSome = true) : Runs Tryd.prog 36 #[.int .u64 (e : Int), .slice A body.length c, .int .i64 (a : Int), .slice A2 data.length c2] w (fun v w' => w.grownBy w' none ∧ ∃ g' c', v = .tuple #[.slice (some ⟨g', 0, none⟩) (aB (addN e body a data)).length c', .int .i64 ((cen (addN e body a data) : Nat) : Int), .bool true] ∧ World.ownsRow w' w.heap.size 5 1 (.slice (some ⟨g', 0, none⟩) (aB (addN e body a data)).length c') (aB (addN e body a data)).length (fl encB (aB (addN e body a data)))) :=
  (iadd_ok hT hS hD hd hc2 ha).mono fun v w' h => by
    obtain ⟨hB, A', c', rfl, ho, hn⟩ := h
    rw [hx]
    have h8 := (addN_ok ha hx).1
    rcases ho.2 with ⟨hv, h0⟩ | ⟨g, cap, cur, hv, _⟩
    · exfalso
      have h1 : (aB (addN e body a data)).length = 0 := by injection hv
      omega
    · have h1 : A' = some ⟨g, 0, none⟩ := by injection hv
      subst h1
      exact ⟨hB, g, c', rfl, ho⟩
/-- What the loop's function keeps. -/
def EachL (w : World) (gl ge e c t1 hi : Nat) (A : Option Addr) (ls : List Bys) : Prop := Blk w gl 50 [.slice A ls.length c] ∧ Blk w ge 22 [.int .u64 (e : Int)] ∧ Sli t1 0 hi w A (fl encY ls) ∧ DeepY 5 w ls
theorem ieach_ok {w : World} {A : Option Addr} {n c e : Nat} :
    Runs Tryd.prog 25 #[.int .u64 (e : Int), .slice A n c] w (fun v w' => w.grownBy w' none ∧ ∃ gl ge, w.heap.size ≤ gl ∧ w.heap.size ≤ ge ∧ v = .func (.func 34) #[] #[.pointer (some ⟨gl, 0, none⟩), .pointer (some ⟨ge, 0, none⟩)] ∧ Blk w' gl 50 [.slice A n c] ∧ Blk w' ge 22 [.int .u64 (e : Int)]) := by
  have hB := gb_refl w none
  refine enter Tryd.func25 Tryd.ntmps25 rfl rfl ?_
  refine C_seq (C_reg rfl ?_)
  refine L_box (cs := [.int .u64 (e : Int)]) rfl rfl rfl ?_
  intro g1 w1 eg1 hb1 hs1 hz1
  have ge1 : w.heap.size ≤ g1 := eg_ge hB eg1
  replace hB := gb_tr hB hs1
  refine L_box (cs := [.slice A n c]) rfl rfl rfl ?_
  intro g2 w2 eg2 hb2 hs2 hz2
  have ge2 : w.heap.size ≤ g2 := eg_ge hB eg2
  have lt1 : g1 < g2 := lt_of_eg hb1.lt eg2
  replace hB := gb_tr hB hs2
  replace hb1 := hb1.gb hs2
  refine L_run (R_assign rfl) rfl ?_
  refine L_nil (N_then (C_seq (C_reg rfl ?_)))
  refine L_run (R_makeFunc rfl rfl) rfl ?_
  refine L_run (R_assign rfl) rfl ?_
  refine L_nil (N_then (C_ret ?_))
  refine ret1 Tryd.results25 rfl ?_
  exact ⟨hB, g2, g1, ge2, ge1, rfl, hb2, hb1⟩

theorem ieach1 {w wa : World} {gl ge L e c t1 : Nat} {A : Option Addr} {ls : List Bys} {X : Option (List UInt8 × List Int × Nat)} {rec : Obj} {vb : Bool} {J : World → List Int → List UInt8 → Nat → Nat → Nat → Prop} {Stop : World → Prop} (hB : w.grownBy wa none) (hT : Tbw w) (gl0 : w.heap.size ≤ gl) (ge0 : w.heap.size ≤ ge) (hE : EachL wa gl ge e c t1 w.heap.size A ls) (hL : LpF wa L rec) (hll : ls.length ≤ 1000000) (hds : ∀ y ∈ ls, y.xs.length ≤ 1000000 ∧ y.xs.length ≤ y.c) (hX0 : layN e (xsOf ls) (List.replicate 832 0) [] 0 = X) (hJ : ∀ g c, J wa [] (List.replicate 832 0) 0 g c)
    (hJn : ∀ w w' P b en gb cb, J w P b en gb cb → w.grownBy w' none → J w' P b en gb cb) (hJa : ∀ w w' g cs P b en gb cb, J w P b en gb cb → Blk w g 71 cs → wa.heap.size ≤ g → w.grownBy w' (some g) → J w' P b en gb cb)
    (hyY : ∀ (w2 : World) (P : List Int) (b b' : List UInt8) (en en' gb gb' cb cb' gx : Nat), w.grownBy w2 none → LpF w2 L rec → J w2 P b en gb cb → EachL w2 gl ge e c t1 w.heap.size A ls → wa.heap.size ≤ gx → Blk w2 gx 71 [.int .i64 ((beginN en : Nat) : Int), .int .i64 (en' : Int), .slice (some ⟨gb', 0, none⟩) b'.length cb'] → World.ownsRow w2 w.heap.size 5 1 (.slice (some ⟨gb', 0, none⟩) b'.length cb') b'.length (fl encB b') → b'.length = 832 → P.length ≤ ls.length →
      YieldR Tryd.prog L [.agg #[.int .i64 ((beginN en : Nat) : Int), .int .i64 (en' : Int), .slice (some ⟨gb', 0, none⟩) b'.length cb']] w2 (fun v w3 => v = .bool true ∧ w.grownBy w3 none ∧ EachL w3 gl ge e c t1 w.heap.size A ls ∧ LpF w3 L rec ∧ J w3 (P ++ [((beginN en : Nat) : Int)]) b' en' gb' cb' ∧ Blk w3 gx 71 [.int .i64 ((beginN en : Nat) : Int), .int .i64 (en' : Int), .slice (some ⟨gb', 0, none⟩) b'.length cb'] ∧ World.ownsRow w3 w.heap.size 5 1 (.slice (some ⟨gb', 0, none⟩) b'.length cb') b'.length (fl encB b')))
    (hyN : ∀ (w2 : World) (P : List Int) (b : List UInt8) (en gb cb : Nat), w.grownBy w2 none → LpF w2 L rec → J w2 P b en gb cb →
      YieldR Tryd.prog L [.agg #[.int .i64 ((beginN en : Nat) : Int), .int .i64 0, .slice none 0 0]] w2 (fun v w3 => v = .bool vb ∧ w.grownBy w3 none ∧ Stop w3)) :
    Runs Tryd.prog 34 #[.func (.yield L) #[] #[], .pointer (some ⟨gl, 0, none⟩), .pointer (some ⟨ge, 0, none⟩)] wa (fun _ w' => w.grownBy w' none ∧ ((∃ b P en gb cb, X = some (b, P, en) ∧ LpF w' L rec ∧ J w' P b en gb cb ∧ World.ownsRow w' w.heap.size 5 1 (.slice (some ⟨gb, 0, none⟩) b.length cb) b.length (fl encB b)) ∨ (X = none ∧ Stop w'))) := by
  obtain ⟨hbl, hbe, hS, hD⟩ := hE
  have hlt_ : wa.heap.size ≤ wa.heap.size := Nat.le_refl _
  refine enter Tryd.func34 Tryd.ntmps34 rfl rfl ?_
  refine C_seq (C_reg rfl ?_)
  refine L_make (enc := encB) (m := 832) (x0 := (0 : UInt8)) slc46 zer5 rfl rfl rfl EncB (by omega) (by omega) rfl ?_
  intro g1 w1 eg1 hb1 hs1 hz1
  have ge1 : w.heap.size ≤ g1 := eg_ge hB eg1
  have lt1 : gl < g1 := lt_of_eg hbl.lt eg1
  have lt2 : ge < g1 := lt_of_eg hbe.lt eg1
  replace hB := gb_tr hB hs1
  replace hbl := hbl.gb hs1
  replace hbe := hbe.gb hs1
  replace hS := hS.gb hs1
  replace hD := hD.gb hs1
  replace hL := hL.gb hs1
  replace hJ := fun g_ c_ => hJn _ _ _ _ _ _ _ (hJ g_ c_) hs1
  replace hlt_ := Nat.le_trans hlt_ hs1.size
  refine L_run (R_build (pv := [(2, .slice (some ⟨g1, 0, none⟩) 832 832)]) (cs := [.int .i64 0, .int .i64 0, .slice (some ⟨g1, 0, none⟩) 832 832]) rfl (by kernel_rfl)) rfl ?_
  refine L_alloc (cs := [.int .i64 0, .int .i64 0, .slice none 0 0]) zer71 rfl rfl ?_
  intro g2 w2 eg2 hb2 hs2 hz2
  have ge2 : w.heap.size ≤ g2 := eg_ge hB eg2
  have lt3 : gl < g2 := lt_of_eg hbl.lt eg2
  have lt4 : ge < g2 := lt_of_eg hbe.lt eg2
  have lt5 : g1 < g2 := lt_of_eg hb1.lt eg2
  replace hB := gb_tr hB hs2
  replace hbl := hbl.gb hs2
  replace hbe := hbe.gb hs2
  replace hS := hS.gb hs2
  replace hD := hD.gb hs2
  replace hL := hL.gb hs2
  replace hJ := fun g_ c_ => hJn _ _ _ _ _ _ _ (hJ g_ c_) hs2
  replace hlt_ := Nat.le_trans hlt_ hs2.size
  replace hb1 := hb1.gb hs2
  refine L_stA (vs := [.int .i64 0, .int .i64 0, .slice (some ⟨g1, 0, none⟩) 832 832]) rfl rfl rfl sz71 rfl hb2 rfl ?_
  intro w3 hb3 hs3 hz3
  replace hB := gb_trg hB hs3 ge2
  replace hbl := hbl.grown hs3 (ne_lt lt3)
  replace hbe := hbe.grown hs3 (ne_lt lt4)
  replace hS := hS.old hs3 ge2
  replace hD := hD.other hb2 rfl rfl hs3
  replace hL := hL.blk hb2 hs3
  replace hJ := fun g_ c_ => hJa _ _ _ _ _ _ _ _ _ (hJ g_ c_) hb2 (by omega) hs3
  replace hlt_ := Nat.le_trans hlt_ hs3.size
  replace hb1 := hb1.grown hs3 (ne_lt lt5)
  refine L_nil (N_then (C_seq (C_reg rfl ?_)))
  refine L_run (R_load1 rfl scl50 (hbl.cell (i := 0) rfl)) rfl ?_
  refine L_run (R_lenSl rfl slc50) rfl ?_
  refine L_run (R_move rfl) rfl ?_
  refine L_nil (N_then (C_block ?_))
  have hgx_ : wa.heap.size ≤ g2 := by omega
  refine C_loop (fun m_ a_ w_ => ∃ (σ_ : Nat → Value) (i : Nat) (b : List UInt8) (P : List Int) (en : Nat) (gb : Nat) (cb : Nat) (z : Int), a_ = Ac 45 σ_ [] [(0, .func (.yield L) #[] #[]), (1, .pointer (some ⟨gl, 0, none⟩)), (2, .pointer (some ⟨ge, 0, none⟩)), (4, .pointer (some ⟨g2, 0, none⟩)), (13, .slice A ls.length c), (14, .int .i64 (ls.length : Int)), (15, .int .i64 (i : Int))] ∧ w.grownBy w_ none ∧ Blk w_ gl 50 [.slice A ls.length c] ∧ Blk w_ ge 22 [.int .u64 (e : Int)] ∧ Sli t1 0 w.heap.size w_ A (fl encY ls) ∧ DeepY 5 w_ ls ∧ LpF w_ L rec ∧ wa.heap.size ≤ w_.heap.size ∧ Blk w_ g2 71 [.int .i64 z, .int .i64 (en : Int), .slice (some ⟨gb, 0, none⟩) b.length cb] ∧ World.ownsRow w_ w.heap.size 5 1 (.slice (some ⟨gb, 0, none⟩) b.length cb) b.length (fl encB b) ∧ J w_ P b en gb cb ∧ (i ≤ ls.length) ∧ (b.length = 832) ∧ (en ≤ 832) ∧ (layN e (xsOf (ls.drop i)) b P en = X) ∧ (P.length = i) ∧ ls.length - i = m_) (ls.length - 0) ?_ ?_
  · exact ⟨_, 0, (List.replicate 832 0), [], 0, g1, 832, 0, Ac_frg ⟨rfl, rfl, rfl, rfl, rfl, rfl, (agr rfl (by first | rfl | (congr 1; omega) | (congr 1; simp; done) | (congr 1; simp only [IntKind.wrap_u64, IntKind.wrap_i64, IntKind.wrap_u8]; omega) | (congr 1 <;> omega))), trivial⟩, hB, hbl, hbe, hS, hD, hL, hlt_, (by rw [List.length_replicate]; exact hb3), (by have h_ := Blk.own (sz := 1) (m := 832) hb1 (by decide) (by rw [fl_len EncB, List.length_replicate]) ge1; rw [List.length_replicate]; exact h_), (hJ _ _), (by omega), List.length_replicate, (by omega), (by rw [List.drop_zero]; exact hX0), rfl, rfl⟩
  · clear hB
    clear hbl hbe hS hD hL hJ hlt_ hb1 hb3
    rintro m_ a_ w4 ⟨σ_, i, b, P, en, gb, cb, z, rfl, hB, hbl, hbe, hS, hD, hL, hlt_, hbx, hob, hJ, hi, hbl8, hen, hX, hPl, rfl⟩
    refine C_seq (C_reg rfl ?_)
    refine L_run (R_lss rfl rfl) rfl ?_
    refine L_nil (N_then (C_seq ?_))
    refine C_if rfl (fun h1 => ?_) (fun h1 => ?_)
    · refine C_skip (N_then (C_seq (C_block (C_seq (C_reg rfl ?_)))))
      have hl1 : i < ls.length := by first | omega | (simp; omega)
      refine T_index (xs := ls) (i := i) EncY rfl rfl (by first | rfl | omega) slc50 hl1 hS rfl ?_
      intro g3 o1 ha1
      refine L_run (R_load1 rfl scl46 (ha1 0 _ rfl)) rfl ?_
      refine L_run (R_assign rfl) rfl ?_
      refine L_nil (N_then (C_seq (C_reg rfl ?_)))
      refine L_run (R_field (r := 1) rfl fld71_1 rfl) rfl ?_
      refine L_run (R_load1 rfl scl3 (hbx.cell (i := 1) rfl)) rfl ?_
      refine L_call rfl cb35 (begin_ok (n := en) (by omega)) rfl ?_
      rintro _ w5 ⟨hs4, rfl⟩
      replace hB := gb_tr hB hs4
      replace hbl := hbl.gb hs4
      replace hbe := hbe.gb hs4
      replace hS := hS.gb hs4
      replace hD := hD.gb hs4
      replace hL := hL.gb hs4
      replace hlt_ := Nat.le_trans hlt_ hs4.size
      replace hbx := hbx.gb hs4
      replace hob := own_gb hob hs4
      replace hJ := hJn _ _ _ _ _ _ _ hJ hs4
      replace ha1 := At.gb ha1 hs4 (by simp)
      refine L_run (R_assign rfl) rfl ?_
      refine L_nil (N_then (C_seq (C_reg rfl ?_)))
      refine L_run (R_load1 rfl scl22 (hbe.cell (i := 0) rfl)) rfl ?_
      refine L_run (R_field (r := 2) rfl fld71_2 rfl) rfl ?_
      refine L_run (R_load1 rfl scl46 (hbx.cell (i := 2) rfl)) rfl ?_
      refine L_run (R_move rfl) rfl ?_
      refine L_run (R_move rfl) rfl ?_
      have ge3 : w.heap.size ≤ w5.heap.size := hB.size
      by_cases h2 : (addN e b (beginN en) ((ls[i]).xs)).isSome = true
      · refine L_call rfl cb36 (iadd_y (e := e) (body := b) (a := (beginN en)) (data := (ls[i]).xs) (hT.gb hB) (own_of hob).2.2 (hD.get (i := i) (by first | assumption | omega | (simp; omega))) (hds _ (List.getElem_mem (by omega))).1 (hds _ (List.getElem_mem (by omega))).2 (beginN_le hen).2 h2) rfl ?_
        rintro _ w6 ⟨hs5, g4, c_1, rfl, ho1⟩
        replace hB := gb_tr hB hs5
        replace hbl := hbl.gb hs5
        replace hbe := hbe.gb hs5
        replace hS := hS.gb hs5
        replace hD := hD.gb hs5
        replace hL := hL.gb hs5
        replace hlt_ := Nat.le_trans hlt_ hs5.size
        replace hbx := hbx.gb hs5
        replace hob := own_gb hob hs5
        replace hJ := hJn _ _ _ _ _ _ _ hJ hs5
        replace ha1 := At.gb ha1 hs5 (by simp)
        have hlo1 : w5.heap.size ≤ w6.heap.size := hs5.size
        refine L_run (R_move rfl) rfl ?_
        refine L_run (R_extract rfl rfl) rfl ?_
        refine L_run (R_extract rfl rfl) rfl ?_
        refine L_run (R_extract rfl rfl) rfl ?_
        refine L_run (R_assign rfl) rfl ?_
        refine L_run (R_assign rfl) rfl ?_
        refine L_run (R_assign rfl) rfl ?_
        refine L_nil (N_then (C_seq (C_reg rfl ?_)))
        refine L_run (R_move rfl) rfl ?_
        refine L_run (R_move rfl) rfl ?_
        refine L_run (R_move rfl) rfl ?_
        refine L_run (R_build (pv := [(0, .int .i64 ((beginN en : Nat) : Int)), (1, .int .i64 ((cen (addN e b (beginN en) ((ls[i]).xs)) : Nat) : Int)), (2, .slice (some ⟨g4, 0, none⟩) ((aB (addN e b (beginN en) ((ls[i]).xs))).length) c_1)]) (cs := [.int .i64 ((beginN en : Nat) : Int), .int .i64 ((cen (addN e b (beginN en) ((ls[i]).xs)) : Nat) : Int), .slice (some ⟨g4, 0, none⟩) ((aB (addN e b (beginN en) ((ls[i]).xs))).length) c_1]) rfl (by kernel_rfl)) rfl ?_
        refine L_stA (vs := [.int .i64 ((beginN en : Nat) : Int), .int .i64 ((cen (addN e b (beginN en) ((ls[i]).xs)) : Nat) : Int), .slice (some ⟨g4, 0, none⟩) ((aB (addN e b (beginN en) ((ls[i]).xs))).length) c_1]) rfl rfl rfl sz71 rfl hbx rfl ?_
        intro w7 hb4 hs6 hz4
        replace hB := gb_trg hB hs6 ge2
        replace hbl := hbl.grown hs6 (ne_lt lt3)
        replace hbe := hbe.grown hs6 (ne_lt lt4)
        replace hS := hS.old hs6 ge2
        replace hD := hD.other hbx rfl rfl hs6
        replace hL := hL.blk hbx hs6
        replace hlt_ := Nat.le_trans hlt_ hs6.size
        replace hob := own_other hob hbx rfl hs6
        replace hJ := hJa _ _ _ _ _ _ _ _ _ hJ hbx (by omega) hs6
        replace ho1 := own_other ho1 hbx rfl hs6
        replace hlo1 := Nat.le_trans hlo1 hs6.size
        refine L_nil (N_then (C_seq (C_reg rfl ?_)))
        refine L_run (R_move rfl) rfl ?_
        refine L_run (R_loadA (vs := [.int .i64 ((beginN en : Nat) : Int), .int .i64 ((cen (addN e b (beginN en) ((ls[i]).xs)) : Nat) : Int), .slice (some ⟨g4, 0, none⟩) ((aB (addN e b (beginN en) ((ls[i]).xs))).length) c_1]) rfl agg71 (At.pre (hb4.at_ 0) rfl) rfl) rfl ?_
        have hbg := beginN_le hen
        refine L_yield rfl rfl (hyY _ P b (aB (addN e b (beginN en) ((ls[i]).xs))) en (cen (addN e b (beginN en) ((ls[i]).xs))) gb g4 cb c_1 _ hB hL hJ ⟨hbl, hbe, hS, hD⟩ hgx_ hb4 (own_lo ho1 ge3) (addN_ok hbg.2 h2).1 (by omega)) rfl ?_
        rintro v9 w9 ⟨rfl, hB, ⟨hbl, hbe, hS, hD⟩, hL, hJ, hbx, hob⟩
        have hlt_ : wa.heap.size ≤ w9.heap.size := Nat.le_trans hgx_ (Nat.le_of_lt hbx.lt)
        refine L_run (R_not rfl) rfl ?_
        refine L_run (R_move rfl) rfl ?_
        refine L_yes rfl rfl rfl rfl ?_
        refine L_run (R_move rfl) rfl ?_
        refine L_yes rfl rfl rfl rfl ?_
        refine L_run (R_not rfl) rfl ?_
        refine L_run (R_pickF rfl rfl rfl) rfl ?_
        refine L_nil (N_then (C_condF rfl rfl (C_skip (N_in (N_then (C_reg rfl ?_))))))
        refine L_run (R_add64 rfl rfl (by omega)) rfl ?_
        refine L_run (R_move rfl) rfl ?_
        refine L_nil (N_then ?_)
        have hok := addN_ok hbg.2 h2
        exact ⟨ls.length - (i + 1), by omega, _, (i + 1), aB (addN e b (beginN en) ((ls[i]).xs)), (P ++ [((beginN en : Nat) : Int)]), (cen (addN e b (beginN en) ((ls[i]).xs))), g4, c_1, ((beginN en : Nat) : Int), Ac_frg ⟨rfl, rfl, rfl, rfl, rfl, rfl, (agr rfl (by first | rfl | (congr 1; omega) | (congr 1; simp; done) | (congr 1; simp only [IntKind.wrap_u64, IntKind.wrap_i64, IntKind.wrap_u8]; omega) | (congr 1 <;> omega))), trivial⟩, hB, hbl, hbe, hS, hD, hL, hlt_, hbx, hob, hJ, (by omega), hok.1, hok.2, (by rw [← hX, map_drop (i := i) (by omega), lay_go' h2]), (by simp only [List.length_append, List.length_cons, List.length_nil]; omega), rfl⟩
      · refine L_call rfl cb36 (iadd_n (e := e) (body := b) (a := (beginN en)) (data := (ls[i]).xs) (hT.gb hB) (own_of hob).2.2 (hD.get (i := i) (by first | assumption | omega | (simp; omega))) (hds _ (List.getElem_mem (by omega))).1 (hds _ (List.getElem_mem (by omega))).2 (beginN_le hen).2 h2) rfl ?_
        rintro _ w8 ⟨hs7, rfl⟩
        replace hB := gb_tr hB hs7
        replace hbl := hbl.gb hs7
        replace hbe := hbe.gb hs7
        replace hS := hS.gb hs7
        replace hD := hD.gb hs7
        replace hL := hL.gb hs7
        replace hlt_ := Nat.le_trans hlt_ hs7.size
        replace hbx := hbx.gb hs7
        replace hob := own_gb hob hs7
        replace hJ := hJn _ _ _ _ _ _ _ hJ hs7
        replace ha1 := At.gb ha1 hs7 (by simp)
        refine L_run (R_move rfl) rfl ?_
        refine L_run (R_extract rfl rfl) rfl ?_
        refine L_run (R_extract rfl rfl) rfl ?_
        refine L_run (R_extract rfl rfl) rfl ?_
        refine L_run (R_assign rfl) rfl ?_
        refine L_run (R_assign rfl) rfl ?_
        refine L_run (R_assign rfl) rfl ?_
        refine L_nil (N_then (C_seq (C_reg rfl ?_)))
        refine L_run (R_move rfl) rfl ?_
        refine L_run (R_move rfl) rfl ?_
        refine L_run (R_move rfl) rfl ?_
        refine L_run (R_build (pv := [(0, .int .i64 ((beginN en : Nat) : Int)), (1, .int .i64 0), (2, .slice none 0 0)]) (cs := [.int .i64 ((beginN en : Nat) : Int), .int .i64 0, .slice none 0 0]) rfl (by kernel_rfl)) rfl ?_
        refine L_stA (vs := [.int .i64 ((beginN en : Nat) : Int), .int .i64 0, .slice none 0 0]) rfl rfl rfl sz71 rfl hbx rfl ?_
        intro w9 hb5 hs8 hz5
        replace hB := gb_trg hB hs8 ge2
        replace hbl := hbl.grown hs8 (ne_lt lt3)
        replace hbe := hbe.grown hs8 (ne_lt lt4)
        replace hS := hS.old hs8 ge2
        replace hD := hD.other hbx rfl rfl hs8
        replace hL := hL.blk hbx hs8
        replace hlt_ := Nat.le_trans hlt_ hs8.size
        replace hob := own_other hob hbx rfl hs8
        replace hJ := hJa _ _ _ _ _ _ _ _ _ hJ hbx (by omega) hs8
        refine L_nil (N_then (C_seq (C_reg rfl ?_)))
        refine L_run (R_move rfl) rfl ?_
        refine L_run (R_loadA (vs := [.int .i64 ((beginN en : Nat) : Int), .int .i64 0, .slice none 0 0]) rfl agg71 (At.pre (hb5.at_ 0) rfl) rfl) rfl ?_
        have hbg := beginN_le hen
        refine L_yield rfl rfl (hyN _ P b en gb cb hB hL hJ) rfl ?_
        rintro v9 w9 ⟨rfl, hB, hSt⟩
        refine L_run (R_not rfl) rfl ?_
        refine L_run (R_move rfl) rfl ?_
        refine L_split (!vb) (fun h3 => ?_) (fun h3 => ?_)
        · refine L_no rfl rfl rfl h3 rfl ?_
          refine L_no rfl rfl rfl h3 rfl ?_
          refine L_run (R_pickT rfl h3 rfl) rfl ?_
          refine L_nil (N_then (C_condT rfl rfl (C_ret (R_in (R_then (R_then (R_in ?_)))))))
          refine ret0 Tryd.results34 ?_
          exact ⟨hB, .inr ⟨by rw [← hX, map_drop (i := i) (by omega), lay_no' h2], hSt⟩⟩
        · refine L_yes rfl rfl rfl h3 ?_
          refine L_run (R_move rfl) rfl ?_
          refine L_yes rfl rfl rfl h3 ?_
          refine L_run (R_not rfl) rfl ?_
          refine L_run (R_pickF rfl h3 rfl) rfl ?_
          refine L_nil (N_then (C_condT rfl rfl (C_ret (R_in (R_then (R_then (R_in ?_)))))))
          refine ret0 Tryd.results34 ?_
          exact ⟨hB, .inr ⟨by rw [← hX, map_drop (i := i) (by omega), lay_no' h2], hSt⟩⟩
    · refine C_exit (X_then (X_then (X_hit ?_)))
      refine end0 Tryd.results34 ?_
      exact ⟨hB, .inl ⟨b, P, en, gb, cb, by rw [← hX, List.drop_of_length_le (by omega)]; rfl, hL, hJ, hob⟩⟩

end Go.Proofs.YtbpjdcpfphnccaaDoor
