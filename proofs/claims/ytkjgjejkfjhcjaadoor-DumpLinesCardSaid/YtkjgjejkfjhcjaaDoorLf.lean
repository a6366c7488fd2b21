/-
  Contracts of files as text: of a name that is no segment's.
-/
import Derived.Test.YtkjgjejkfjhcjaaDoorLe
import Derived.Test.YtkjgjejkfjhcjaaDoorGu
namespace Go.Proofs.YtkjgjejkfjhcjaaDoor
open Go.RowKit Gw Pl
set_option linter.unusedVariables false
set_option linter.unusedSimpArgs false
theorem agg28 : aggB Tryd.prog 28 2 = true := by kernel_rfl
theorem cb23 : callB Tryd.prog 23 = true := by kernel_rfl
theorem cb26 : callB Tryd.prog 26 = true := by kernel_rfl
theorem cb27 : callB Tryd.prog 27 = true := by kernel_rfl
theorem cb8 : callB Tryd.prog 8 = true := by kernel_rfl
theorem cb9 : callB Tryd.prog 9 = true := by kernel_rfl
theorem fld28_0 : fldB Tryd.prog 28 0 0 = true := by kernel_rfl
theorem fld28_1 : fldB Tryd.prog 28 1 1 = true := by kernel_rfl
theorem scl26 : sclB Tryd.prog 26 = true := by kernel_rfl
theorem slc22 : slcB Tryd.prog 22 28 2 40 = true := by kernel_rfl
theorem slc26 : slcB Tryd.prog 26 50 64 64 = true := by kernel_rfl
theorem sz28 : szB Tryd.prog 28 2 = true := by kernel_rfl
theorem zer28 : (Tryd.prog.info? 28).bind (·.zero) = some (.agg #[.string (⟨#[]⟩), .slice none 0 0]) := by kernel_rfl
theorem zer50 : (Tryd.prog.info? 50).bind (·.zero) = some (.agg #[.int .u8 0, .int .u8 0, .int .u8 0, .int .u8 0, .int .u8 0, .int .u8 0, .int .u8 0, .int .u8 0, .int .u8 0, .int .u8 0, .int .u8 0, .int .u8 0, .int .u8 0, .int .u8 0, .int .u8 0, .int .u8 0, .int .u8 0, .int .u8 0, .int .u8 0, .int .u8 0, .int .u8 0, .int .u8 0, .int .u8 0, .int .u8 0, .int .u8 0, .int .u8 0, .int .u8 0, .int .u8 0, .int .u8 0, .int .u8 0, .int .u8 0, .int .u8 0, .int .u8 0, .int .u8 0, .int .u8 0, .int .u8 0, .int .u8 0, .int .u8 0, .int .u8 0, .int .u8 0, .int .u8 0, .int .u8 0, .int .u8 0, .int .u8 0, .int .u8 0, .int .u8 0, .int .u8 0, .int .u8 0, .int .u8 0, .int .u8 0, .int .u8 0, .int .u8 0, .int .u8 0, .int .u8 0, .int .u8 0, .int .u8 0, .int .u8 0, .int .u8 0, .int .u8 0, .int .u8 0, .int .u8 0, .int .u8 0, .int .u8 0, .int .u8 0]) := by kernel_rfl
theorem zer64 : (Tryd.prog.info? 64).bind (·.zero) = some (.agg #[.pointer none, .slice none 0 0]) := by kernel_rfl
structure FilD where
  name : List UInt8
  a : Option Addr
  c : Nat
  ss : List Sx
def encF (f : FilD) : List Value := [.string ⟨f.name.toArray⟩, .slice f.a f.ss.length f.c]
theorem EncF : Enc encF 2 := ⟨fun _ => rfl, fun _ => rfl⟩
def Sx.z : Sx := ⟨List.replicate 64 0, List.length_replicate⟩
/-- A file's text: its own line, the lines of what it has. -/
def fileT (name : List UInt8) (n : Nat) (segs : List (List UInt8)) : List UInt8 := Go.Lib.join (Go.Lib.join [([102, 105, 108, 101] : List UInt8), name, digI (n : Int)] [32] :: segs) [10] ++ [10]
theorem fline_len {name : List UInt8} {n : Nat} (hn : n ≤ 1000000) : (Go.Lib.join [([102, 105, 108, 101] : List UInt8), name, digI (n : Int)] [32]).length ≤ name.length + 26 := by
  have h := digI_len (n := (n : Int)) (by omega)
  simp only [jn2, jn1, List.length_append, List.length_cons, List.length_nil]
  omega
theorem fileT0_len {name : List UInt8} {n : Nat} (hn : n ≤ 1000000) : (fileT name n []).length ≤ name.length + 27 := by
  have h := fline_len (name := name) hn
  unfold fileT
  rw [jn1, List.length_append, List.length_singleton]
  omega
theorem fileT_ex : fileT [97] 1 [] = [102, 105, 108, 101, 32, 97, 32, 49, 10] := by
  unfold fileT
  rw [jn1, digI_nat, dig_lt (by decide)]
  rfl
/-- Files' text. -/
def textT (F : FilD → List UInt8) (fs : List FilD) : List UInt8 := fs.flatMap F
theorem textT_succ {F : FilD → List UInt8} {fs : List FilD} {i : Nat} (h : i < fs.length) : textT F (fs.take (i + 1)) = textT F (fs.take i) ++ F fs[i] := by
  unfold textT
  rw [List.take_succ_eq_append_getElem h, List.flatMap_append]
  simp
theorem textT_len {F : FilD → List UInt8} {fs : List FilD} {k : Nat} (h : ∀ f ∈ fs, (F f).length ≤ k) : ∀ i, (textT F (fs.take i)).length ≤ k * i
  | 0 => by simp [textT]
  | i + 1 => by
    have ih := textT_len h i
    rcases Nat.lt_or_ge i fs.length with h1 | h1
    · rw [textT_succ h1, List.length_append, Nat.mul_succ]
      have := h _ (List.getElem_mem h1)
      omega
    · rw [List.take_of_length_le (by omega)] at ih ⊢
      rw [Nat.mul_succ]; omega
theorem file0_ok {w : World} {A : Option Addr} {c n : Nat} {cs : List UInt8} (hcs : cs.length ≤ 100000) (hn : n ≤ 1000000) (hk : ¬ (nparse cs).1 = 1) :
    Runs Tryd.prog 8 #[.agg #[.string (⟨cs.toArray⟩), .slice A n c]] w (fun v w' => w.grownBy w' none ∧ v = .string ⟨(fileT cs n []).toArray⟩) := by
  have hB := gb_refl w none
  refine enter Tryd.func8 Tryd.ntmps8 rfl rfl ?_
  refine C_seq (C_reg rfl ?_)
  refine L_box (cs := [.string (⟨cs.toArray⟩), .slice A n c]) rfl rfl rfl ?_
  intro g1 w1 eg1 hb1 hs1 hz1
  have ge1 : w.heap.size ≤ g1 := eg_ge hB eg1
  replace hB := gb_tr hB hs1
  refine L_run (R_assign rfl) rfl ?_
  refine L_nil (N_then (C_seq ?_))
  refine C_draw2 rfl mix ?_
  intro w2 hs2 hz2
  replace hB := gb_tr hB hs2
  replace hb1 := hb1.gb hs2
  refine ⟨fun W_ => Blk W_ g1 28 [.string (⟨cs.toArray⟩), .slice A n c] ∧ True, [0, 1, 2, 3, 4, 9], ?_⟩
  refine T_takeA (i := 0) rfl (by kernel_rfl) (by kernel_rfl) (by kernel_rfl) (by kernel_rfl) (Y_of (fun _ ⟨hb1, _⟩ => R_field (r := 0) rfl fld28_0 rfl)) ⟨hb1, trivial⟩ rfl ?_
  refine T_takeA (i := 1) rfl (by kernel_rfl) (by kernel_rfl) (by kernel_rfl) (by kernel_rfl) (Y_of (fun _ ⟨hb1, _⟩ => R_load1 rfl scl9 (hb1.cell (i := 0) rfl))) ⟨hb1, trivial⟩ rfl ?_
  refine T_takeA (i := 2) rfl (by kernel_rfl) (by kernel_rfl) (by kernel_rfl) (by kernel_rfl) (Y_of (fun _ ⟨hb1, _⟩ => R_field (r := 1) rfl fld28_1 rfl)) ⟨hb1, trivial⟩ rfl ?_
  refine T_takeA (i := 3) rfl (by kernel_rfl) (by kernel_rfl) (by kernel_rfl) (by kernel_rfl) (Y_of (fun _ ⟨hb1, _⟩ => R_load1 rfl scl26 (hb1.cell (i := 1) rfl))) ⟨hb1, trivial⟩ rfl ?_
  refine T_takeA (i := 4) rfl (by kernel_rfl) (by kernel_rfl) (by kernel_rfl) (by kernel_rfl) (Y_of (fun _ ⟨hb1, _⟩ => R_lenSl rfl slc26)) ⟨hb1, trivial⟩ rfl ?_
  refine T_all (rs := [5]) (by kernel_rfl) rfl (all1 (O_one rfl ?_))
  refine L_call rfl cb22 (name_Digits (n := (n : Int)) (by omega)) rfl ?_
  rintro _ w3 ⟨hs3, rfl⟩
  replace hB := gb_tr hB hs3
  replace hb1 := hb1.gb hs3
  refine L_nil (N_then ⟨fun hN_ => ⟨hb1, trivial⟩, ?_⟩)
  refine T_all (rs := [6]) (by kernel_rfl) rfl (all1 (O_one rfl ?_))
  refine L_buildSlice (pv := [(0, .string (⟨#[102, 105, 108, 101]⟩)), (1, .string (⟨cs.toArray⟩)), (2, .string (⟨(digI (n : Int)).toArray⟩))]) (cs := [.string (⟨#[102, 105, 108, 101]⟩), .string (⟨cs.toArray⟩), .string (⟨(digI (n : Int)).toArray⟩)]) slc59 zer9 rfl rfl (by kernel_rfl) rfl ?_
  intro g2 w4 eg2 hb2 hs4 hz3
  have ge2 : w.heap.size ≤ g2 := eg_ge hB eg2
  have lt1 : g1 < g2 := lt_of_eg hb1.lt eg2
  replace hB := gb_tr hB hs4
  replace hb1 := hb1.gb hs4
  refine L_nil (N_then ⟨fun hN_ => ⟨hb1, trivial⟩, ?_⟩)
  refine T_all (rs := [7]) (by kernel_rfl) rfl (all1 (O_one rfl ?_))
  have hjl_ := (show (Go.Lib.join ([([102, 105, 108, 101] : List UInt8), cs, (digI (n : Int))]) [32]).length ≤ 140737488355328 from Nat.le_trans (fline_len hn) (by omega))
  refine L_call rfl cb21 (line_ok (xs := [([102, 105, 108, 101] : List UInt8), cs, (digI (n : Int))]) (Blk.sli (m := 0) hb2) (by simp) (by simp) hjl_) rfl ?_
  rintro _ w5 ⟨hs5, rfl⟩
  replace hB := gb_tr hB hs5
  replace hb1 := hb1.gb hs5
  replace hb2 := hb2.gb hs5
  refine L_nil (N_then ⟨fun hN_ => ⟨hb1, trivial⟩, ?_⟩)
  refine T_all (rs := [8]) (by kernel_rfl) rfl (all1 (O_one rfl ?_))
  refine L_buildSlice (pv := [(0, .string (⟨(Go.Lib.join ([([102, 105, 108, 101] : List UInt8), cs, (digI (n : Int))]) [32]).toArray⟩))]) (cs := [.string (⟨(Go.Lib.join ([([102, 105, 108, 101] : List UInt8), cs, (digI (n : Int))]) [32]).toArray⟩)]) slc59 zer9 rfl rfl (by kernel_rfl) rfl ?_
  intro g3 w6 eg3 hb3 hs6 hz4
  have ge3 : w.heap.size ≤ g3 := eg_ge hB eg3
  have lt2 : g1 < g3 := lt_of_eg hb1.lt eg3
  have lt3 : g2 < g3 := lt_of_eg hb2.lt eg3
  replace hB := gb_tr hB hs6
  replace hb1 := hb1.gb hs6
  replace hb2 := hb2.gb hs6
  refine L_nil (N_then ⟨fun hN_ => ⟨hb1, trivial⟩, ?_⟩)
  refine T_takeA (i := 9) rfl (by kernel_rfl) (by kernel_rfl) (by kernel_rfl) (by kernel_rfl) (Y_of (fun _ ⟨hb1, _⟩ => R_assign rfl)) ⟨hb1, trivial⟩ rfl ?_
  refine T_done (by kernel_rfl) (CalmE.normal ?_)
  refine N_then (C_seq (C_seq (C_reg rfl ?_)))
  refine L_run (R_field (r := 0) rfl fld28_0 rfl) rfl ?_
  refine L_run (R_load1 rfl scl9 (hb1.cell (i := 0) rfl)) rfl ?_
  refine L_call rfl cb23 (name_Parse (cs := cs) (by omega)) rfl ?_
  rintro _ w7 ⟨hs7, rfl⟩
  replace hB := gb_tr hB hs7
  replace hb1 := hb1.gb hs7
  replace hb2 := hb2.gb hs7
  replace hb3 := hb3.gb hs7
  refine L_run (R_move rfl) rfl ?_
  refine L_run (R_extract rfl rfl) rfl ?_
  refine L_run (R_extract rfl rfl) rfl ?_
  refine L_run (R_assign rfl) rfl ?_
  refine L_run (R_assign rfl) rfl ?_
  refine L_nil (N_then (C_seq (C_reg rfl ?_)))
  refine L_run (R_move rfl) rfl ?_
  refine L_run (R_eql rfl rfl) rfl ?_
  refine L_nil (N_then (C_condF rfl (decide_eq_false hk) (C_skip (N_then (C_seq (C_reg rfl ?_))))))
  refine L_run (R_move rfl) rfl ?_
  have hjl_ := (show (Go.Lib.join ([(Go.Lib.join ([([102, 105, 108, 101] : List UInt8), cs, (digI (n : Int))]) [32])]) ([10] : List UInt8)).length ≤ 140737488355328 from by rw [jn1]; exact Nat.le_trans (fline_len hn) (by omega))
  refine L_call rfl cb25 (join_ok (xs := [(Go.Lib.join ([([102, 105, 108, 101] : List UInt8), cs, (digI (n : Int))]) [32])]) (sep := ([10] : List UInt8)) (Blk.sli (m := 0) hb3) (by simp) (by simp) hjl_) rfl ?_
  rintro _ w8 ⟨hs8, rfl⟩
  replace hB := gb_tr hB hs8
  replace hb1 := hb1.gb hs8
  replace hb2 := hb2.gb hs8
  replace hb3 := hb3.gb hs8
  refine L_run (R_eqv (R_addS rfl rfl (by rw [ba_size, ba_size, jn1]; have h_ := fline_len (name := cs) hn; simp only [List.length_cons, List.length_nil]; omega)) (v' := .string ⟨((Go.Lib.join ([(Go.Lib.join ([([102, 105, 108, 101] : List UInt8), cs, (digI (n : Int))]) [32])]) ([10] : List UInt8)) ++ [10]).toArray⟩) (congrArg _ (ba_app _ _).symm)) rfl ?_
  refine L_run (R_assign rfl) rfl ?_
  refine L_nil (N_then (C_ret ?_))
  refine ret1 Tryd.results8 rfl ?_
  exact ⟨hB, rfl⟩

theorem text0_ok {w : World} {t1 lo hi : Nat} {A : Option Addr} {c : Nat} {fs : List FilD} (hS : Sli t1 lo hi w A (fl encF fs)) (hfl : fs.length ≤ 1000) (hok : ∀ f ∈ fs, f.name.length ≤ 100000 ∧ f.ss.length ≤ 1000000 ∧ ¬ (nparse f.name).1 = 1) :
    Runs Tryd.prog 9 #[.slice A fs.length c] w (fun v w' => w.grownBy w' none ∧ v = .string ⟨(textT (fun f => fileT f.name f.ss.length []) fs).toArray⟩) := by
  have hB := gb_refl w none
  have hlens : ∀ f ∈ fs, ((fun f => fileT f.name f.ss.length []) f).length ≤ 200000 := (fun f hf => Nat.le_trans (fileT0_len (hok f hf).2.1) (by have h_ := (hok f hf).1; omega))
  replace hS := hS.top
  refine enter Tryd.func9 Tryd.ntmps9 rfl rfl ?_
  refine C_seq (C_reg rfl ?_)
  refine L_run (R_assign rfl) rfl ?_
  refine L_nil (N_then (C_seq (C_reg rfl ?_)))
  refine L_alloc (cs := [.pointer none, .slice none 0 0]) zer64 rfl rfl ?_
  intro g1 w1 eg1 hb1 hs1 hz1
  have ge1 : w.heap.size ≤ g1 := eg_ge hB eg1
  replace hB := gb_tr hB hs1
  replace hS := hS.gb hs1
  refine L_nil (N_then (C_seq (C_seq (C_reg rfl ?_))))
  refine L_run (R_move rfl) rfl ?_
  refine L_run (R_lenSl rfl slc22) rfl ?_
  refine L_run (R_move rfl) rfl ?_
  refine L_nil (N_then (C_block ?_))
  have hbd0_ := BldF.fresh w.heap.size hb1 ge1 hB.size
  refine C_loop (fun m_ a_ w_ => ∃ (σ_ : Nat → Value) (i : Nat), a_ = Ac 17 σ_ [] [(3, .pointer (some ⟨g1, 0, none⟩)), (6, .slice A fs.length c), (7, .int .i64 (fs.length : Int)), (8, .int .i64 (i : Int))] ∧ w.grownBy w_ none ∧ Sli t1 lo w.heap.size w_ A (fl encF fs) ∧ BldF w_ w.heap.size g1 (textT (fun f => fileT f.name f.ss.length []) (fs.take i)) ∧ (i ≤ fs.length) ∧ fs.length - i = m_) (fs.length - 0) ?_ ?_
  · exact ⟨_, 0, Ac_frg ⟨rfl, rfl, rfl, (agr rfl (by first | rfl | (congr 1; omega) | (congr 1; simp; done) | (congr 1; simp only [IntKind.wrap_u64, IntKind.wrap_i64, IntKind.wrap_u8]; omega) | (congr 1 <;> omega))), trivial⟩, hB, hS, hbd0_, (by omega), rfl⟩
  · clear hB
    clear hS hb1
    rintro m_ a_ w2 ⟨σ_, i, rfl, hB, hS, hbd, hi, rfl⟩
    refine C_seq (C_reg rfl ?_)
    refine L_run (R_lss rfl rfl) rfl ?_
    refine L_nil (N_then (C_seq ?_))
    refine C_if rfl (fun h1 => ?_) (fun h1 => ?_)
    · refine C_skip (N_then (C_seq (C_block (C_seq (C_reg rfl ?_)))))
      have hlk : i < fs.length := by first | omega | (simp; omega)
      refine T_index (xs := fs) (i := i) EncF rfl rfl (by first | rfl | omega) slc22 hlk hS rfl ?_
      intro g2 o1 ha1
      refine L_run (R_loadA (vs := [.string (⟨((fs[i]).name).toArray⟩), .slice ((fs[i]).a) ((fs[i]).ss.length) ((fs[i]).c)]) rfl agg28 (At.pre ha1 rfl) rfl) rfl ?_
      refine L_alloc (cs := [.string (⟨#[]⟩), .slice none 0 0]) zer28 rfl rfl ?_
      intro g3 w3 eg2 hb2 hs2 hz2
      have ge2 : w.heap.size ≤ g3 := eg_ge hB eg2
      replace hB := gb_tr hB hs2
      replace hS := hS.gb hs2
      replace hbd := hbd.gb hs2
      replace ha1 := At.gb ha1 hs2 (by simp)
      refine L_stA (vs := [.string (⟨((fs[i]).name).toArray⟩), .slice ((fs[i]).a) ((fs[i]).ss.length) ((fs[i]).c)]) rfl rfl rfl sz28 rfl hb2 rfl ?_
      intro w4 hb3 hs3 hz3
      replace hB := gb_trg hB hs3 ge2
      replace hS := hS.old hs3 ge2
      replace hbd := hbd.other hb2 rfl rfl hs3
      refine L_nil (N_then (C_reg rfl ?_))
      refine L_run (R_loadA (vs := [.string (⟨((fs[i]).name).toArray⟩), .slice ((fs[i]).a) ((fs[i]).ss.length) ((fs[i]).c)]) rfl agg28 (At.pre (hb3.at_ 0) rfl) rfl) rfl ?_
      refine L_call rfl cb8 (file0_ok (cs := ((fs[i]).name)) (n := (fs[i]).ss.length) (hok _ (List.getElem_mem hlk)).1 (hok _ (List.getElem_mem hlk)).2.1 (hok _ (List.getElem_mem hlk)).2.2) rfl ?_
      rintro _ w5 ⟨hs4, rfl⟩
      replace hB := gb_tr hB hs4
      replace hS := hS.gb hs4
      replace hbd := hbd.gb hs4
      replace hb3 := hb3.gb hs4
      have hwl_ := (show (textT (fun f => fileT f.name f.ss.length []) (fs.take i)).length + ((fun f => fileT f.name f.ss.length []) fs[i]).length ≤ 140737488355328 from by have h1_ := textT_len hlens i; have h2_ := hlens _ (List.getElem_mem hlk); omega)
      refine L_call rfl cb26 (wstr_ok (b := g1) (l := (textT (fun f => fileT f.name f.ss.length []) (fs.take i))) (x := (fileT ((fs[i]).name) ((fs[i]).ss.length) [])) hbd hwl_) rfl ?_
      rintro _ w6 ⟨hs5, rfl, hbd1⟩
      replace hB := below_gb ((gb_below hB).trans hs5)
      replace hS := hS.below (Nat.le_refl _) hs5
      refine L_nil (N_in (N_then (C_reg rfl ?_)))
      refine L_run (R_add64 rfl rfl (by omega)) rfl ?_
      refine L_run (R_move rfl) rfl ?_
      refine L_nil (N_then ?_)
      have hts_ := textT_succ (F := (fun f => fileT f.name f.ss.length [])) hlk
      exact ⟨fs.length - (i + 1), by omega, _, (i + 1), Ac_frg ⟨rfl, rfl, rfl, (agr rfl (by first | rfl | (congr 1; omega) | (congr 1; simp; done) | (congr 1; simp only [IntKind.wrap_u64, IntKind.wrap_i64, IntKind.wrap_u8]; omega) | (congr 1 <;> omega))), trivial⟩, hB, hS, (by rw [hts_]; exact hbd1), (by omega), rfl⟩
    · refine C_exit (X_then (X_then (X_hit (N_then (C_seq (C_reg rfl ?_))))))
      refine L_call rfl cb27 (bstr_ok (b := g1) (l := (textT (fun f => fileT f.name f.ss.length []) (fs.take i))) hbd) rfl ?_
      rintro _ w7 ⟨hs6, rfl⟩
      replace hB := below_gb ((gb_below hB).trans hs6)
      replace hS := hS.below (Nat.le_refl _) hs6
      refine L_run (R_assign rfl) rfl ?_
      refine L_nil (N_then (C_ret ?_))
      refine ret1 Tryd.results9 rfl ?_
      rw [List.take_of_length_le (by omega)]; exact ⟨hB, rfl⟩

theorem nparse_a : nparse [97] = (0, 0) := by
  refine npar_0 (fun h => ?_) (fun h => ?_) <;> exact absurd h.1 (by decide)
theorem awake48 {w : World} :
    Runs Tryd.prog 6 #[] w (fun v w' => w.grownBy w' none ∧ v = .bool true) := by
  have hB := gb_refl w none
  refine enter Tryd.func6 Tryd.ntmps6 rfl rfl ?_
  refine C_seq (C_reg rfl ?_)
  refine L_run (R_assign rfl) rfl ?_
  refine L_nil (N_then (C_seq (C_reg rfl ?_)))
  refine L_make (enc := encX) (m := 1) (x0 := Sx.z) slc26 zer50 rfl rfl rfl EncX (by omega) (by omega) rfl ?_
  intro g1 w1 eg1 hb1 hs1 hz1
  have ge1 : w.heap.size ≤ g1 := eg_ge hB eg1
  replace hB := gb_tr hB hs1
  refine L_run (R_build (pv := [(0, .string (⟨#[97]⟩)), (1, .slice (some ⟨g1, 0, none⟩) 1 1)]) (cs := [.string (⟨#[97]⟩), .slice (some ⟨g1, 0, none⟩) 1 1]) rfl (by kernel_rfl)) rfl ?_
  refine L_buildSlice (pv := [(0, .agg #[.string (⟨#[97]⟩), .slice (some ⟨g1, 0, none⟩) 1 1])]) (cs := [.string (⟨#[97]⟩), .slice (some ⟨g1, 0, none⟩) 1 1]) slc22 zer28 rfl rfl (by kernel_rfl) rfl ?_
  intro g2 w2 eg2 hb2 hs2 hz2
  have ge2 : w.heap.size ≤ g2 := eg_ge hB eg2
  have lt1 : g1 < g2 := lt_of_eg hb1.lt eg2
  replace hB := gb_tr hB hs2
  replace hb1 := hb1.gb hs2
  refine L_call rfl cb9 (text0_ok (fs := [(⟨([97] : List UInt8), some ⟨g1, 0, none⟩, 1, (List.replicate 1 Sx.z)⟩ : FilD)]) (Blk.sli (m := 0) hb2) (by simp) (fun f hf => by rw [List.mem_singleton] at hf; subst hf; exact ⟨by simp, by simp, by show ¬ (nparse [97]).1 = 1; rw [nparse_a]; decide⟩)) rfl ?_
  rintro _ w3 ⟨hs3, rfl⟩
  replace hB := gb_tr hB hs3
  replace hb1 := hb1.gb hs3
  replace hb2 := hb2.gb hs3
  refine L_run (R_eqv (R_eqv (R_eqlS rfl rfl) (v' := .bool (decide ((textT (fun f => fileT f.name f.ss.length []) ([(⟨([97] : List UInt8), some ⟨g1, 0, none⟩, 1, (List.replicate 1 Sx.z)⟩ : FilD)])) = [102, 105, 108, 101, 32, 97, 32, 49, 10]))) (bD ba_inj)) (v' := .bool true) (bT' (show textT (fun f => fileT f.name f.ss.length []) [_] = _ from (List.append_nil _).trans fileT_ex))) rfl ?_
  refine L_run (R_assign rfl) rfl ?_
  refine L_nil (N_then (C_ret ?_))
  refine ret1 Tryd.results6 rfl ?_
  exact ⟨hB, rfl⟩

end Go.Proofs.YtkjgjejkfjhcjaaDoor
