/-
  Contracts of the package fsck and of its reference: names of codes, whether findings are corrupt.
-/
import Derived.Test.YtbeafehpjjojnaaDoorRows
import Derived.Test.YtbeafehpjjojnaaDoorVq
import Derived.Test.YtbeafehpjjojnaaDoorVf
import Derived.Test.YtbeafehpjjojnaaDoorEl
namespace Go.Proofs.YtbeafehpjjojnaaDoor
open Go.RowKit Gw Pl
set_option linter.unusedVariables false
set_option linter.unusedSimpArgs false
theorem agg26 : aggB Tryd.prog 26 2 = true := by kernel_rfl
theorem agg27 : aggB Tryd.prog 27 2 = true := by kernel_rfl
theorem boo4 : Tryd.prog.underlying 4 = some .bool := by kernel_rfl
theorem cb16 : callB Tryd.prog 16 = true := by kernel_rfl
theorem cb17 : callB Tryd.prog 17 = true := by kernel_rfl
theorem cb41 : callB Tryd.prog 41 = true := by kernel_rfl
theorem cb42 : callB Tryd.prog 42 = true := by kernel_rfl
theorem cb5 : callB Tryd.prog 5 = true := by kernel_rfl
theorem cb6 : callB Tryd.prog 6 = true := by kernel_rfl
theorem cb7 : callB Tryd.prog 7 = true := by kernel_rfl
theorem cb73 : callB Tryd.prog 73 = true := by kernel_rfl
theorem cb8 : callB Tryd.prog 8 = true := by kernel_rfl
theorem fld26_1 : fldB Tryd.prog 26 1 1 = true := by kernel_rfl
theorem fld27_1 : fldB Tryd.prog 27 1 1 = true := by kernel_rfl
theorem scl3 : sclB Tryd.prog 3 = true := by kernel_rfl
theorem scl48 : sclB Tryd.prog 48 = true := by kernel_rfl
theorem scl9 : sclB Tryd.prog 9 = true := by kernel_rfl
theorem slc22 : slcB Tryd.prog 22 27 2 24 = true := by kernel_rfl
theorem slc24 : slcB Tryd.prog 24 26 2 24 = true := by kernel_rfl
theorem slc28 : slcB Tryd.prog 28 9 1 16 = true := by kernel_rfl
theorem zer26 : (Tryd.prog.info? 26).bind (·.zero) = some (.agg #[.string (⟨#[]⟩), .int .i64 0]) := by kernel_rfl
theorem zer9 : (Tryd.prog.info? 9).bind (·.zero) = some (.string (⟨#[]⟩)) := by kernel_rfl
set_option maxRecDepth 100000 in
theorem awake49 {w : World} : Runs Tryd.prog 5 #[] w (fun v w' => w.grownBy w' none ∧ v = .bool true) :=
  Ev.closed (drw := Ev.nod) (mu := Ev.nomu) (fuel := 100000) (d := 60) (xs := []) (fun _ n rec _ => Ev.nod_ok n rec) (by kernel_rfl)

set_option maxRecDepth 100000 in
theorem fname1 {w : World} : Runs Tryd.prog 6 #[.int .i64 1] w (fun v w' => w.grownBy w' none ∧ v = .string ⟨#[115, 105, 122, 101]⟩) :=
  Ev.closed (drw := Ev.nod) (mu := Ev.nomu) (fuel := 100000) (d := 60) (xs := [.int .i64 1]) (fun _ n rec _ => Ev.nod_ok n rec) (by kernel_rfl)

set_option maxRecDepth 100000 in
theorem fname2 {w : World} : Runs Tryd.prog 6 #[.int .i64 2] w (fun v w' => w.grownBy w' none ∧ v = .string ⟨#[104, 101, 97, 100]⟩) :=
  Ev.closed (drw := Ev.nod) (mu := Ev.nomu) (fuel := 100000) (d := 60) (xs := [.int .i64 2]) (fun _ n rec _ => Ev.nod_ok n rec) (by kernel_rfl)

set_option maxRecDepth 100000 in
theorem fname3 {w : World} : Runs Tryd.prog 6 #[.int .i64 3] w (fun v w' => w.grownBy w' none ∧ v = .string ⟨#[114, 101, 99, 111, 114, 100]⟩) :=
  Ev.closed (drw := Ev.nod) (mu := Ev.nomu) (fuel := 100000) (d := 60) (xs := [.int .i64 3]) (fun _ n rec _ => Ev.nod_ok n rec) (by kernel_rfl)

set_option maxRecDepth 100000 in
theorem fname4 {w : World} : Runs Tryd.prog 6 #[.int .i64 4] w (fun v w' => w.grownBy w' none ∧ v = .string ⟨#[111, 114, 100, 101, 114]⟩) :=
  Ev.closed (drw := Ev.nod) (mu := Ev.nomu) (fuel := 100000) (d := 60) (xs := [.int .i64 4]) (fun _ n rec _ => Ev.nod_ok n rec) (by kernel_rfl)

set_option maxRecDepth 100000 in
theorem fname5 {w : World} : Runs Tryd.prog 6 #[.int .i64 5] w (fun v w' => w.grownBy w' none ∧ v = .string ⟨#[103, 97, 112]⟩) :=
  Ev.closed (drw := Ev.nod) (mu := Ev.nomu) (fuel := 100000) (d := 60) (xs := [.int .i64 5]) (fun _ n rec _ => Ev.nod_ok n rec) (by kernel_rfl)

set_option maxRecDepth 100000 in
theorem fname6 {w : World} : Runs Tryd.prog 6 #[.int .i64 6] w (fun v w' => w.grownBy w' none ∧ v = .string ⟨#[111, 108, 100]⟩) :=
  Ev.closed (drw := Ev.nod) (mu := Ev.nomu) (fuel := 100000) (d := 60) (xs := [.int .i64 6]) (fun _ n rec _ => Ev.nod_ok n rec) (by kernel_rfl)

set_option maxRecDepth 100000 in
theorem fname7 {w : World} : Runs Tryd.prog 6 #[.int .i64 7] w (fun v w' => w.grownBy w' none ∧ v = .string ⟨#[108, 105, 110, 107]⟩) :=
  Ev.closed (drw := Ev.nod) (mu := Ev.nomu) (fuel := 100000) (d := 60) (xs := [.int .i64 7]) (fun _ n rec _ => Ev.nod_ok n rec) (by kernel_rfl)

set_option maxRecDepth 100000 in
theorem fname8 {w : World} : Runs Tryd.prog 6 #[.int .i64 8] w (fun v w' => w.grownBy w' none ∧ v = .string ⟨#[116, 111, 114, 110]⟩) :=
  Ev.closed (drw := Ev.nod) (mu := Ev.nomu) (fuel := 100000) (d := 60) (xs := [.int .i64 8]) (fun _ n rec _ => Ev.nod_ok n rec) (by kernel_rfl)

set_option maxRecDepth 100000 in
theorem fname9 {w : World} : Runs Tryd.prog 6 #[.int .i64 9] w (fun v w' => w.grownBy w' none ∧ v = .string ⟨#[116, 97, 105, 108]⟩) :=
  Ev.closed (drw := Ev.nod) (mu := Ev.nomu) (fuel := 100000) (d := 60) (xs := [.int .i64 9]) (fun _ n rec _ => Ev.nod_ok n rec) (by kernel_rfl)

set_option maxRecDepth 100000 in
theorem fname10 {w : World} : Runs Tryd.prog 6 #[.int .i64 10] w (fun v w' => w.grownBy w' none ∧ v = .string ⟨#[112, 111, 111, 108]⟩) :=
  Ev.closed (drw := Ev.nod) (mu := Ev.nomu) (fuel := 100000) (d := 60) (xs := [.int .i64 10]) (fun _ n rec _ => Ev.nod_ok n rec) (by kernel_rfl)

set_option maxRecDepth 100000 in
theorem fname11 {w : World} : Runs Tryd.prog 6 #[.int .i64 11] w (fun v w' => w.grownBy w' none ∧ v = .string ⟨#[111, 100, 100]⟩) :=
  Ev.closed (drw := Ev.nod) (mu := Ev.nomu) (fuel := 100000) (d := 60) (xs := [.int .i64 11]) (fun _ n rec _ => Ev.nod_ok n rec) (by kernel_rfl)

set_option maxRecDepth 100000 in
theorem fname12 {w : World} : Runs Tryd.prog 6 #[.int .i64 12] w (fun v w' => w.grownBy w' none ∧ v = .string ⟨#[115, 112, 97, 114, 101]⟩) :=
  Ev.closed (drw := Ev.nod) (mu := Ev.nomu) (fuel := 100000) (d := 60) (xs := [.int .i64 12]) (fun _ n rec _ => Ev.nod_ok n rec) (by kernel_rfl)

theorem fname_a {w : World} {n : Int} (h : n < 1) :
    Runs Tryd.prog 6 #[.int .i64 n] w (fun v w' => w.grownBy w' none ∧ v = .string ⟨#[]⟩) := by
  have hB := gb_refl w none
  refine enter Tryd.func6 Tryd.ntmps6 rfl rfl ?_
  refine C_seq (C_reg ?_)
  refine L_run (R_assign rfl) rfl ?_
  refine L_nil (N_then (C_seq (C_reg ?_)))
  refine L_buildSlice (pv := [(0, .string (⟨#[]⟩)), (1, .string (⟨#[115, 105, 122, 101]⟩)), (2, .string (⟨#[104, 101, 97, 100]⟩)), (3, .string (⟨#[114, 101, 99, 111, 114, 100]⟩)), (4, .string (⟨#[111, 114, 100, 101, 114]⟩)), (5, .string (⟨#[103, 97, 112]⟩)), (6, .string (⟨#[111, 108, 100]⟩)), (7, .string (⟨#[108, 105, 110, 107]⟩)), (8, .string (⟨#[116, 111, 114, 110]⟩)), (9, .string (⟨#[116, 97, 105, 108]⟩)), (10, .string (⟨#[112, 111, 111, 108]⟩)), (11, .string (⟨#[111, 100, 100]⟩)), (12, .string (⟨#[115, 112, 97, 114, 101]⟩))]) (cs := [.string (⟨#[]⟩), .string (⟨#[115, 105, 122, 101]⟩), .string (⟨#[104, 101, 97, 100]⟩), .string (⟨#[114, 101, 99, 111, 114, 100]⟩), .string (⟨#[111, 114, 100, 101, 114]⟩), .string (⟨#[103, 97, 112]⟩), .string (⟨#[111, 108, 100]⟩), .string (⟨#[108, 105, 110, 107]⟩), .string (⟨#[116, 111, 114, 110]⟩), .string (⟨#[116, 97, 105, 108]⟩), .string (⟨#[112, 111, 111, 108]⟩), .string (⟨#[111, 100, 100]⟩), .string (⟨#[115, 112, 97, 114, 101]⟩)]) slc28 zer9 rfl rfl (by kernel_rfl) rfl ?_
  intro g1 w1 eg1 hb1 hs1 hz1
  have ge1 : w.heap.size ≤ g1 := eg_ge hB eg1
  replace hB := gb_tr hB hs1
  refine L_run (R_assign rfl) rfl ?_
  refine L_nil (N_then (C_seq (C_seq (C_reg ?_))))
  refine L_run (R_move rfl) rfl ?_
  refine L_run (R_lss rfl rfl) rfl ?_
  refine L_run (R_move rfl) rfl ?_
  refine L_no rfl rfl rfl (decide_eq_true h) rfl ?_
  refine L_no rfl rfl rfl (decide_eq_true h) rfl ?_
  refine L_run (R_pickT rfl (decide_eq_true h) rfl) rfl ?_
  refine L_nil (N_then (C_condT rfl rfl (C_seq (C_reg ?_))))
  refine L_run (R_assign rfl) rfl ?_
  refine L_nil (N_then (C_ret (R_then ?_)))
  refine ret1 Tryd.results6 rfl ?_
  exact ⟨hB, rfl⟩

theorem fname_b {w : World} {n : Int} (h : ¬ (n < 1)) (h2 : 12 < n) :
    Runs Tryd.prog 6 #[.int .i64 n] w (fun v w' => w.grownBy w' none ∧ v = .string ⟨#[]⟩) := by
  have hB := gb_refl w none
  refine enter Tryd.func6 Tryd.ntmps6 rfl rfl ?_
  refine C_seq (C_reg ?_)
  refine L_run (R_assign rfl) rfl ?_
  refine L_nil (N_then (C_seq (C_reg ?_)))
  refine L_buildSlice (pv := [(0, .string (⟨#[]⟩)), (1, .string (⟨#[115, 105, 122, 101]⟩)), (2, .string (⟨#[104, 101, 97, 100]⟩)), (3, .string (⟨#[114, 101, 99, 111, 114, 100]⟩)), (4, .string (⟨#[111, 114, 100, 101, 114]⟩)), (5, .string (⟨#[103, 97, 112]⟩)), (6, .string (⟨#[111, 108, 100]⟩)), (7, .string (⟨#[108, 105, 110, 107]⟩)), (8, .string (⟨#[116, 111, 114, 110]⟩)), (9, .string (⟨#[116, 97, 105, 108]⟩)), (10, .string (⟨#[112, 111, 111, 108]⟩)), (11, .string (⟨#[111, 100, 100]⟩)), (12, .string (⟨#[115, 112, 97, 114, 101]⟩))]) (cs := [.string (⟨#[]⟩), .string (⟨#[115, 105, 122, 101]⟩), .string (⟨#[104, 101, 97, 100]⟩), .string (⟨#[114, 101, 99, 111, 114, 100]⟩), .string (⟨#[111, 114, 100, 101, 114]⟩), .string (⟨#[103, 97, 112]⟩), .string (⟨#[111, 108, 100]⟩), .string (⟨#[108, 105, 110, 107]⟩), .string (⟨#[116, 111, 114, 110]⟩), .string (⟨#[116, 97, 105, 108]⟩), .string (⟨#[112, 111, 111, 108]⟩), .string (⟨#[111, 100, 100]⟩), .string (⟨#[115, 112, 97, 114, 101]⟩)]) slc28 zer9 rfl rfl (by kernel_rfl) rfl ?_
  intro g1 w1 eg1 hb1 hs1 hz1
  have ge1 : w.heap.size ≤ g1 := eg_ge hB eg1
  replace hB := gb_tr hB hs1
  refine L_run (R_assign rfl) rfl ?_
  refine L_nil (N_then (C_seq (C_seq (C_reg ?_))))
  refine L_run (R_move rfl) rfl ?_
  refine L_run (R_lss rfl rfl) rfl ?_
  refine L_run (R_move rfl) rfl ?_
  refine L_yes rfl rfl rfl (decide_eq_false h) ?_
  refine L_run (R_move rfl) rfl ?_
  refine L_yes rfl rfl rfl (decide_eq_false h) ?_
  refine L_run (R_gtr rfl rfl) rfl ?_
  refine L_run (R_pickF rfl (decide_eq_false h) rfl) rfl ?_
  refine L_nil (N_then (C_condT rfl (decide_eq_true h2) (C_seq (C_reg ?_))))
  refine L_run (R_assign rfl) rfl ?_
  refine L_nil (N_then (C_ret (R_then ?_)))
  refine ret1 Tryd.results6 rfl ?_
  exact ⟨hB, rfl⟩

theorem fname_no {w : World} {n : Int} (h : n < 1 ∨ 12 < n) : Runs Tryd.prog 6 #[.int .i64 n] w (fun v w' => w.grownBy w' none ∧ v = .string ⟨#[]⟩) := by
  by_cases h1 : n < 1
  · exact fname_a h1
  · exact fname_b h1 (by omega)

theorem corrupt1 {w : World} {c : Int} :
    Runs Tryd.prog 17 #[.int .i64 c] w (fun v w' => w.grownBy w' none ∧ v = .bool (decide (1 ≤ c ∧ c ≤ 8))) := by
  have hB := gb_refl w none
  refine enter Tryd.func17 Tryd.ntmps17 rfl rfl ?_
  refine C_seq (C_reg ?_)
  refine L_run (R_assign rfl) rfl ?_
  refine L_nil (N_then (C_seq (C_reg ?_)))
  refine L_run (R_move rfl) rfl ?_
  refine L_run (R_geq rfl rfl) rfl ?_
  refine L_run (R_move rfl) rfl ?_
  refine L_splitD (p := 1 ≤ c) (fun h1 => ?_) (fun h1 => ?_)
  · refine L_yes rfl rfl rfl (decide_eq_true h1) ?_
    refine L_run (R_move rfl) rfl ?_
    refine L_yes rfl rfl rfl (decide_eq_true h1) ?_
    refine L_run (R_leq rfl rfl) rfl ?_
    refine L_run (R_pickT rfl (decide_eq_true h1) rfl) rfl ?_
    refine L_run (R_assign rfl) rfl ?_
    refine L_nil (N_then (C_ret ?_))
    refine ret1 Tryd.results17 rfl ?_
    first | exact ⟨hB, bD ⟨fun h => ⟨by assumption, h⟩, fun h => h.2⟩⟩ | exact ⟨hB, bF (fun h => by have := h.1; contradiction)⟩ | exact ⟨hB, bF (fun h => by have := h.1; omega)⟩
  · refine L_no rfl rfl rfl (decide_eq_false h1) rfl ?_
    refine L_no rfl rfl rfl (decide_eq_false h1) rfl ?_
    refine L_run (R_pickF rfl (decide_eq_false h1) rfl) rfl ?_
    refine L_run (R_assign rfl) rfl ?_
    refine L_nil (N_then (C_ret ?_))
    refine ret1 Tryd.results17 rfl ?_
    first | exact ⟨hB, bD ⟨fun h => ⟨by assumption, h⟩, fun h => h.2⟩⟩ | exact ⟨hB, bF (fun h => by have := h.1; contradiction)⟩ | exact ⟨hB, bF (fun h => by have := h.1; omega)⟩

theorem has1 {w : World} {gx : Nat} (hbx : Blk w gx 48 [.func (.func 17) #[] #[]]) {s : ByteArray} {c : Int} :
    Runs Tryd.prog 42 #[.agg #[.string s, .int .i64 c], .pointer (some ⟨gx, 0, none⟩)] w (fun v w' => w.grownBy w' none ∧ v = .bool (decide (1 ≤ c ∧ c ≤ 8))) := by
  have hB := gb_refl w none
  refine enter Tryd.func42 Tryd.ntmps42 rfl rfl ?_
  refine C_seq (C_reg ?_)
  refine L_box (cs := [.string s, .int .i64 c]) rfl rfl rfl ?_
  intro g1 w1 eg1 hb1 hs1 hz1
  have ge1 : w.heap.size ≤ g1 := eg_ge hB eg1
  have lt1 : gx < g1 := lt_of_eg hbx.lt eg1
  replace hB := gb_tr hB hs1
  replace hbx := hbx.gb hs1
  refine L_run (R_assign rfl) rfl ?_
  refine L_nil (N_then (C_seq (C_reg ?_)))
  refine L_run (R_load1 rfl scl48 (hbx.cell (i := 0) rfl)) rfl ?_
  refine L_run (R_field (r := 1) rfl fld26_1 rfl) rfl ?_
  refine L_run (R_load1 rfl scl3 (hb1.cell (i := 1) rfl)) rfl ?_
  refine L_callV (first := []) (cap := []) rfl rfl cb17 (corrupt1) rfl ?_
  rintro _ w2 ⟨hs2, rfl⟩
  replace hB := gb_tr hB hs2
  replace hbx := hbx.gb hs2
  replace hb1 := hb1.gb hs2
  refine L_run (R_assign rfl) rfl ?_
  refine L_nil (N_then (C_ret ?_))
  refine ret1 Tryd.results42 rfl ?_
  exact ⟨hB, rfl⟩

theorem indexF {w : World} {gx : Nat} (hbx : Blk w gx 48 [.func (.func 17) #[] #[]]) {t1 lo hi : Nat} {A : Option Addr} {c : Nat} {l : List Fnd} (hS : Sli t1 lo hi w A (fl encF l)) (hb : l.length ≤ 1000000) :
    Runs Tryd.prog 73 #[.slice A l.length c, .func (.func 42) #[] #[.pointer (some ⟨gx, 0, none⟩)]] w (fun v w' => w.grownBy w' none ∧ ∃ r : Int, v = .int .i64 r ∧ (0 ≤ r ↔ corr l = true)) := by
  have hB := gb_refl w none
  replace hS := hS.top
  refine enter Tryd.func73 Tryd.ntmps73 rfl rfl ?_
  refine C_seq (C_reg ?_)
  refine L_run (R_assign rfl) rfl ?_
  refine L_nil (N_then (C_seq (C_seq (C_reg ?_))))
  refine L_run (R_move rfl) rfl ?_
  refine L_run (R_lenSl rfl slc24) rfl ?_
  refine L_run (R_move rfl) rfl ?_
  refine L_nil (N_then (C_block ?_))
  refine C_loop (fun m_ a_ w_ => ∃ (σ_ : Nat → Value) (k : Nat), a_ = Ac 19 σ_ [] [(0, .slice A l.length c), (1, .func (.func 42) #[] #[.pointer (some ⟨gx, 0, none⟩)]), (4, .int .i64 0), (7, .int .i64 (l.length : Int)), (8, .int .i64 (k : Int))] ∧ w.grownBy w_ none ∧ Blk w_ gx 48 [.func (.func 17) #[] #[]] ∧ Sli t1 lo w.heap.size w_ A (fl encF l) ∧ (k ≤ l.length) ∧ (corr (l.take k) = false) ∧ l.length - k = m_) (l.length - 0) ?_ ?_
  · exact ⟨_, 0, Ac_frg ⟨rfl, rfl, rfl, rfl, (agr rfl (by first | rfl | (congr 1; omega) | (congr 1; simp; done) | (congr 1; simp only [IntKind.wrap_u64, IntKind.wrap_i64, IntKind.wrap_u8]; omega) | (congr 1 <;> omega))), trivial⟩, hB, hbx, hS, (Nat.zero_le _), rfl, rfl⟩
  · clear hB
    clear hbx hS
    rintro m_ a_ w1 ⟨σ_, k, rfl, hB, hbx, hS, hk, hc, rfl⟩
    refine C_seq (C_reg ?_)
    refine L_run (R_lss rfl rfl) rfl ?_
    refine L_nil (N_then (C_seq ?_))
    refine C_if rfl (fun h1 => ?_) (fun h1 => ?_)
    · refine C_skip (N_then (C_seq (C_block (C_seq (C_reg ?_)))))
      refine L_run (R_move rfl) rfl ?_
      refine L_run (R_assign rfl) rfl ?_
      refine L_nil (N_then (C_seq (C_reg ?_)))
      refine L_run (R_move rfl) rfl ?_
      refine L_run (R_move rfl) rfl ?_
      refine L_run (R_move rfl) rfl ?_
      have hl1 : k < l.length := by first | omega | (simp; omega)
      refine T_index (xs := l) (i := k) EncF rfl rfl (by first | rfl | omega) slc24 hl1 hS rfl ?_
      intro g1 o1 ha1
      refine L_run (R_loadA (vs := [.string ((l[k]).file), .int .i64 ((l[k]).code)]) rfl agg26 (At.pre ha1 rfl) rfl) rfl ?_
      refine L_callV (first := []) (cap := [.pointer (some ⟨gx, 0, none⟩)]) rfl rfl cb42 (has1 hbx) rfl ?_
      rintro _ w2 ⟨hs1, rfl⟩
      replace hB := gb_tr hB hs1
      replace hbx := hbx.gb hs1
      replace hS := hS.gb hs1
      replace ha1 := At.gb ha1 hs1 (by simp)
      refine L_nil (N_then ?_)
      refine C_if rfl (fun h2 => ?_) (fun h2 => ?_)
      · refine C_seq (C_reg ?_)
        refine L_run (R_move rfl) rfl ?_
        refine L_run (R_assign rfl) rfl ?_
        refine L_nil (N_then (C_ret (R_in (R_then (R_then (R_in (R_then ?_)))))))
        refine ret1 Tryd.results73 rfl ?_
        exact ⟨hB, _, rfl, by rw [corr_at (show k < l.length by omega) (by unfold bad; assumption)]; simp⟩
      · refine C_skip (N_in (N_then (C_reg ?_)))
        refine L_run (R_add64 rfl rfl (by omega)) rfl ?_
        refine L_run (R_move rfl) rfl ?_
        refine L_nil (N_then ?_)
        exact ⟨l.length - (k + 1), by omega, _, (k + 1), Ac_frg ⟨rfl, rfl, rfl, rfl, (agr rfl (by first | rfl | (congr 1; omega) | (congr 1; simp; done) | (congr 1; simp only [IntKind.wrap_u64, IntKind.wrap_i64, IntKind.wrap_u8]; omega) | (congr 1 <;> omega))), trivial⟩, hB, hbx, hS, (by omega), (corr_take (by omega) hc (by unfold bad; assumption)), rfl⟩
    · refine C_exit (X_then (X_then (X_hit (N_then (C_seq (C_reg ?_))))))
      refine L_run (R_assign rfl) rfl ?_
      refine L_nil (N_then (C_ret ?_))
      refine ret1 Tryd.results73 rfl ?_
      have e_ : l.take k = l := List.take_of_length_le (by omega)
      rw [e_] at hc; exact ⟨hB, _, rfl, by rw [hc]; simp⟩

theorem containsF {w : World} {gx : Nat} (hbx : Blk w gx 48 [.func (.func 17) #[] #[]]) {t1 lo hi : Nat} {A : Option Addr} {c : Nat} {l : List Fnd} (hS : Sli t1 lo hi w A (fl encF l)) (hb : l.length ≤ 1000000) :
    Runs Tryd.prog 41 #[.slice A l.length c, .func (.func 42) #[] #[.pointer (some ⟨gx, 0, none⟩)]] w (fun v w' => w.grownBy w' none ∧ v = .bool (corr l)) := by
  have hB := gb_refl w none
  replace hS := hS.top
  refine enter Tryd.func41 Tryd.ntmps41 rfl rfl ?_
  refine C_seq (C_reg ?_)
  refine L_run (R_assign rfl) rfl ?_
  refine L_nil (N_then (C_seq (C_reg ?_)))
  refine L_run (R_move rfl) rfl ?_
  refine L_run (R_move rfl) rfl ?_
  refine L_call rfl cb73 (indexF hbx (l := l) hS (by omega)) rfl ?_
  rintro _ w1 ⟨hs1, r1, rfl, hr1⟩
  replace hB := gb_tr hB hs1
  replace hbx := hbx.gb hs1
  replace hS := hS.gb hs1
  refine L_run (R_geq rfl rfl) rfl ?_
  refine L_run (R_assign rfl) rfl ?_
  refine L_nil (N_then (C_ret ?_))
  refine ret1 Tryd.results41 rfl ?_
  exact ⟨hB, congrArg Value.bool (by rw [Bool.eq_iff_iff, decide_eq_true_iff]; assumption)⟩

theorem hasC {w : World} {t1 lo hi : Nat} {A : Option Addr} {c : Nat} {l : List Fnd} (hS : Sli t1 lo hi w A (fl encF l)) (hb : l.length ≤ 1000000) :
    Runs Tryd.prog 16 #[.slice A l.length c, .func (.func 17) #[] #[]] w (fun v w' => w.grownBy w' none ∧ v = .bool (corr l)) := by
  have hB := gb_refl w none
  replace hS := hS.top
  refine enter Tryd.func16 Tryd.ntmps16 rfl rfl ?_
  refine C_seq (C_reg ?_)
  refine L_box (cs := [.func (.func 17) #[] #[]]) rfl rfl rfl ?_
  intro g1 w1 eg1 hb1 hs1 hz1
  have ge1 : w.heap.size ≤ g1 := eg_ge hB eg1
  replace hB := gb_tr hB hs1
  replace hS := hS.gb hs1
  refine L_run (R_assign rfl) rfl ?_
  refine L_nil (N_then (C_seq (C_reg ?_)))
  refine L_run (R_move rfl) rfl ?_
  refine L_run (R_makeFunc rfl rfl) rfl ?_
  refine L_call rfl cb41 (containsF hb1 (l := l) hS (by omega)) rfl ?_
  rintro _ w2 ⟨hs2, rfl⟩
  replace hB := gb_tr hB hs2
  replace hS := hS.gb hs2
  replace hb1 := hb1.gb hs2
  refine L_run (R_assign rfl) rfl ?_
  refine L_nil (N_then (C_ret ?_))
  refine ret1 Tryd.results16 rfl ?_
  exact ⟨hB, rfl⟩

theorem corrupt {w : World} {t1 lo hi : Nat} {A : Option Addr} {c : Nat} {l : List Fnd} (hS : Sli t1 lo hi w A (fl encF l)) (hb : l.length ≤ 1000000) :
    Runs Tryd.prog 7 #[.slice A l.length c] w (fun v w' => w.grownBy w' none ∧ v = .bool (corr l)) := by
  have hB := gb_refl w none
  replace hS := hS.top
  refine enter Tryd.func7 Tryd.ntmps7 rfl rfl ?_
  refine C_seq (C_reg ?_)
  refine L_run (R_assign rfl) rfl ?_
  refine L_nil (N_then (C_seq (C_reg ?_)))
  refine L_run (R_move rfl) rfl ?_
  refine L_call rfl cb16 (hasC (l := l) hS (by omega)) rfl ?_
  rintro _ w1 ⟨hs1, rfl⟩
  replace hB := gb_tr hB hs1
  replace hS := hS.gb hs1
  refine L_run (R_assign rfl) rfl ?_
  refine L_nil (N_then (C_ret ?_))
  refine ret1 Tryd.results7 rfl ?_
  exact ⟨hB, rfl⟩

theorem refHas {w : World} {t1 lo hi : Nat} {A : Option Addr} {c : Nat} {l : List Fnd} (hS : Sli t1 lo hi w A (fl encF l)) (hb : l.length ≤ 1000000) :
    Runs Tryd.prog 8 #[.slice A l.length c, .int .i64 1, .int .i64 8] w (fun v w' => w.grownBy w' none ∧ v = .bool (corr l)) := by
  have hB := gb_refl w none
  replace hS := hS.top
  refine enter Tryd.func8 Tryd.ntmps8 rfl rfl ?_
  refine C_seq (C_reg ?_)
  refine L_run (R_assign rfl) rfl ?_
  refine L_nil (N_then (C_seq (C_seq (C_reg ?_))))
  refine L_run (R_assign rfl) rfl ?_
  refine L_nil (N_then (C_block ?_))
  refine C_loop (fun m_ a_ w_ => ∃ (σ_ : Nat → Value) (k : Nat), a_ = Ac 30 σ_ [] [(0, .slice A l.length c), (1, .int .i64 1), (2, .int .i64 8), (6, .bool false), (7, .int .i64 (k : Int))] ∧ w.grownBy w_ none ∧ Sli t1 lo w.heap.size w_ A (fl encF l) ∧ (k ≤ l.length) ∧ (corr (l.take k) = false) ∧ l.length - k = m_) (l.length - 0) ?_ ?_
  · exact ⟨_, 0, Ac_frg ⟨rfl, rfl, rfl, rfl, (agr rfl (by first | rfl | (congr 1; omega) | (congr 1; simp; done) | (congr 1; simp only [IntKind.wrap_u64, IntKind.wrap_i64, IntKind.wrap_u8]; omega) | (congr 1 <;> omega))), trivial⟩, hB, hS, (Nat.zero_le _), rfl, rfl⟩
  · clear hB
    clear hS
    rintro m_ a_ w1 ⟨σ_, k, rfl, hB, hS, hk, hc, rfl⟩
    refine C_seq (C_seq (C_reg ?_))
    refine L_run (R_move rfl) rfl ?_
    refine L_run (R_move rfl) rfl ?_
    refine L_run (R_lenSl rfl slc22) rfl ?_
    refine L_run (R_lss rfl rfl) rfl ?_
    refine L_nil (N_then ?_)
    refine C_if rfl (fun h1 => ?_) (fun h1 => ?_)
    · refine C_skip (N_then (C_seq (C_block (C_seq (C_reg ?_)))))
      refine L_run (R_move rfl) rfl ?_
      refine L_run (R_move rfl) rfl ?_
      have hl1 : k < l.length := by first | omega | (simp; omega)
      refine T_index (xs := l) (i := k) EncF rfl rfl (by first | rfl | omega) slc22 hl1 hS rfl ?_
      intro g1 o1 ha1
      refine L_run (R_field rfl fld27_1 rfl) rfl ?_
      refine L_run (R_load1 rfl scl3 (ha1 1 _ rfl)) rfl ?_
      refine L_run (R_move rfl) rfl ?_
      refine L_run (R_geq rfl rfl) rfl ?_
      refine L_run (R_move rfl) rfl ?_
      refine L_splitD (p := 1 ≤ (l[k]).code) (fun h2 => ?_) (fun h2 => ?_)
      · refine L_yes rfl rfl rfl (decide_eq_true h2) ?_
        refine L_run (R_move rfl) rfl ?_
        refine L_yes rfl rfl rfl (decide_eq_true h2) ?_
        refine L_run (R_move rfl) rfl ?_
        refine L_yes rfl rfl rfl (decide_eq_true h2) ?_
        have hl2 : k < l.length := by first | omega | (simp; omega)
        refine T_index (xs := l) (i := k) EncF rfl rfl (by first | rfl | omega) slc22 hl2 hS rfl ?_
        intro g2 o2 ha2
        refine L_yes rfl rfl rfl (decide_eq_true h2) ?_
        refine L_run (R_field rfl fld27_1 rfl) rfl ?_
        refine L_yes rfl rfl rfl (decide_eq_true h2) ?_
        refine L_run (R_load1 rfl scl3 (ha2 1 _ rfl)) rfl ?_
        refine L_yes rfl rfl rfl (decide_eq_true h2) ?_
        refine L_run (R_move rfl) rfl ?_
        refine L_yes rfl rfl rfl (decide_eq_true h2) ?_
        refine L_run (R_leq rfl rfl) rfl ?_
        refine L_run (R_pickT rfl (decide_eq_true h2) rfl) rfl ?_
        refine L_nil (N_then ?_)
        refine C_if rfl (fun h3 => ?_) (fun h3 => ?_)
        · refine C_seq (C_reg ?_)
          refine L_run (R_assign rfl) rfl ?_
          refine L_nil (N_then (C_ret (R_in (R_then (R_then (R_in (R_then ?_)))))))
          refine ret1 Tryd.results8 rfl ?_
          rw [corr_at (show k < l.length by omega) (by unfold bad; omega)]; exact ⟨hB, rfl⟩
        · refine C_skip (N_in (N_then (C_reg ?_)))
          refine L_run (R_move rfl) rfl ?_
          refine L_run (R_add64 rfl rfl (by omega)) rfl ?_
          refine L_run (R_assign rfl) rfl ?_
          refine L_nil (N_then ?_)
          exact ⟨l.length - (k + 1), by omega, _, (k + 1), Ac_frg ⟨rfl, rfl, rfl, rfl, (agr rfl (by first | rfl | (congr 1; omega) | (congr 1; simp; done) | (congr 1; simp only [IntKind.wrap_u64, IntKind.wrap_i64, IntKind.wrap_u8]; omega) | (congr 1 <;> omega))), trivial⟩, hB, hS, (by omega), (corr_take (by omega) hc (by unfold bad; omega)), rfl⟩
      · refine L_no rfl rfl rfl (decide_eq_false h2) rfl ?_
        refine L_no rfl rfl rfl (decide_eq_false h2) rfl ?_
        refine L_no rfl rfl rfl (decide_eq_false h2) rfl ?_
        refine L_no rfl rfl rfl (decide_eq_false h2) rfl ?_
        refine L_no rfl rfl rfl (decide_eq_false h2) rfl ?_
        refine L_no rfl rfl rfl (decide_eq_false h2) rfl ?_
        refine L_no rfl rfl rfl (decide_eq_false h2) rfl ?_
        refine L_run (R_pickF rfl (decide_eq_false h2) rfl) rfl ?_
        refine L_nil (N_then (C_condF rfl rfl (C_skip (N_in (N_then (C_reg ?_))))))
        refine L_run (R_move rfl) rfl ?_
        refine L_run (R_add64 rfl rfl (by omega)) rfl ?_
        refine L_run (R_assign rfl) rfl ?_
        refine L_nil (N_then ?_)
        exact ⟨l.length - (k + 1), by omega, _, (k + 1), Ac_frg ⟨rfl, rfl, rfl, rfl, (agr rfl (by first | rfl | (congr 1; omega) | (congr 1; simp; done) | (congr 1; simp only [IntKind.wrap_u64, IntKind.wrap_i64, IntKind.wrap_u8]; omega) | (congr 1 <;> omega))), trivial⟩, hB, hS, (by omega), (corr_take (by omega) hc (by unfold bad; omega)), rfl⟩
    · refine C_exit (X_then (X_then (X_hit (N_then (C_seq (C_reg ?_))))))
      refine L_run (R_assign rfl) rfl ?_
      refine L_nil (N_then (C_ret ?_))
      refine ret1 Tryd.results8 rfl ?_
      have e_ : l.take k = l := List.take_of_length_le (by omega)
      rw [e_] at hc; rw [hc]; exact ⟨hB, rfl⟩

end Go.Proofs.YtbeafehpjjojnaaDoor
