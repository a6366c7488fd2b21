/-
  Contracts of the package tree: a part with a key, or without it.
-/
import Derived.Test.YtbmohojdlgedpaaHa
namespace Go.Proofs.Ytbmohojdlgedpaa
open Go.RowKit Gw Pl
set_option linter.unusedVariables false
set_option linter.unusedSimpArgs false
theorem cb64 : callB Try.prog 64 = true := by kernel_rfl
theorem cb76 : callB Try.prog 76 = true := by kernel_rfl
theorem cb77 : callB Try.prog 77 = true := by kernel_rfl
theorem cb78 : callB Try.prog 78 = true := by kernel_rfl
theorem putK_le {key x : ByteArray} : ∀ l : List Kv, (putK l key x).length ≤ l.length + 1
  | [] => Nat.le_refl _
  | p :: r => by
    have ih := putK_le (key := key) (x := x) r
    unfold putK
    split
    · rw [List.length_cons, List.length_cons]; omega
    · split
      · rw [List.length_cons, List.length_cons]; omega
      · rw [List.length_cons]; exact Nat.le_refl _
theorem put_cnt {t t1 : Tr} {key x : ByteArray} (h : t1.kvs = putK t.kvs key x) : t1.cnt ≤ t.cnt + 1 := by
  rw [Tr.cnt_le, Tr.cnt_le, h]
  exact putK_le _
theorem delK_le {key : ByteArray} (l : List Kv) : (delK l key).length ≤ l.length := List.length_filter_le _ _
theorem del_cnt {t t1 : Tr} {key : ByteArray} (h : t1.kvs = delK t.kvs key) : t1.cnt ≤ t.cnt := by
  rw [Tr.cnt_le, Tr.cnt_le, h]
  exact delK_le _
theorem kvs_nil {t : Tr} (h : t = .nil) : t.kvs = [] := by subst h; rfl
theorem in_lt {key k v : ByteArray} {L R : List Kv} (hs : SortK (L ++ (k, v) :: R)) (hin : ∃ p ∈ L ++ (k, v) :: R, p.1 = key) (h : slt key k) : ∃ p ∈ L, p.1 = key := by
  obtain ⟨p, hp, rfl⟩ := hin
  obtain ⟨_, _, h3, h4, _⟩ := sortK_app hs
  rcases List.mem_append.1 hp with hp | hp
  · exact ⟨p, hp, rfl⟩
  · rcases List.mem_cons.1 hp with rfl | hp
    · exact absurd h (slt_irrefl _)
    · exact absurd (slt_trans h (h4 p hp)) (slt_irrefl _)
theorem in_gt {key k v : ByteArray} {L R : List Kv} (hs : SortK (L ++ (k, v) :: R)) (hin : ∃ p ∈ L ++ (k, v) :: R, p.1 = key) (h : slt k key) : ∃ p ∈ R, p.1 = key := by
  obtain ⟨p, hp, rfl⟩ := hin
  obtain ⟨_, _, h3, h4, _⟩ := sortK_app hs
  rcases List.mem_append.1 hp with hp | hp
  · exact absurd (slt_trans h (h3 p hp)) (slt_irrefl _)
  · rcases List.mem_cons.1 hp with rfl | hp
    · exact absurd h (slt_irrefl _)
    · exact ⟨p, hp, rfl⟩
theorem del_first {k' v' : ByteArray} {R : List Kv} (hs : SortK R) (h : R.head? = some (k', v')) : R = (k', v') :: delK R k' := by
  cases R with
  | nil => cases h
  | cons p R =>
    obtain rfl : p = (k', v') := by simpa using h
    have := delK_eq (L := []) (k := k') (v := v') (R := R) hs
    rw [List.nil_append, List.nil_append] at this
    rw [this]
theorem in_first {k' v' : ByteArray} {R : List Kv} (h : R.head? = some (k', v')) : ∃ p ∈ R, p.1 = k' := by
  cases R with
  | nil => cases h
  | cons p R =>
    obtain rfl : p = (k', v') := by simpa using h
    exact ⟨_, List.mem_cons_self, rfl⟩
theorem put_n {w : World} {key x : ByteArray} :
    Runs Try.prog 76 #[.pointer none, .string key, .string x] w (fun v_ w' => w.grownBy w' none ∧ ∃ t', v_ = .pointer (taddr t') ∧ TreeF 148 w'.heap.size w' t' ∧ t'.kvs = putK [] key x ∧ t'.hok) := by
  have hB := gb_refl w none
  refine enter Try.func76 Try.ntmps76 rfl rfl ?_
  refine C_seq (C_reg rfl ?_)
  refine L_run (R_assign rfl) rfl ?_
  refine L_nil (N_then (C_seq (C_block (C_seq (C_reg rfl ?_)))))
  refine L_run (R_move rfl) rfl ?_
  refine L_run (R_eqlpNN rfl rfl Try.underlying136) rfl ?_
  refine L_run (R_assign rfl) rfl ?_
  refine L_nil (N_then (C_condT rfl rfl (C_seq (C_reg rfl ?_))))
  refine L_run (R_move rfl) rfl ?_
  refine L_run (R_move rfl) rfl ?_
  refine L_run (R_build (pv := [(0, .string key), (1, .string x), (4, .int .i64 1)]) (cs := [.string key, .string x, .pointer none, .pointer none, .int .i64 1]) rfl (by kernel_rfl)) rfl ?_
  refine L_box (cs := [.string key, .string x, .pointer none, .pointer none, .int .i64 1]) rfl rfl rfl ?_
  intro g1 w1 eg1 hb1 hs1 hz1
  have ge1 : w.heap.size ≤ g1 := eg_ge hB eg1
  replace hB := gb_tr hB hs1
  refine L_run (R_assign rfl) rfl ?_
  refine L_nil (N_then (C_ret (R_in (R_then ?_))))
  refine ret1 Try.results76 rfl ?_
  exact ⟨hB, .node g1 key x 1 .nil .nil, rfl, TreeF.mk hb1 TreeF.nil TreeF.nil hb1.lt, rfl, by decide, by decide, trivial, trivial⟩

theorem put_c {w : World} {g : Nat} {key x k v : ByteArray} {h : Int} {l r : Tr} (hb : Blk w g 148 [.string k, .string v, .pointer (taddr l), .pointer (taddr r), .int .i64 h]) (hTl : TreeF 148 w.heap.size w l) (hTr : TreeF 148 w.heap.size w r) (hn : 1 ≤ h ∧ h ≤ l.cnt + r.cnt + 1) (okl : l.hok) (okr : r.hok) (hs : SortK (l.kvs ++ (k, v) :: r.kvs)) (hc : l.cnt + r.cnt ≤ 800000) (ihl : ∀ w0, TreeF 148 w0.heap.size w0 l → Runs Try.prog 76 #[.pointer (taddr l), .string key, .string x] w0 (fun v_ w' => w0.grownBy w' none ∧ ∃ t', v_ = .pointer (taddr t') ∧ TreeF 148 w'.heap.size w' t' ∧ t'.kvs = putK l.kvs key x ∧ t'.hok)) (ihr : ∀ w0, TreeF 148 w0.heap.size w0 r → Runs Try.prog 76 #[.pointer (taddr r), .string key, .string x] w0 (fun v_ w' => w0.grownBy w' none ∧ ∃ t', v_ = .pointer (taddr t') ∧ TreeF 148 w'.heap.size w' t' ∧ t'.kvs = putK r.kvs key x ∧ t'.hok)) :
    Runs Try.prog 76 #[.pointer (some ⟨g, 0, none⟩), .string key, .string x] w (fun v_ w' => w.grownBy w' none ∧ ∃ t', v_ = .pointer (taddr t') ∧ TreeF 148 w'.heap.size w' t' ∧ t'.kvs = putK (l.kvs ++ (k, v) :: r.kvs) key x ∧ t'.hok) := by
  have hB := gb_refl w none
  refine enter Try.func76 Try.ntmps76 rfl rfl ?_
  refine C_seq (C_reg rfl ?_)
  refine L_run (R_assign rfl) rfl ?_
  refine L_nil (N_then (C_seq (C_block (C_seq (C_reg rfl ?_)))))
  refine L_run (R_move rfl) rfl ?_
  refine L_run (R_eqlpPN rfl rfl Try.underlying136) rfl ?_
  refine L_run (R_assign rfl) rfl ?_
  refine L_nil (N_then (C_condF rfl rfl (C_seq (C_reg rfl ?_))))
  refine L_run (R_move rfl) rfl ?_
  refine L_run (R_move rfl) rfl ?_
  refine L_run (R_nilck rfl) rfl ?_
  refine L_run (R_field (r := 0) rfl fld148_0 rfl) rfl ?_
  refine L_run (R_load1 rfl scl9 (hb.cell (i := 0) rfl)) rfl ?_
  refine L_run (R_lssS rfl rfl) rfl ?_
  refine L_run (R_assign rfl) rfl ?_
  refine L_nil (N_then ?_)
  refine C_if rfl (fun h1 => ?_) (fun h1 => ?_)
  · refine C_seq ?_
    refine C_draw2 rfl mix ?_
    intro w1 hs1 hz1
    replace hB := gb_tr hB hs1
    replace hb := hb.gb hs1
    replace hTl := hTl.gb hs1
    replace hTr := hTr.gb hs1
    refine ⟨fun W_ => Blk W_ g 148 [.string k, .string v, .pointer (taddr l), .pointer (taddr r), .int .i64 h] ∧ True, [0, 1, 2, 3, 4, 5, 6, 8, 9, 10, 11, 13], ?_⟩
    refine T_takeA (i := 0) rfl (by kernel_rfl) (by kernel_rfl) (by kernel_rfl) (by kernel_rfl) (Y_of (fun _ ⟨hb, _⟩ => R_move rfl)) ⟨hb, trivial⟩ rfl ?_
    refine T_takeA (i := 1) rfl (by kernel_rfl) (by kernel_rfl) (by kernel_rfl) (by kernel_rfl) (Y_of (fun _ ⟨hb, _⟩ => R_move rfl)) ⟨hb, trivial⟩ rfl ?_
    refine T_takeA (i := 2) rfl (by kernel_rfl) (by kernel_rfl) (by kernel_rfl) (by kernel_rfl) (Y_of (fun _ ⟨hb, _⟩ => R_nilck rfl)) ⟨hb, trivial⟩ rfl ?_
    refine T_takeA (i := 3) rfl (by kernel_rfl) (by kernel_rfl) (by kernel_rfl) (by kernel_rfl) (Y_of (fun _ ⟨hb, _⟩ => R_field (r := 2) rfl fld148_2 rfl)) ⟨hb, trivial⟩ rfl ?_
    refine T_takeA (i := 4) rfl (by kernel_rfl) (by kernel_rfl) (by kernel_rfl) (by kernel_rfl) (Y_of (fun _ ⟨hb, _⟩ => R_load1 rfl scl136 (hb.cell (i := 2) rfl))) ⟨hb, trivial⟩ rfl ?_
    refine T_takeA (i := 5) rfl (by kernel_rfl) (by kernel_rfl) (by kernel_rfl) (by kernel_rfl) (Y_of (fun _ ⟨hb, _⟩ => R_move rfl)) ⟨hb, trivial⟩ rfl ?_
    refine T_takeA (i := 6) rfl (by kernel_rfl) (by kernel_rfl) (by kernel_rfl) (by kernel_rfl) (Y_of (fun _ ⟨hb, _⟩ => R_move rfl)) ⟨hb, trivial⟩ rfl ?_
    refine T_takeA (i := 8) rfl (by kernel_rfl) (by kernel_rfl) (by kernel_rfl) (by kernel_rfl) (Y_of (fun _ ⟨hb, _⟩ => R_move rfl)) ⟨hb, trivial⟩ rfl ?_
    refine T_takeA (i := 9) rfl (by kernel_rfl) (by kernel_rfl) (by kernel_rfl) (by kernel_rfl) (Y_of (fun _ ⟨hb, _⟩ => R_nilck rfl)) ⟨hb, trivial⟩ rfl ?_
    refine T_takeA (i := 10) rfl (by kernel_rfl) (by kernel_rfl) (by kernel_rfl) (by kernel_rfl) (Y_of (fun _ ⟨hb, _⟩ => R_field (r := 3) rfl fld148_3 rfl)) ⟨hb, trivial⟩ rfl ?_
    refine T_takeA (i := 11) rfl (by kernel_rfl) (by kernel_rfl) (by kernel_rfl) (by kernel_rfl) (Y_of (fun _ ⟨hb, _⟩ => R_load1 rfl scl136 (hb.cell (i := 3) rfl))) ⟨hb, trivial⟩ rfl ?_
    refine T_all (rs := [7]) (by kernel_rfl) rfl (all1 (O_one rfl ?_))
    refine L_call rfl cb76 (ihl _ hTl.top) rfl ?_
    rintro _ w2 ⟨hs2, tr1, rfl, ht1, hkv1, hok1⟩
    replace hB := gb_tr hB hs2
    replace hb := hb.gb hs2
    replace hTl := hTl.gb hs2
    replace hTr := hTr.gb hs2
    have ht1_s : w2.heap.size ≤ w2.heap.size := Nat.le_refl _
    refine L_nil (N_then ⟨fun hN_ => ⟨hb, trivial⟩, ?_⟩)
    refine T_all (rs := [12]) (by kernel_rfl) rfl (all1 (O_one rfl ?_))
    refine L_call rfl cb77 (level_ok (l := tr1) (r := r) hb ht1 hTr hok1 okr (by have h_ := put_cnt hkv1; omega)) rfl ?_
    rintro _ w3 ⟨hs3, tr2, rfl, ht2, hkv2, hok2⟩
    replace hB := gb_tr hB hs3
    replace hb := hb.gb hs3
    replace hTl := hTl.gb hs3
    replace hTr := hTr.gb hs3
    replace ht1 := ht1.gb hs3
    replace ht1_s := Nat.le_trans ht1_s hs3.size
    refine L_nil (N_then ⟨fun hN_ => ⟨hb, trivial⟩, ?_⟩)
    refine T_takeA (i := 13) rfl (by kernel_rfl) (by kernel_rfl) (by kernel_rfl) (by kernel_rfl) (Y_of (fun _ ⟨hb, _⟩ => R_assign rfl)) ⟨hb, trivial⟩ rfl ?_
    refine T_done (by kernel_rfl) (CalmE.normal ?_)
    refine N_then (C_ret (R_in (R_then ?_)))
    refine ret1 Try.results76 rfl ?_
    exact ⟨hB, tr2, rfl, ht2.top, by rw [hkv2, hkv1, putK_lt (fun p hp => (sortK_app hs).2.2.1 p hp) h1], hok2⟩
  · refine C_seq (C_reg rfl ?_)
    refine L_run (R_move rfl) rfl ?_
    refine L_run (R_move rfl) rfl ?_
    refine L_run (R_nilck rfl) rfl ?_
    refine L_run (R_field (r := 0) rfl fld148_0 rfl) rfl ?_
    refine L_run (R_load1 rfl scl9 (hb.cell (i := 0) rfl)) rfl ?_
    refine L_run (R_gtrS rfl rfl) rfl ?_
    refine L_run (R_assign rfl) rfl ?_
    refine L_nil (N_then ?_)
    refine C_if rfl (fun h2 => ?_) (fun h2 => ?_)
    · refine C_seq ?_
      refine C_draw2 rfl mix ?_
      intro w4 hs4 hz2
      replace hB := gb_tr hB hs4
      replace hb := hb.gb hs4
      replace hTl := hTl.gb hs4
      replace hTr := hTr.gb hs4
      refine ⟨fun W_ => Blk W_ g 148 [.string k, .string v, .pointer (taddr l), .pointer (taddr r), .int .i64 h] ∧ True, [0, 1, 2, 3, 4, 5, 6, 7, 8, 9, 10, 13], ?_⟩
      refine T_takeA (i := 0) rfl (by kernel_rfl) (by kernel_rfl) (by kernel_rfl) (by kernel_rfl) (Y_of (fun _ ⟨hb, _⟩ => R_move rfl)) ⟨hb, trivial⟩ rfl ?_
      refine T_takeA (i := 1) rfl (by kernel_rfl) (by kernel_rfl) (by kernel_rfl) (by kernel_rfl) (Y_of (fun _ ⟨hb, _⟩ => R_move rfl)) ⟨hb, trivial⟩ rfl ?_
      refine T_takeA (i := 2) rfl (by kernel_rfl) (by kernel_rfl) (by kernel_rfl) (by kernel_rfl) (Y_of (fun _ ⟨hb, _⟩ => R_nilck rfl)) ⟨hb, trivial⟩ rfl ?_
      refine T_takeA (i := 3) rfl (by kernel_rfl) (by kernel_rfl) (by kernel_rfl) (by kernel_rfl) (Y_of (fun _ ⟨hb, _⟩ => R_field (r := 2) rfl fld148_2 rfl)) ⟨hb, trivial⟩ rfl ?_
      refine T_takeA (i := 4) rfl (by kernel_rfl) (by kernel_rfl) (by kernel_rfl) (by kernel_rfl) (Y_of (fun _ ⟨hb, _⟩ => R_load1 rfl scl136 (hb.cell (i := 2) rfl))) ⟨hb, trivial⟩ rfl ?_
      refine T_takeA (i := 5) rfl (by kernel_rfl) (by kernel_rfl) (by kernel_rfl) (by kernel_rfl) (Y_of (fun _ ⟨hb, _⟩ => R_move rfl)) ⟨hb, trivial⟩ rfl ?_
      refine T_takeA (i := 6) rfl (by kernel_rfl) (by kernel_rfl) (by kernel_rfl) (by kernel_rfl) (Y_of (fun _ ⟨hb, _⟩ => R_nilck rfl)) ⟨hb, trivial⟩ rfl ?_
      refine T_takeA (i := 7) rfl (by kernel_rfl) (by kernel_rfl) (by kernel_rfl) (by kernel_rfl) (Y_of (fun _ ⟨hb, _⟩ => R_field (r := 3) rfl fld148_3 rfl)) ⟨hb, trivial⟩ rfl ?_
      refine T_takeA (i := 8) rfl (by kernel_rfl) (by kernel_rfl) (by kernel_rfl) (by kernel_rfl) (Y_of (fun _ ⟨hb, _⟩ => R_load1 rfl scl136 (hb.cell (i := 3) rfl))) ⟨hb, trivial⟩ rfl ?_
      refine T_takeA (i := 9) rfl (by kernel_rfl) (by kernel_rfl) (by kernel_rfl) (by kernel_rfl) (Y_of (fun _ ⟨hb, _⟩ => R_move rfl)) ⟨hb, trivial⟩ rfl ?_
      refine T_takeA (i := 10) rfl (by kernel_rfl) (by kernel_rfl) (by kernel_rfl) (by kernel_rfl) (Y_of (fun _ ⟨hb, _⟩ => R_move rfl)) ⟨hb, trivial⟩ rfl ?_
      refine T_all (rs := [11]) (by kernel_rfl) rfl (all1 (O_one rfl ?_))
      refine L_call rfl cb76 (ihr _ hTr.top) rfl ?_
      rintro _ w5 ⟨hs5, tr3, rfl, ht3, hkv3, hok3⟩
      replace hB := gb_tr hB hs5
      replace hb := hb.gb hs5
      replace hTl := hTl.gb hs5
      replace hTr := hTr.gb hs5
      have ht3_s : w5.heap.size ≤ w5.heap.size := Nat.le_refl _
      refine L_nil (N_then ⟨fun hN_ => ⟨hb, trivial⟩, ?_⟩)
      refine T_all (rs := [12]) (by kernel_rfl) rfl (all1 (O_one rfl ?_))
      refine L_call rfl cb77 (level_ok (l := l) (r := tr3) hb hTl ht3 okl hok3 (by have h_ := put_cnt hkv3; omega)) rfl ?_
      rintro _ w6 ⟨hs6, tr4, rfl, ht4, hkv4, hok4⟩
      replace hB := gb_tr hB hs6
      replace hb := hb.gb hs6
      replace hTl := hTl.gb hs6
      replace hTr := hTr.gb hs6
      replace ht3 := ht3.gb hs6
      replace ht3_s := Nat.le_trans ht3_s hs6.size
      refine L_nil (N_then ⟨fun hN_ => ⟨hb, trivial⟩, ?_⟩)
      refine T_takeA (i := 13) rfl (by kernel_rfl) (by kernel_rfl) (by kernel_rfl) (by kernel_rfl) (Y_of (fun _ ⟨hb, _⟩ => R_assign rfl)) ⟨hb, trivial⟩ rfl ?_
      refine T_done (by kernel_rfl) (CalmE.normal ?_)
      refine N_then (C_ret (R_in (R_then ?_)))
      refine ret1 Try.results76 rfl ?_
      exact ⟨hB, tr4, rfl, ht4.top, by rw [hkv4, hkv3, putK_gt (fun p hp => (sortK_app hs).2.2.1 p hp) h2], hok4⟩
    · refine C_skip (N_in (N_then (C_seq ?_)))
      refine C_draw2 rfl mix ?_
      intro w7 hs7 hz3
      replace hB := gb_tr hB hs7
      replace hb := hb.gb hs7
      replace hTl := hTl.gb hs7
      replace hTr := hTr.gb hs7
      refine ⟨fun W_ => Blk W_ g 148 [.string k, .string v, .pointer (taddr l), .pointer (taddr r), .int .i64 h] ∧ True, [0, 1, 2, 3, 4, 5, 6, 7, 8, 9, 10, 11, 12, 13, 14, 16], ?_⟩
      refine T_takeA (i := 0) rfl (by kernel_rfl) (by kernel_rfl) (by kernel_rfl) (by kernel_rfl) (Y_of (fun _ ⟨hb, _⟩ => R_move rfl)) ⟨hb, trivial⟩ rfl ?_
      refine T_takeA (i := 1) rfl (by kernel_rfl) (by kernel_rfl) (by kernel_rfl) (by kernel_rfl) (Y_of (fun _ ⟨hb, _⟩ => R_move rfl)) ⟨hb, trivial⟩ rfl ?_
      refine T_takeA (i := 2) rfl (by kernel_rfl) (by kernel_rfl) (by kernel_rfl) (by kernel_rfl) (Y_of (fun _ ⟨hb, _⟩ => R_move rfl)) ⟨hb, trivial⟩ rfl ?_
      refine T_takeA (i := 3) rfl (by kernel_rfl) (by kernel_rfl) (by kernel_rfl) (by kernel_rfl) (Y_of (fun _ ⟨hb, _⟩ => R_nilck rfl)) ⟨hb, trivial⟩ rfl ?_
      refine T_takeA (i := 4) rfl (by kernel_rfl) (by kernel_rfl) (by kernel_rfl) (by kernel_rfl) (Y_of (fun _ ⟨hb, _⟩ => R_field (r := 2) rfl fld148_2 rfl)) ⟨hb, trivial⟩ rfl ?_
      refine T_takeA (i := 5) rfl (by kernel_rfl) (by kernel_rfl) (by kernel_rfl) (by kernel_rfl) (Y_of (fun _ ⟨hb, _⟩ => R_load1 rfl scl136 (hb.cell (i := 2) rfl))) ⟨hb, trivial⟩ rfl ?_
      refine T_takeA (i := 6) rfl (by kernel_rfl) (by kernel_rfl) (by kernel_rfl) (by kernel_rfl) (Y_of (fun _ ⟨hb, _⟩ => R_move rfl)) ⟨hb, trivial⟩ rfl ?_
      refine T_takeA (i := 7) rfl (by kernel_rfl) (by kernel_rfl) (by kernel_rfl) (by kernel_rfl) (Y_of (fun _ ⟨hb, _⟩ => R_nilck rfl)) ⟨hb, trivial⟩ rfl ?_
      refine T_takeA (i := 8) rfl (by kernel_rfl) (by kernel_rfl) (by kernel_rfl) (by kernel_rfl) (Y_of (fun _ ⟨hb, _⟩ => R_field (r := 3) rfl fld148_3 rfl)) ⟨hb, trivial⟩ rfl ?_
      refine T_takeA (i := 9) rfl (by kernel_rfl) (by kernel_rfl) (by kernel_rfl) (by kernel_rfl) (Y_of (fun _ ⟨hb, _⟩ => R_load1 rfl scl136 (hb.cell (i := 3) rfl))) ⟨hb, trivial⟩ rfl ?_
      refine T_takeA (i := 10) rfl (by kernel_rfl) (by kernel_rfl) (by kernel_rfl) (by kernel_rfl) (Y_of (fun _ ⟨hb, _⟩ => R_move rfl)) ⟨hb, trivial⟩ rfl ?_
      refine T_takeA (i := 11) rfl (by kernel_rfl) (by kernel_rfl) (by kernel_rfl) (by kernel_rfl) (Y_of (fun _ ⟨hb, _⟩ => R_nilck rfl)) ⟨hb, trivial⟩ rfl ?_
      refine T_takeA (i := 12) rfl (by kernel_rfl) (by kernel_rfl) (by kernel_rfl) (by kernel_rfl) (Y_of (fun _ ⟨hb, _⟩ => R_field (r := 4) rfl fld148_4 rfl)) ⟨hb, trivial⟩ rfl ?_
      refine T_takeA (i := 13) rfl (by kernel_rfl) (by kernel_rfl) (by kernel_rfl) (by kernel_rfl) (Y_of (fun _ ⟨hb, _⟩ => R_load1 rfl scl3 (hb.cell (i := 4) rfl))) ⟨hb, trivial⟩ rfl ?_
      refine T_takeA (i := 14) rfl (by kernel_rfl) (by kernel_rfl) (by kernel_rfl) (by kernel_rfl) (Y_of (fun _ ⟨hb, _⟩ => R_build (pv := [(0, .string key), (1, .string x), (2, .pointer (taddr l)), (3, .pointer (taddr r)), (4, .int .i64 h)]) (cs := [.string key, .string x, .pointer (taddr l), .pointer (taddr r), .int .i64 h]) rfl (by kernel_rfl))) ⟨hb, trivial⟩ rfl ?_
      refine T_all (rs := [15]) (by kernel_rfl) rfl (all1 (O_one rfl ?_))
      refine L_box (cs := [.string key, .string x, .pointer (taddr l), .pointer (taddr r), .int .i64 h]) rfl rfl rfl ?_
      intro g1 w8 eg1 hb1 hs8 hz4
      have ge1 : w.heap.size ≤ g1 := eg_ge hB eg1
      have lt1 : g < g1 := lt_of_eg hb.lt eg1
      replace hB := gb_tr hB hs8
      replace hb := hb.gb hs8
      replace hTl := hTl.gb hs8
      replace hTr := hTr.gb hs8
      refine L_nil (N_then ⟨fun hN_ => ⟨hb, trivial⟩, ?_⟩)
      refine T_takeA (i := 16) rfl (by kernel_rfl) (by kernel_rfl) (by kernel_rfl) (by kernel_rfl) (Y_of (fun _ ⟨hb, _⟩ => R_assign rfl)) ⟨hb, trivial⟩ rfl ?_
      refine T_done (by kernel_rfl) (CalmE.normal ?_)
      refine N_then (C_ret ?_)
      refine ret1 Try.results76 rfl ?_
      obtain rfl : k = key := slt_tri h2 h1
      exact ⟨hB, .node g1 k x h l r, rfl, TreeF.mk hb1 hTl.top hTr.top hb1.lt, (putK_eq (fun p hp => (sortK_app hs).2.2.1 p hp)).symm, hn.1, hn.2, okl, okr⟩

theorem put_ok {key x : ByteArray} : ∀ (t : Tr) {w : World} {hi : Nat} (ht : TreeF 148 hi w t) (ok : t.hok) (hs : SortK t.kvs) (hc : t.cnt ≤ 800000), Runs Try.prog 76 #[.pointer (taddr t), .string key, .string x] w (fun v_ w' => w.grownBy w' none ∧ ∃ t', v_ = .pointer (taddr t') ∧ TreeF 148 w'.heap.size w' t' ∧ t'.kvs = putK t.kvs key x ∧ t'.hok)
  | .nil, w, hi, ht, ok, hs, hc => put_n
  | .node g k v h l r, w, hi, ht, ok, hs, hc => by
    have hs' := sortK_app hs
    rw [Tr.cnt_node] at hc
    exact put_c ht.2.1 ht.2.2.1.top ht.2.2.2.top ⟨ok.1, ok.2.1⟩ ok.2.2.1 ok.2.2.2 hs (by omega) (fun w0 h0 => put_ok l h0 ok.2.2.1 hs'.1 (by omega)) (fun w0 h0 => put_ok r h0 ok.2.2.2 hs'.2.1 (by omega))
theorem head_app {R : List Kv} {g2 : Nat} {k2 v2 : ByteArray} {h2 : Int} {l2 r2 : Tr} : ((Tr.node g2 k2 v2 h2 l2 r2).kvs ++ R).head? = (l2.kvs ++ (k2, v2) :: r2.kvs).head? := by
  rw [Tr.kvs_node, List.head?_append, List.head?_append]
  cases l2.kvs <;> rfl
theorem least_c {w : World} {g : Nat} {k v : ByteArray} {h : Int} {l r : Tr} (hb : Blk w g 148 [.string k, .string v, .pointer (taddr l), .pointer (taddr r), .int .i64 h]) (hTl : TreeF 148 w.heap.size w l) :
    Runs Try.prog 78 #[.pointer (some ⟨g, 0, none⟩)] w (fun v_ w' => w.grownBy w' none ∧ ∃ g' k' v' pl pr h', v_ = .pointer (some ⟨g', 0, none⟩) ∧ Blk w' g' 148 [.string k', .string v', pl, pr, .int .i64 h'] ∧ (l.kvs ++ (k, v) :: r.kvs).head? = some (k', v')) := by
  have hB := gb_refl w none
  refine enter Try.func78 Try.ntmps78 rfl rfl ?_
  refine C_seq (C_reg rfl ?_)
  refine L_run (R_assign rfl) rfl ?_
  refine L_nil (N_then (C_seq (C_block ?_)))
  refine C_loop (fun m_ a_ w_ => ∃ (σ_ : Nat → Value) (g' : Nat) (k' : ByteArray) (v' : ByteArray) (h' : Int) (b : Tr) (c : Tr), a_ = Ac 13 σ_ [] [(0, .pointer (some ⟨g', 0, none⟩))] ∧ w.grownBy w_ none ∧ Blk w_ g' 148 [.string k', .string v', .pointer (taddr b), .pointer (taddr c), .int .i64 h'] ∧ TreeF 148 w.heap.size w_ b ∧ ((l.kvs ++ (k, v) :: r.kvs).head? = (b.kvs ++ (k', v') :: c.kvs).head?) ∧ b.cnt = m_) (l.cnt) ?_ ?_
  · exact ⟨_, g, k, v, h, l, r, Ac_frg ⟨rfl, trivial⟩, hB, hb, hTl, rfl, rfl⟩
  · clear hB
    clear hb hTl
    rintro m_ a_ w1 ⟨σ_, g', k', v', h', b, c, rfl, hB, hbn, hTb, hH, rfl⟩
    refine C_seq (C_seq (C_reg rfl ?_))
    refine L_run (R_move rfl) rfl ?_
    refine L_run (R_nilck rfl) rfl ?_
    refine L_run (R_field (r := 2) rfl fld148_2 rfl) rfl ?_
    refine L_run (R_load1 rfl scl136 (hbn.cell (i := 2) rfl)) rfl ?_
    refine L_run (R_neqT rfl rfl Try.underlying136) rfl ?_
    refine L_nil (N_then ?_)
    refine C_if rfl (fun h1 => ?_) (fun h1 => ?_)
    · refine C_skip (N_then (C_block (C_reg rfl ?_)))
      refine L_run (R_move rfl) rfl ?_
      refine L_run (R_nilck rfl) rfl ?_
      refine L_run (R_field (r := 2) rfl fld148_2 rfl) rfl ?_
      refine L_run (R_load1 rfl scl136 (hbn.cell (i := 2) rfl)) rfl ?_
      refine L_run (R_assign rfl) rfl ?_
      refine L_nil (N_in (N_then ?_))
      obtain ⟨g2, k2, v2, h2, l2, r2, rfl⟩ := Tr.node_of h1
      exact ⟨l2.cnt, (by rw [Tr.cnt_node]; omega), _, g2, k2, v2, h2, l2, r2, Ac_frg ⟨(agr rfl (by first | rfl | (congr 1; omega) | (congr 1; simp; done) | (congr 1; simp only [IntKind.wrap_u64, IntKind.wrap_i64, IntKind.wrap_u8]; omega) | (congr 1 <;> omega))), trivial⟩, hB, hTb.2.1, hTb.2.2.1, (hH.trans head_app), rfl⟩
    · refine C_exit (X_then (X_then (X_hit (N_then (C_seq (C_reg rfl ?_))))))
      refine L_run (R_move rfl) rfl ?_
      refine L_run (R_assign rfl) rfl ?_
      refine L_nil (N_then (C_ret ?_))
      refine ret1 Try.results78 rfl ?_
      have e_ := kvs_nil (Decidable.not_not.1 h1)
      exact ⟨hB, g', k', v', _, _, h', rfl, hbn, by rw [hH, e_]; rfl⟩

theorem least_ok {w : World} {t : Tr} (ht : TreeF 148 w.heap.size w t) (hne : t ≠ .nil) : Runs Try.prog 78 #[.pointer (taddr t)] w (fun v_ w' => w.grownBy w' none ∧ ∃ g' k' v' pl pr h', v_ = .pointer (some ⟨g', 0, none⟩) ∧ Blk w' g' 148 [.string k', .string v', pl, pr, .int .i64 h'] ∧ t.kvs.head? = some (k', v')) := by
  obtain ⟨g, k, v, h, l, r, rfl⟩ := Tr.node_of hne
  exact least_c ht.2.1 ht.2.2.1
theorem wo_c {w : World} {g : Nat} {key k v : ByteArray} {h : Int} {l r : Tr} (hb : Blk w g 148 [.string k, .string v, .pointer (taddr l), .pointer (taddr r), .int .i64 h]) (hTl : TreeF 148 w.heap.size w l) (hTr : TreeF 148 w.heap.size w r) (hn : 1 ≤ h ∧ h ≤ l.cnt + r.cnt + 1) (okl : l.hok) (okr : r.hok) (hs : SortK (l.kvs ++ (k, v) :: r.kvs)) (hin : ∃ p ∈ (l.kvs ++ (k, v) :: r.kvs), p.1 = key) (hc : l.cnt + r.cnt ≤ 800000) (ihl : ∀ (ky : ByteArray) w0, TreeF 148 w0.heap.size w0 l → (∃ p ∈ l.kvs, p.1 = ky) → Runs Try.prog 64 #[.pointer (taddr l), .string ky] w0 (fun v_ w' => w0.grownBy w' none ∧ ∃ t', v_ = .pointer (taddr t') ∧ TreeF 148 w'.heap.size w' t' ∧ t'.kvs = delK l.kvs ky ∧ t'.hok)) (ihr : ∀ (ky : ByteArray) w0, TreeF 148 w0.heap.size w0 r → (∃ p ∈ r.kvs, p.1 = ky) → Runs Try.prog 64 #[.pointer (taddr r), .string ky] w0 (fun v_ w' => w0.grownBy w' none ∧ ∃ t', v_ = .pointer (taddr t') ∧ TreeF 148 w'.heap.size w' t' ∧ t'.kvs = delK r.kvs ky ∧ t'.hok)) :
    Runs Try.prog 64 #[.pointer (some ⟨g, 0, none⟩), .string key] w (fun v_ w' => w.grownBy w' none ∧ ∃ t', v_ = .pointer (taddr t') ∧ TreeF 148 w'.heap.size w' t' ∧ t'.kvs = delK (l.kvs ++ (k, v) :: r.kvs) key ∧ t'.hok) := by
  have hB := gb_refl w none
  refine enter Try.func64 Try.ntmps64 rfl rfl ?_
  refine C_seq (C_reg rfl ?_)
  refine L_run (R_assign rfl) rfl ?_
  refine L_nil (N_then (C_seq (C_block (C_seq (C_reg rfl ?_)))))
  refine L_run (R_move rfl) rfl ?_
  refine L_run (R_move rfl) rfl ?_
  refine L_run (R_nilck rfl) rfl ?_
  refine L_run (R_field (r := 0) rfl fld148_0 rfl) rfl ?_
  refine L_run (R_load1 rfl scl9 (hb.cell (i := 0) rfl)) rfl ?_
  refine L_run (R_lssS rfl rfl) rfl ?_
  refine L_run (R_assign rfl) rfl ?_
  refine L_nil (N_then ?_)
  refine C_if rfl (fun h1 => ?_) (fun h1 => ?_)
  · refine C_seq ?_
    refine C_draw2 rfl mix ?_
    intro w1 hs1 hz1
    replace hB := gb_tr hB hs1
    replace hb := hb.gb hs1
    replace hTl := hTl.gb hs1
    replace hTr := hTr.gb hs1
    refine ⟨fun W_ => Blk W_ g 148 [.string k, .string v, .pointer (taddr l), .pointer (taddr r), .int .i64 h] ∧ True, [0, 1, 2, 3, 4, 5, 7, 8, 9, 10, 12], ?_⟩
    refine T_takeA (i := 0) rfl (by kernel_rfl) (by kernel_rfl) (by kernel_rfl) (by kernel_rfl) (Y_of (fun _ ⟨hb, _⟩ => R_move rfl)) ⟨hb, trivial⟩ rfl ?_
    refine T_takeA (i := 1) rfl (by kernel_rfl) (by kernel_rfl) (by kernel_rfl) (by kernel_rfl) (Y_of (fun _ ⟨hb, _⟩ => R_move rfl)) ⟨hb, trivial⟩ rfl ?_
    refine T_takeA (i := 2) rfl (by kernel_rfl) (by kernel_rfl) (by kernel_rfl) (by kernel_rfl) (Y_of (fun _ ⟨hb, _⟩ => R_nilck rfl)) ⟨hb, trivial⟩ rfl ?_
    refine T_takeA (i := 3) rfl (by kernel_rfl) (by kernel_rfl) (by kernel_rfl) (by kernel_rfl) (Y_of (fun _ ⟨hb, _⟩ => R_field (r := 2) rfl fld148_2 rfl)) ⟨hb, trivial⟩ rfl ?_
    refine T_takeA (i := 4) rfl (by kernel_rfl) (by kernel_rfl) (by kernel_rfl) (by kernel_rfl) (Y_of (fun _ ⟨hb, _⟩ => R_load1 rfl scl136 (hb.cell (i := 2) rfl))) ⟨hb, trivial⟩ rfl ?_
    refine T_takeA (i := 5) rfl (by kernel_rfl) (by kernel_rfl) (by kernel_rfl) (by kernel_rfl) (Y_of (fun _ ⟨hb, _⟩ => R_move rfl)) ⟨hb, trivial⟩ rfl ?_
    refine T_takeA (i := 7) rfl (by kernel_rfl) (by kernel_rfl) (by kernel_rfl) (by kernel_rfl) (Y_of (fun _ ⟨hb, _⟩ => R_move rfl)) ⟨hb, trivial⟩ rfl ?_
    refine T_takeA (i := 8) rfl (by kernel_rfl) (by kernel_rfl) (by kernel_rfl) (by kernel_rfl) (Y_of (fun _ ⟨hb, _⟩ => R_nilck rfl)) ⟨hb, trivial⟩ rfl ?_
    refine T_takeA (i := 9) rfl (by kernel_rfl) (by kernel_rfl) (by kernel_rfl) (by kernel_rfl) (Y_of (fun _ ⟨hb, _⟩ => R_field (r := 3) rfl fld148_3 rfl)) ⟨hb, trivial⟩ rfl ?_
    refine T_takeA (i := 10) rfl (by kernel_rfl) (by kernel_rfl) (by kernel_rfl) (by kernel_rfl) (Y_of (fun _ ⟨hb, _⟩ => R_load1 rfl scl136 (hb.cell (i := 3) rfl))) ⟨hb, trivial⟩ rfl ?_
    refine T_all (rs := [6]) (by kernel_rfl) rfl (all1 (O_one rfl ?_))
    refine L_call rfl cb64 (ihl key _ hTl.top (in_lt hs hin h1)) rfl ?_
    rintro _ w2 ⟨hs2, tr1, rfl, ht1, hkv1, hok1⟩
    replace hB := gb_tr hB hs2
    replace hb := hb.gb hs2
    replace hTl := hTl.gb hs2
    replace hTr := hTr.gb hs2
    have ht1_s : w2.heap.size ≤ w2.heap.size := Nat.le_refl _
    refine L_nil (N_then ⟨fun hN_ => ⟨hb, trivial⟩, ?_⟩)
    refine T_all (rs := [11]) (by kernel_rfl) rfl (all1 (O_one rfl ?_))
    refine L_call rfl cb77 (level_ok (l := tr1) (r := r) hb ht1 hTr hok1 okr (by have h_ := del_cnt hkv1; omega)) rfl ?_
    rintro _ w3 ⟨hs3, tr2, rfl, ht2, hkv2, hok2⟩
    replace hB := gb_tr hB hs3
    replace hb := hb.gb hs3
    replace hTl := hTl.gb hs3
    replace hTr := hTr.gb hs3
    replace ht1 := ht1.gb hs3
    replace ht1_s := Nat.le_trans ht1_s hs3.size
    refine L_nil (N_then ⟨fun hN_ => ⟨hb, trivial⟩, ?_⟩)
    refine T_takeA (i := 12) rfl (by kernel_rfl) (by kernel_rfl) (by kernel_rfl) (by kernel_rfl) (Y_of (fun _ ⟨hb, _⟩ => R_assign rfl)) ⟨hb, trivial⟩ rfl ?_
    refine T_done (by kernel_rfl) (CalmE.normal ?_)
    refine N_then (C_ret (R_in (R_then ?_)))
    refine ret1 Try.results64 rfl ?_
    exact ⟨hB, tr2, rfl, ht2.top, by rw [hkv2, hkv1, delK_lt hs h1], hok2⟩
  · refine C_seq (C_reg rfl ?_)
    refine L_run (R_move rfl) rfl ?_
    refine L_run (R_move rfl) rfl ?_
    refine L_run (R_nilck rfl) rfl ?_
    refine L_run (R_field (r := 0) rfl fld148_0 rfl) rfl ?_
    refine L_run (R_load1 rfl scl9 (hb.cell (i := 0) rfl)) rfl ?_
    refine L_run (R_gtrS rfl rfl) rfl ?_
    refine L_run (R_assign rfl) rfl ?_
    refine L_nil (N_then ?_)
    refine C_if rfl (fun h2 => ?_) (fun h2 => ?_)
    · refine C_seq ?_
      refine C_draw2 rfl mix ?_
      intro w4 hs4 hz2
      replace hB := gb_tr hB hs4
      replace hb := hb.gb hs4
      replace hTl := hTl.gb hs4
      replace hTr := hTr.gb hs4
      refine ⟨fun W_ => Blk W_ g 148 [.string k, .string v, .pointer (taddr l), .pointer (taddr r), .int .i64 h] ∧ True, [0, 1, 2, 3, 4, 5, 6, 7, 8, 9, 12], ?_⟩
      refine T_takeA (i := 0) rfl (by kernel_rfl) (by kernel_rfl) (by kernel_rfl) (by kernel_rfl) (Y_of (fun _ ⟨hb, _⟩ => R_move rfl)) ⟨hb, trivial⟩ rfl ?_
      refine T_takeA (i := 1) rfl (by kernel_rfl) (by kernel_rfl) (by kernel_rfl) (by kernel_rfl) (Y_of (fun _ ⟨hb, _⟩ => R_move rfl)) ⟨hb, trivial⟩ rfl ?_
      refine T_takeA (i := 2) rfl (by kernel_rfl) (by kernel_rfl) (by kernel_rfl) (by kernel_rfl) (Y_of (fun _ ⟨hb, _⟩ => R_nilck rfl)) ⟨hb, trivial⟩ rfl ?_
      refine T_takeA (i := 3) rfl (by kernel_rfl) (by kernel_rfl) (by kernel_rfl) (by kernel_rfl) (Y_of (fun _ ⟨hb, _⟩ => R_field (r := 2) rfl fld148_2 rfl)) ⟨hb, trivial⟩ rfl ?_
      refine T_takeA (i := 4) rfl (by kernel_rfl) (by kernel_rfl) (by kernel_rfl) (by kernel_rfl) (Y_of (fun _ ⟨hb, _⟩ => R_load1 rfl scl136 (hb.cell (i := 2) rfl))) ⟨hb, trivial⟩ rfl ?_
      refine T_takeA (i := 5) rfl (by kernel_rfl) (by kernel_rfl) (by kernel_rfl) (by kernel_rfl) (Y_of (fun _ ⟨hb, _⟩ => R_move rfl)) ⟨hb, trivial⟩ rfl ?_
      refine T_takeA (i := 6) rfl (by kernel_rfl) (by kernel_rfl) (by kernel_rfl) (by kernel_rfl) (Y_of (fun _ ⟨hb, _⟩ => R_nilck rfl)) ⟨hb, trivial⟩ rfl ?_
      refine T_takeA (i := 7) rfl (by kernel_rfl) (by kernel_rfl) (by kernel_rfl) (by kernel_rfl) (Y_of (fun _ ⟨hb, _⟩ => R_field (r := 3) rfl fld148_3 rfl)) ⟨hb, trivial⟩ rfl ?_
      refine T_takeA (i := 8) rfl (by kernel_rfl) (by kernel_rfl) (by kernel_rfl) (by kernel_rfl) (Y_of (fun _ ⟨hb, _⟩ => R_load1 rfl scl136 (hb.cell (i := 3) rfl))) ⟨hb, trivial⟩ rfl ?_
      refine T_takeA (i := 9) rfl (by kernel_rfl) (by kernel_rfl) (by kernel_rfl) (by kernel_rfl) (Y_of (fun _ ⟨hb, _⟩ => R_move rfl)) ⟨hb, trivial⟩ rfl ?_
      refine T_all (rs := [10]) (by kernel_rfl) rfl (all1 (O_one rfl ?_))
      refine L_call rfl cb64 (ihr key _ hTr.top (in_gt hs hin h2)) rfl ?_
      rintro _ w5 ⟨hs5, tr3, rfl, ht3, hkv3, hok3⟩
      replace hB := gb_tr hB hs5
      replace hb := hb.gb hs5
      replace hTl := hTl.gb hs5
      replace hTr := hTr.gb hs5
      have ht3_s : w5.heap.size ≤ w5.heap.size := Nat.le_refl _
      refine L_nil (N_then ⟨fun hN_ => ⟨hb, trivial⟩, ?_⟩)
      refine T_all (rs := [11]) (by kernel_rfl) rfl (all1 (O_one rfl ?_))
      refine L_call rfl cb77 (level_ok (l := l) (r := tr3) hb hTl ht3 okl hok3 (by have h_ := del_cnt hkv3; omega)) rfl ?_
      rintro _ w6 ⟨hs6, tr4, rfl, ht4, hkv4, hok4⟩
      replace hB := gb_tr hB hs6
      replace hb := hb.gb hs6
      replace hTl := hTl.gb hs6
      replace hTr := hTr.gb hs6
      replace ht3 := ht3.gb hs6
      replace ht3_s := Nat.le_trans ht3_s hs6.size
      refine L_nil (N_then ⟨fun hN_ => ⟨hb, trivial⟩, ?_⟩)
      refine T_takeA (i := 12) rfl (by kernel_rfl) (by kernel_rfl) (by kernel_rfl) (by kernel_rfl) (Y_of (fun _ ⟨hb, _⟩ => R_assign rfl)) ⟨hb, trivial⟩ rfl ?_
      refine T_done (by kernel_rfl) (CalmE.normal ?_)
      refine N_then (C_ret (R_in (R_then ?_)))
      refine ret1 Try.results64 rfl ?_
      exact ⟨hB, tr4, rfl, ht4.top, by rw [hkv4, hkv3, delK_gt hs h2], hok4⟩
    · refine C_seq (C_reg rfl ?_)
      refine L_run (R_move rfl) rfl ?_
      refine L_run (R_nilck rfl) rfl ?_
      refine L_run (R_field (r := 2) rfl fld148_2 rfl) rfl ?_
      refine L_run (R_load1 rfl scl136 (hb.cell (i := 2) rfl)) rfl ?_
      refine L_run (R_eqlT rfl rfl Try.underlying136) rfl ?_
      refine L_run (R_assign rfl) rfl ?_
      refine L_nil (N_then ?_)
      refine C_if rfl (fun h3 => ?_) (fun h3 => ?_)
      · refine C_seq (C_reg rfl ?_)
        refine L_run (R_move rfl) rfl ?_
        refine L_run (R_nilck rfl) rfl ?_
        refine L_run (R_field (r := 3) rfl fld148_3 rfl) rfl ?_
        refine L_run (R_load1 rfl scl136 (hb.cell (i := 3) rfl)) rfl ?_
        refine L_run (R_assign rfl) rfl ?_
        refine L_nil (N_then (C_ret (R_in (R_then ?_))))
        refine ret1 Try.results64 rfl ?_
        obtain rfl : k = key := slt_tri h2 h1
        have e_ := kvs_nil h3
        exact ⟨hB, r, rfl, hTr.top, by rw [delK_eq hs, e_, List.nil_append], okr⟩
      · refine C_seq (C_reg rfl ?_)
        refine L_run (R_move rfl) rfl ?_
        refine L_run (R_nilck rfl) rfl ?_
        refine L_run (R_field (r := 3) rfl fld148_3 rfl) rfl ?_
        refine L_run (R_load1 rfl scl136 (hb.cell (i := 3) rfl)) rfl ?_
        refine L_run (R_eqlT rfl rfl Try.underlying136) rfl ?_
        refine L_run (R_assign rfl) rfl ?_
        refine L_nil (N_then ?_)
        refine C_if rfl (fun h4 => ?_) (fun h4 => ?_)
        · refine C_seq (C_reg rfl ?_)
          refine L_run (R_move rfl) rfl ?_
          refine L_run (R_nilck rfl) rfl ?_
          refine L_run (R_field (r := 2) rfl fld148_2 rfl) rfl ?_
          refine L_run (R_load1 rfl scl136 (hb.cell (i := 2) rfl)) rfl ?_
          refine L_run (R_assign rfl) rfl ?_
          refine L_nil (N_then (C_ret (R_in (R_then ?_))))
          refine ret1 Try.results64 rfl ?_
          obtain rfl : k = key := slt_tri h2 h1
          have e_ := kvs_nil h4
          exact ⟨hB, l, rfl, hTl.top, by rw [delK_eq hs, e_, List.append_nil], okl⟩
        · refine C_skip (N_in (N_then (C_seq (C_reg rfl ?_))))
          refine L_run (R_move rfl) rfl ?_
          refine L_run (R_nilck rfl) rfl ?_
          refine L_run (R_field (r := 3) rfl fld148_3 rfl) rfl ?_
          refine L_run (R_load1 rfl scl136 (hb.cell (i := 3) rfl)) rfl ?_
          refine L_call rfl cb78 (least_ok hTr.top h4) rfl ?_
          rintro _ w7 ⟨hs7, g1, k1, v1, p1, p2, h5, rfl, hb1, hhd1⟩
          replace hB := gb_tr hB hs7
          replace hb := hb.gb hs7
          replace hTl := hTl.gb hs7
          replace hTr := hTr.gb hs7
          refine L_run (R_assign rfl) rfl ?_
          refine L_nil (N_then (C_seq ?_))
          refine C_draw2 rfl mix ?_
          intro w8 hs8 hz3
          replace hB := gb_tr hB hs8
          replace hb := hb.gb hs8
          replace hTl := hTl.gb hs8
          replace hTr := hTr.gb hs8
          replace hb1 := hb1.gb hs8
          refine ⟨fun W_ => Blk W_ g 148 [.string k, .string v, .pointer (taddr l), .pointer (taddr r), .int .i64 h] ∧ Blk W_ g1 148 [.string k1, .string v1, p1, p2, .int .i64 h5] ∧ True, [0, 1, 2, 3, 4, 5, 6, 7, 8, 9, 10, 11, 12, 15], ?_⟩
          refine T_takeA (i := 0) rfl (by kernel_rfl) (by kernel_rfl) (by kernel_rfl) (by kernel_rfl) (Y_of (fun _ ⟨hb, hb1, _⟩ => R_move rfl)) ⟨hb, hb1, trivial⟩ rfl ?_
          refine T_takeA (i := 1) rfl (by kernel_rfl) (by kernel_rfl) (by kernel_rfl) (by kernel_rfl) (Y_of (fun _ ⟨hb, hb1, _⟩ => R_move rfl)) ⟨hb, hb1, trivial⟩ rfl ?_
          refine T_takeA (i := 2) rfl (by kernel_rfl) (by kernel_rfl) (by kernel_rfl) (by kernel_rfl) (Y_of (fun _ ⟨hb, hb1, _⟩ => R_nilck rfl)) ⟨hb, hb1, trivial⟩ rfl ?_
          refine T_takeA (i := 3) rfl (by kernel_rfl) (by kernel_rfl) (by kernel_rfl) (by kernel_rfl) (Y_of (fun _ ⟨hb, hb1, _⟩ => R_field (r := 2) rfl fld148_2 rfl)) ⟨hb, hb1, trivial⟩ rfl ?_
          refine T_takeA (i := 4) rfl (by kernel_rfl) (by kernel_rfl) (by kernel_rfl) (by kernel_rfl) (Y_of (fun _ ⟨hb, hb1, _⟩ => R_load1 rfl scl136 (hb.cell (i := 2) rfl))) ⟨hb, hb1, trivial⟩ rfl ?_
          refine T_takeA (i := 5) rfl (by kernel_rfl) (by kernel_rfl) (by kernel_rfl) (by kernel_rfl) (Y_of (fun _ ⟨hb, hb1, _⟩ => R_move rfl)) ⟨hb, hb1, trivial⟩ rfl ?_
          refine T_takeA (i := 6) rfl (by kernel_rfl) (by kernel_rfl) (by kernel_rfl) (by kernel_rfl) (Y_of (fun _ ⟨hb, hb1, _⟩ => R_nilck rfl)) ⟨hb, hb1, trivial⟩ rfl ?_
          refine T_takeA (i := 7) rfl (by kernel_rfl) (by kernel_rfl) (by kernel_rfl) (by kernel_rfl) (Y_of (fun _ ⟨hb, hb1, _⟩ => R_field (r := 3) rfl fld148_3 rfl)) ⟨hb, hb1, trivial⟩ rfl ?_
          refine T_takeA (i := 8) rfl (by kernel_rfl) (by kernel_rfl) (by kernel_rfl) (by kernel_rfl) (Y_of (fun _ ⟨hb, hb1, _⟩ => R_load1 rfl scl136 (hb.cell (i := 3) rfl))) ⟨hb, hb1, trivial⟩ rfl ?_
          refine T_takeA (i := 9) rfl (by kernel_rfl) (by kernel_rfl) (by kernel_rfl) (by kernel_rfl) (Y_of (fun _ ⟨hb, hb1, _⟩ => R_move rfl)) ⟨hb, hb1, trivial⟩ rfl ?_
          refine T_takeA (i := 10) rfl (by kernel_rfl) (by kernel_rfl) (by kernel_rfl) (by kernel_rfl) (Y_of (fun _ ⟨hb, hb1, _⟩ => R_nilck rfl)) ⟨hb, hb1, trivial⟩ rfl ?_
          refine T_takeA (i := 11) rfl (by kernel_rfl) (by kernel_rfl) (by kernel_rfl) (by kernel_rfl) (Y_of (fun _ ⟨hb, hb1, _⟩ => R_field (r := 0) rfl fld148_0 rfl)) ⟨hb, hb1, trivial⟩ rfl ?_
          refine T_takeA (i := 12) rfl (by kernel_rfl) (by kernel_rfl) (by kernel_rfl) (by kernel_rfl) (Y_of (fun _ ⟨hb, hb1, _⟩ => R_load1 rfl scl9 (hb1.cell (i := 0) rfl))) ⟨hb, hb1, trivial⟩ rfl ?_
          refine T_all (rs := [13]) (by kernel_rfl) rfl (all1 (O_one rfl ?_))
          refine L_call rfl cb64 (ihr k1 _ hTr.top (in_first hhd1)) rfl ?_
          rintro _ w9 ⟨hs9, tr5, rfl, ht5, hkv5, hok5⟩
          replace hB := gb_tr hB hs9
          replace hb := hb.gb hs9
          replace hTl := hTl.gb hs9
          replace hTr := hTr.gb hs9
          replace hb1 := hb1.gb hs9
          have ht5_s : w9.heap.size ≤ w9.heap.size := Nat.le_refl _
          refine L_nil (N_then ⟨fun hN_ => ⟨hb, hb1, trivial⟩, ?_⟩)
          refine T_all (rs := [14]) (by kernel_rfl) rfl (all1 (O_one rfl ?_))
          refine L_call rfl cb77 (level_ok (l := l) (r := tr5) hb1 hTl ht5 okl hok5 (by have h_ := del_cnt hkv5; omega)) rfl ?_
          rintro _ w10 ⟨hs10, tr6, rfl, ht6, hkv6, hok6⟩
          replace hB := gb_tr hB hs10
          replace hb := hb.gb hs10
          replace hTl := hTl.gb hs10
          replace hTr := hTr.gb hs10
          replace hb1 := hb1.gb hs10
          replace ht5 := ht5.gb hs10
          replace ht5_s := Nat.le_trans ht5_s hs10.size
          refine L_nil (N_then ⟨fun hN_ => ⟨hb, hb1, trivial⟩, ?_⟩)
          refine T_takeA (i := 15) rfl (by kernel_rfl) (by kernel_rfl) (by kernel_rfl) (by kernel_rfl) (Y_of (fun _ ⟨hb, hb1, _⟩ => R_assign rfl)) ⟨hb, hb1, trivial⟩ rfl ?_
          refine T_done (by kernel_rfl) (CalmE.normal ?_)
          refine N_then (C_ret ?_)
          refine ret1 Try.results64 rfl ?_
          obtain rfl : k = key := slt_tri h2 h1
          exact ⟨hB, tr6, rfl, ht6.top, by rw [hkv6, hkv5, delK_eq hs, ← del_first (sortK_app hs).2.1 hhd1], hok6⟩

theorem wo_ok : ∀ (t : Tr) {key : ByteArray} {w : World} {hi : Nat} (ht : TreeF 148 hi w t) (ok : t.hok) (hs : SortK t.kvs) (hin : ∃ p ∈ t.kvs, p.1 = key) (hc : t.cnt ≤ 800000), Runs Try.prog 64 #[.pointer (taddr t), .string key] w (fun v_ w' => w.grownBy w' none ∧ ∃ t', v_ = .pointer (taddr t') ∧ TreeF 148 w'.heap.size w' t' ∧ t'.kvs = delK t.kvs key ∧ t'.hok)
  | .nil, key, w, hi, ht, ok, hs, hin, hc => by obtain ⟨p, hp, _⟩ := hin; cases hp
  | .node g k v h l r, key, w, hi, ht, ok, hs, hin, hc => by
    have hs' := sortK_app hs
    rw [Tr.cnt_node] at hc
    exact wo_c ht.2.1 ht.2.2.1.top ht.2.2.2.top ⟨ok.1, ok.2.1⟩ ok.2.2.1 ok.2.2.2 hs hin (by omega) (fun ky w0 h0 hi0 => wo_ok l h0 ok.2.2.1 hs'.1 hi0 (by omega)) (fun ky w0 h0 hi0 => wo_ok r h0 ok.2.2.2 hs'.2.1 hi0 (by omega))
end Go.Proofs.Ytbmohojdlgedpaa
