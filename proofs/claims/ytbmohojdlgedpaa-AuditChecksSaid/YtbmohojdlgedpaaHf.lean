/-
  Contracts of the package table: operations applied.
-/
import Derived.Test.YtbmohojdlgedpaaHe
import Derived.Test.YtbmohojdlgedpaaVd
namespace Go.Proofs.Ytbmohojdlgedpaa
open Go.RowKit Gw Pl
set_option linter.unusedVariables false
set_option linter.unusedSimpArgs false
theorem agg71 : aggB Try.prog 71 3 = true := by kernel_rfl
theorem cb48 : callB Try.prog 48 = true := by kernel_rfl
theorem cb49 : callB Try.prog 49 = true := by kernel_rfl
theorem cb50 : callB Try.prog 50 = true := by kernel_rfl
theorem slc80 : slcB Try.prog 80 71 3 40 = true := by kernel_rfl
theorem sz71 : szB Try.prog 71 3 = true := by kernel_rfl
theorem zer71 : (Try.prog.info? 71).bind (·.zero) = some (.agg #[.int .i64 0, .string (⟨#[]⟩), .string (⟨#[]⟩)]) := by kernel_rfl
theorem Sli.any {t lo hi : Nat} {w : World} {A : Option Addr} {vs : List Value} (h : Sli t lo hi w A vs) : Sli 0 0 w.heap.size w A vs := h.zero.bare
theorem tcnt_lt {t : Tr} {n : Nat} (h : t.kvs.length ≤ n) (hn : n ≤ 800000) : t.cnt ≤ 800000 := by rw [Tr.cnt_le]; omega
theorem apF_cnt {t t0 : Tr} {l : List Opd} {i : Nat} (h : t.kvs = (l.take i).foldl apK t0.kvs) (hc : t0.kvs.length + l.length ≤ 800000) : t.cnt ≤ 800000 := by
  have h1 := apF_len (l.take i) (l := t0.kvs)
  rw [← h, List.length_take] at h1
  rw [Tr.cnt_le]
  omega
theorem apF_sorted {t t0 : Tr} {l : List Opd} {i : Nat} (h : t.kvs = (l.take i).foldl apK t0.kvs) (hs : SortK t0.kvs) : SortK t.kvs := by rw [h]; exact apF_sort _ hs
theorem tabapply_ok {w wa : World} {gT gt hi : Nat} {t : Tr} {bs : Int} {l : List Opd} {A : Option Addr} {c : Nat} (hbT : Blk wa gT 120 [.pointer (some ⟨gt, 0, none⟩), .int .i64 bs]) (hbt : Blk wa gt 138 [.pointer (taddr t), .int .i64 (t.kvs.length : Int)]) (hT : TreeF 148 hi wa t) (hs : SortK t.kvs) (hok : t.hok) (hB : w.grownBy wa none) (gT0 : w.heap.size ≤ gT) (gt0 : w.heap.size ≤ gt) (hc : t.kvs.length + l.length ≤ 800000) {J : World → Prop} (hJ : J wa) (hJn : ∀ w w', J w → w.grownBy w' none → J w') (hJt : ∀ w w' cs, J w → Blk w gt 138 cs → w.grownBy w' (some gt) → J w') (hJT : ∀ w w' cs, J w → Blk w gT 120 cs → w.grownBy w' (some gT) → J w') (hJf : ∀ w w' g cs, J w → Blk w g 71 cs → wa.heap.size ≤ g → w.grownBy w' (some g) → J w') (hJS : ∀ w, J w → Sli 0 0 w.heap.size w A (fl encOp l)) :
    Runs Try.prog 31 #[.pointer (some ⟨gT, 0, none⟩), .slice A l.length c] wa (fun v_ w' => w.grownBy w' none ∧ J w' ∧ ∃ (n' : Int) (t' : Tr) (b' : Int), v_ = .int .i64 n' ∧ Blk w' gT 120 [.pointer (some ⟨gt, 0, none⟩), .int .i64 b'] ∧ Blk w' gt 138 [.pointer (taddr t'), .int .i64 (t'.kvs.length : Int)] ∧ TreeF 148 w'.heap.size w' t' ∧ t'.kvs = l.foldl apK t.kvs ∧ t'.hok) := by
  have hlt_ : wa.heap.size ≤ wa.heap.size := Nat.le_refl _
  refine enter Try.func31 Try.ntmps31 rfl rfl ?_
  refine C_seq (C_reg rfl ?_)
  refine L_run (R_assign rfl) rfl ?_
  refine L_nil (N_then (C_seq (C_reg rfl ?_)))
  refine L_run (R_assign rfl) rfl ?_
  refine L_nil (N_then (C_seq (C_seq (C_reg rfl ?_))))
  refine L_run (R_move rfl) rfl ?_
  refine L_run (R_lenSl rfl slc80) rfl ?_
  refine L_run (R_move rfl) rfl ?_
  refine L_nil (N_then (C_block ?_))
  refine C_loop (fun m_ a_ w_ => ∃ (σ_ : Nat → Value) (tr : Tr) (by_ : Int) (i : Nat) (nn : Nat), a_ = Ac 60 σ_ [] [(0, .pointer (some ⟨gT, 0, none⟩)), (1, .slice A l.length c), (4, .int .i64 0), (5, .int .i64 (nn : Int)), (10, .slice A l.length c), (11, .int .i64 (l.length : Int)), (12, .int .i64 (i : Int))] ∧ w.grownBy w_ none ∧ J w_ ∧ wa.heap.size ≤ w_.heap.size ∧ Blk w_ gT 120 [.pointer (some ⟨gt, 0, none⟩), .int .i64 by_] ∧ Blk w_ gt 138 [.pointer (taddr tr), .int .i64 (tr.kvs.length : Int)] ∧ TreeF 148 w_.heap.size w_ tr ∧ (tr.kvs = (l.take i).foldl apK t.kvs) ∧ (tr.hok) ∧ (nn ≤ i) ∧ (i ≤ l.length) ∧ l.length - i = m_) (l.length - 0) ?_ ?_
  · exact ⟨_, t, bs, 0, 0, Ac_frg ⟨rfl, rfl, rfl, (agr rfl (by first | rfl | (congr 1; omega) | (congr 1; simp; done) | (congr 1; simp only [IntKind.wrap_u64, IntKind.wrap_i64, IntKind.wrap_u8]; omega) | (congr 1 <;> omega))), rfl, rfl, (agr rfl (by first | rfl | (congr 1; omega) | (congr 1; simp; done) | (congr 1; simp only [IntKind.wrap_u64, IntKind.wrap_i64, IntKind.wrap_u8]; omega) | (congr 1 <;> omega))), trivial⟩, hB, hJ, hlt_, hbT, hbt, hT.top, rfl, hok, (Nat.le_refl _), (Nat.zero_le _), rfl⟩
  · clear hB
    clear hbT hbt hT hJ hlt_
    rintro m_ a_ w1 ⟨σ_, tr, by_, i, nn, rfl, hB, hJ, hlt_, hbT, hbt, hT, hkv, hok_, hnn, hi_, rfl⟩
    refine C_seq (C_reg rfl ?_)
    refine L_run (R_lss rfl rfl) rfl ?_
    refine L_nil (N_then (C_seq ?_))
    refine C_if rfl (fun h1 => ?_) (fun h1 => ?_)
    · refine C_skip (N_then (C_seq (C_block (C_seq (C_reg rfl ?_)))))
      have hlt : i < l.length := by omega
      have hSx := (hJS _ hJ)
      have hl1 : i < l.length := by first | omega | (simp; omega)
      refine T_index (xs := l) (i := i) EncOp rfl rfl (by first | rfl | omega) slc80 hl1 hSx rfl ?_
      intro g1 o1 ha1
      refine L_run (R_loadA (vs := [.int .i64 ((l[i]).kind), .string ((l[i]).key), .string ((l[i]).val)]) rfl agg71 (At.pre ha1 rfl) rfl) rfl ?_
      refine L_alloc (cs := [.int .i64 0, .string (⟨#[]⟩), .string (⟨#[]⟩)]) zer71 rfl rfl ?_
      intro g2 w2 eg1 hb1 hs1 hz1
      have ge1 : w.heap.size ≤ g2 := eg_ge hB eg1
      have lw1 : wa.heap.size ≤ g2 := (Eq.symm eg1) ▸ hlt_
      have lt1 : gT < g2 := lt_of_eg hbT.lt eg1
      have lt2 : gt < g2 := lt_of_eg hbt.lt eg1
      replace hB := gb_tr hB hs1
      replace hJ := hJn _ _ hJ hs1
      replace hlt_ := Nat.le_trans hlt_ hs1.size
      replace hbT := hbT.gb hs1
      replace hbt := hbt.gb hs1
      replace hT := hT.gb hs1
      replace ha1 := At.gb ha1 hs1 (by simp)
      refine L_stA (vs := [.int .i64 ((l[i]).kind), .string ((l[i]).key), .string ((l[i]).val)]) rfl rfl rfl sz71 rfl hb1 rfl ?_
      intro w3 hb2 hs2 hz2
      replace hB := gb_trg hB hs2 ge1
      replace hJ := hJf _ _ _ _ hJ hb1 (by omega) hs2
      replace hlt_ := Nat.le_trans hlt_ hs2.size
      replace hbT := hbT.grown hs2 (ne_lt lt1)
      replace hbt := hbt.grown hs2 (ne_lt lt2)
      replace hT := hT.other hb1 rfl hs2
      refine L_nil (N_then (C_seq (C_seq (C_reg rfl ?_))))
      refine L_run (R_move rfl) rfl ?_
      refine L_run (R_eqlpPN rfl rfl Try.underlying76) rfl ?_
      refine L_run (R_move rfl) rfl ?_
      refine L_yes rfl rfl rfl rfl ?_
      refine L_run (R_loadA (vs := [.int .i64 ((l[i]).kind), .string ((l[i]).key), .string ((l[i]).val)]) rfl agg71 (At.pre (hb2.at_ 0) rfl) rfl) rfl ?_
      refine L_yes rfl rfl rfl rfl ?_
      refine L_call rfl cb48 (op_Right) rfl ?_
      rintro _ w4 ⟨hs3, rfl⟩
      replace hB := gb_tr hB hs3
      replace hJ := hJn _ _ hJ hs3
      replace hlt_ := Nat.le_trans hlt_ hs3.size
      replace hbT := hbT.gb hs3
      replace hbt := hbt.gb hs3
      replace hT := hT.gb hs3
      replace hb2 := hb2.gb hs3
      refine L_yes rfl rfl rfl rfl ?_
      refine L_run (R_notD rfl) rfl ?_
      refine L_run (R_pickF rfl rfl rfl) rfl ?_
      refine L_nil (N_then ?_)
      refine C_ifN rfl (fun h2 => ?_) (fun h2 => ?_)
      · refine C_exit (X_then (X_hit (N_then (C_reg rfl ?_))))
        refine L_run (R_add64 rfl rfl (by omega)) rfl ?_
        refine L_run (R_move rfl) rfl ?_
        refine L_nil (N_then ?_)
        exact ⟨l.length - (i + 1), by omega, _, tr, by_, (i + 1), nn, Ac_frg ⟨rfl, rfl, rfl, rfl, rfl, rfl, (agr rfl (by first | rfl | (congr 1; omega) | (congr 1; simp; done) | (congr 1; simp only [IntKind.wrap_u64, IntKind.wrap_i64, IntKind.wrap_u8]; omega) | (congr 1 <;> omega))), trivial⟩, hB, hJ, hlt_, hbT, hbt, hT.top, (by rw [apF_go hlt, ← hkv, apK_no h2]), hok_, (by omega), (by omega), rfl⟩
      · refine C_skip (N_then (C_seq (C_reg rfl ?_)))
        refine L_run (R_move rfl) rfl ?_
        refine L_run (R_add64 rfl rfl (by omega)) rfl ?_
        refine L_run (R_assign rfl) rfl ?_
        refine L_nil (N_then (C_seq (C_seq (C_reg rfl ?_))))
        refine L_run (R_field (r := 0) rfl fld71_0 rfl) rfl ?_
        refine L_run (R_load1 rfl scl3 (hb2.cell (i := 0) rfl)) rfl ?_
        refine L_run (R_eql rfl rfl) rfl ?_
        refine L_nil (N_then ?_)
        refine C_if rfl (fun h3 => ?_) (fun h3 => ?_)
        · refine C_seq (C_reg rfl ?_)
          refine L_run (R_move rfl) rfl ?_
          refine L_run (R_field (r := 1) rfl fld71_1 rfl) rfl ?_
          refine L_run (R_load1 rfl scl9 (hb2.cell (i := 1) rfl)) rfl ?_
          refine L_run (R_field (r := 2) rfl fld71_2 rfl) rfl ?_
          refine L_run (R_load1 rfl scl9 (hb2.cell (i := 2) rfl)) rfl ?_
          refine L_call rfl cb49 (tabput_ok (J := (fun w_ => J w_ ∧ wa.heap.size ≤ w_.heap.size ∧ Blk w_ g2 71 [.int .i64 ((l[i]).kind), .string ((l[i]).key), .string ((l[i]).val)] ∧ True)) hbT hbt hT (apF_sorted hkv hs) hok_ hB gT0 gt0 (apF_cnt hkv hc) ⟨hJ, hlt_, hb2, trivial⟩ (by rintro w_ w2_ ⟨hJ, hlt_, hb2, _⟩ hs_; replace hJ := hJn _ _ hJ hs_; replace hlt_ := Nat.le_trans hlt_ hs_.size; replace hb2 := hb2.gb hs_; exact ⟨hJ, hlt_, hb2, trivial⟩) (by rintro w_ w2_ cs_ ⟨hJ, hlt_, hb2, _⟩ hb_ hs_; replace hJ := hJt _ _ _ hJ hb_ hs_; replace hlt_ := Nat.le_trans hlt_ hs_.size; replace hb2 := hb2.grown hs_ (ne_gt lt2); exact ⟨hJ, hlt_, hb2, trivial⟩) (by rintro w_ w2_ cs_ ⟨hJ, hlt_, hb2, _⟩ hb_ hs_; replace hJ := hJT _ _ _ hJ hb_ hs_; replace hlt_ := Nat.le_trans hlt_ hs_.size; replace hb2 := hb2.grown hs_ (ne_gt lt1); exact ⟨hJ, hlt_, hb2, trivial⟩)) rfl ?_
          rintro _ w5 ⟨hB, ⟨hJ, hlt_, hb2, _⟩, tr1, by1, hb3, hb4, ht1, hkv1, hok1⟩
          refine L_nil (N_then (C_exit (X_then (X_hit (N_then (C_reg rfl ?_))))))
          refine L_run (R_add64 rfl rfl (by omega)) rfl ?_
          refine L_run (R_move rfl) rfl ?_
          refine L_nil (N_then ?_)
          exact ⟨l.length - (i + 1), by omega, _, tr1, by1, (i + 1), (nn + 1), Ac_frg ⟨rfl, rfl, rfl, (agr rfl (by first | rfl | (congr 1; omega) | (congr 1; simp; done) | (congr 1; simp only [IntKind.wrap_u64, IntKind.wrap_i64, IntKind.wrap_u8]; omega) | (congr 1 <;> omega))), rfl, rfl, (agr rfl (by first | rfl | (congr 1; omega) | (congr 1; simp; done) | (congr 1; simp only [IntKind.wrap_u64, IntKind.wrap_i64, IntKind.wrap_u8]; omega) | (congr 1 <;> omega))), trivial⟩, hB, hJ, hlt_, hb3, hb4, ht1.top, (by rw [apF_go hlt, ← hkv, apK_put h2 h3]; exact hkv1), hok1, (by omega), (by omega), rfl⟩
        · refine C_skip (N_then (C_seq ?_))
          refine C_draw2 rfl mix ?_
          intro w6 hs5 hz3
          replace hB := gb_tr hB hs5
          replace hJ := hJn _ _ hJ hs5
          replace hlt_ := Nat.le_trans hlt_ hs5.size
          replace hbT := hbT.gb hs5
          replace hbt := hbt.gb hs5
          replace hT := hT.gb hs5
          replace hb2 := hb2.gb hs5
          refine ⟨fun W_ => Blk W_ gT 120 [.pointer (some ⟨gt, 0, none⟩), .int .i64 by_] ∧ Blk W_ g2 71 [.int .i64 ((l[i]).kind), .string ((l[i]).key), .string ((l[i]).val)] ∧ True, [0, 1, 2, 3, 4, 5, 7, 8, 9, 10, 11], ?_⟩
          refine T_takeA (i := 0) rfl (by kernel_rfl) (by kernel_rfl) (by kernel_rfl) (by kernel_rfl) (Y_of (fun _ ⟨hbT, hb2, _⟩ => R_move rfl)) ⟨hbT, hb2, trivial⟩ rfl ?_
          refine T_takeA (i := 1) rfl (by kernel_rfl) (by kernel_rfl) (by kernel_rfl) (by kernel_rfl) (Y_of (fun _ ⟨hbT, hb2, _⟩ => R_nilck rfl)) ⟨hbT, hb2, trivial⟩ rfl ?_
          refine T_takeA (i := 2) rfl (by kernel_rfl) (by kernel_rfl) (by kernel_rfl) (by kernel_rfl) (Y_of (fun _ ⟨hbT, hb2, _⟩ => R_field (r := 0) rfl fld120_0 rfl)) ⟨hbT, hb2, trivial⟩ rfl ?_
          refine T_takeA (i := 3) rfl (by kernel_rfl) (by kernel_rfl) (by kernel_rfl) (by kernel_rfl) (Y_of (fun _ ⟨hbT, hb2, _⟩ => R_load1 rfl scl117 (hbT.cell (i := 0) rfl))) ⟨hbT, hb2, trivial⟩ rfl ?_
          refine T_takeA (i := 4) rfl (by kernel_rfl) (by kernel_rfl) (by kernel_rfl) (by kernel_rfl) (Y_of (fun _ ⟨hbT, hb2, _⟩ => R_field (r := 1) rfl fld71_1 rfl)) ⟨hbT, hb2, trivial⟩ rfl ?_
          refine T_takeA (i := 5) rfl (by kernel_rfl) (by kernel_rfl) (by kernel_rfl) (by kernel_rfl) (Y_of (fun _ ⟨hbT, hb2, _⟩ => R_load1 rfl scl9 (hb2.cell (i := 1) rfl))) ⟨hbT, hb2, trivial⟩ rfl ?_
          refine T_all (rs := [6]) (by kernel_rfl) rfl (all1 (O_one rfl ?_))
          refine L_call rfl cb50 (tdel_ok (t := tr) (key := (l[i]).key) hbt hT (apF_sorted hkv hs) hok_ (apF_cnt hkv hc)) rfl ?_
          rintro _ w7 ⟨hs6, rfl, tr2, hb5, ht2, hkv2, hok2⟩
          replace hB := gb_trg hB hs6 gt0
          replace hJ := hJt _ _ _ hJ hbt hs6
          replace hlt_ := Nat.le_trans hlt_ hs6.size
          replace hbT := hbT.grown hs6 (ne_ty hbT hbt rfl)
          replace hT := hT.other hbt rfl hs6
          replace hb2 := hb2.grown hs6 (ne_gt lt2)
          refine L_nil (N_then ⟨fun hN_ => ⟨hbT, hb2, trivial⟩, ?_⟩)
          refine T_takeA (i := 7) rfl (by kernel_rfl) (by kernel_rfl) (by kernel_rfl) (by kernel_rfl) (Y_of (fun _ ⟨hbT, hb2, _⟩ => R_move rfl)) ⟨hbT, hb2, trivial⟩ rfl ?_
          refine T_takeA (i := 8) rfl (by kernel_rfl) (by kernel_rfl) (by kernel_rfl) (by kernel_rfl) (Y_of (fun _ ⟨hbT, hb2, _⟩ => R_extract rfl rfl)) ⟨hbT, hb2, trivial⟩ rfl ?_
          refine T_takeA (i := 9) rfl (by kernel_rfl) (by kernel_rfl) (by kernel_rfl) (by kernel_rfl) (Y_of (fun _ ⟨hbT, hb2, _⟩ => R_extract rfl rfl)) ⟨hbT, hb2, trivial⟩ rfl ?_
          refine T_takeA (i := 10) rfl (by kernel_rfl) (by kernel_rfl) (by kernel_rfl) (by kernel_rfl) (Y_of (fun _ ⟨hbT, hb2, _⟩ => R_assign rfl)) ⟨hbT, hb2, trivial⟩ rfl ?_
          refine T_takeA (i := 11) rfl (by kernel_rfl) (by kernel_rfl) (by kernel_rfl) (by kernel_rfl) (Y_of (fun _ ⟨hbT, hb2, _⟩ => R_assign rfl)) ⟨hbT, hb2, trivial⟩ rfl ?_
          refine T_done (by kernel_rfl) (CalmE.normal ?_)
          refine N_then (C_seq (C_reg rfl ?_))
          refine L_run (R_move rfl) rfl ?_
          refine L_nil (N_then ?_)
          refine C_cond rfl (fun h4 => ?_) (fun h4 => ?_)
          · refine C_draw2 rfl mix ?_
            intro w8 hs7 hz4
            replace hB := gb_tr hB hs7
            replace hJ := hJn _ _ hJ hs7
            replace hlt_ := Nat.le_trans hlt_ hs7.size
            replace hbT := hbT.gb hs7
            replace hT := hT.gb hs7
            replace hb2 := hb2.gb hs7
            replace hb5 := hb5.gb hs7
            replace ht2 := ht2.gb hs7
            refine ⟨fun W_ => Blk W_ gT 120 [.pointer (some ⟨gt, 0, none⟩), .int .i64 by_] ∧ Blk W_ g2 71 [.int .i64 ((l[i]).kind), .string ((l[i]).key), .string ((l[i]).val)] ∧ True, [0, 1, 2, 3, 4, 5, 6, 7, 8, 9, 10, 11, 12], ?_⟩
            refine T_takeA (i := 0) rfl (by kernel_rfl) (by kernel_rfl) (by kernel_rfl) (by kernel_rfl) (Y_of (fun _ ⟨hbT, hb2, _⟩ => R_move rfl)) ⟨hbT, hb2, trivial⟩ rfl ?_
            refine T_takeA (i := 1) rfl (by kernel_rfl) (by kernel_rfl) (by kernel_rfl) (by kernel_rfl) (Y_of (fun _ ⟨hbT, hb2, _⟩ => R_nilck rfl)) ⟨hbT, hb2, trivial⟩ rfl ?_
            refine T_takeA (i := 2) rfl (by kernel_rfl) (by kernel_rfl) (by kernel_rfl) (by kernel_rfl) (Y_of (fun _ ⟨hbT, hb2, _⟩ => R_field (r := 1) rfl fld120_1 rfl)) ⟨hbT, hb2, trivial⟩ rfl ?_
            refine T_takeA (i := 3) rfl (by kernel_rfl) (by kernel_rfl) (by kernel_rfl) (by kernel_rfl) (Y_of (fun _ ⟨hbT, hb2, _⟩ => R_load1 rfl scl3 (hbT.cell (i := 1) rfl))) ⟨hbT, hb2, trivial⟩ rfl ?_
            refine T_takeA (i := 4) rfl (by kernel_rfl) (by kernel_rfl) (by kernel_rfl) (by kernel_rfl) (Y_of (fun _ ⟨hbT, hb2, _⟩ => R_field (r := 1) rfl fld71_1 rfl)) ⟨hbT, hb2, trivial⟩ rfl ?_
            refine T_takeA (i := 5) rfl (by kernel_rfl) (by kernel_rfl) (by kernel_rfl) (by kernel_rfl) (Y_of (fun _ ⟨hbT, hb2, _⟩ => R_load1 rfl scl9 (hb2.cell (i := 1) rfl))) ⟨hbT, hb2, trivial⟩ rfl ?_
            refine T_takeA (i := 6) rfl (by kernel_rfl) (by kernel_rfl) (by kernel_rfl) (by kernel_rfl) (Y_of (fun _ ⟨hbT, hb2, _⟩ => R_lenS rfl str9)) ⟨hbT, hb2, trivial⟩ rfl ?_
            refine T_takeA (i := 7) rfl (by kernel_rfl) (by kernel_rfl) (by kernel_rfl) (by kernel_rfl) (Y_of (fun _ ⟨hbT, hb2, _⟩ => R_move rfl)) ⟨hbT, hb2, trivial⟩ rfl ?_
            refine T_takeA (i := 8) rfl (by kernel_rfl) (by kernel_rfl) (by kernel_rfl) (by kernel_rfl) (Y_of (fun _ ⟨hbT, hb2, _⟩ => R_lenS rfl str9)) ⟨hbT, hb2, trivial⟩ rfl ?_
            refine T_takeA (i := 9) rfl (by kernel_rfl) (by kernel_rfl) (by kernel_rfl) (by kernel_rfl) (Y_of (fun _ ⟨hbT, hb2, _⟩ => R_add rfl rfl)) ⟨hbT, hb2, trivial⟩ rfl ?_
            refine T_takeA (i := 10) rfl (by kernel_rfl) (by kernel_rfl) (by kernel_rfl) (by kernel_rfl) (Y_of (fun _ ⟨hbT, hb2, _⟩ => R_sub rfl rfl)) ⟨hbT, hb2, trivial⟩ rfl ?_
            refine T_takeA (i := 11) rfl (by kernel_rfl) (by kernel_rfl) (by kernel_rfl) (by kernel_rfl) (Y_of (fun _ ⟨hbT, hb2, _⟩ => R_nilck rfl)) ⟨hbT, hb2, trivial⟩ rfl ?_
            refine T_takeA (i := 12) rfl (by kernel_rfl) (by kernel_rfl) (by kernel_rfl) (by kernel_rfl) (Y_of (fun _ ⟨hbT, hb2, _⟩ => R_field (r := 1) rfl fld120_1 rfl)) ⟨hbT, hb2, trivial⟩ rfl ?_
            refine T_switch (S' := fun _ => True) (qs' := []) (by kernel_rfl) ?_
            refine T_all (rs := [13]) (by kernel_rfl) rfl (all1 (O_one rfl ?_))
            refine L_st1 rfl rfl rfl sz3 hbT rfl ?_
            intro w9 hb6 hs8 hz5
            replace hB := gb_trg hB hs8 gT0
            replace hJ := hJT _ _ _ hJ hbT hs8
            replace hlt_ := Nat.le_trans hlt_ hs8.size
            replace hT := hT.other hbT rfl hs8
            replace hb2 := hb2.grown hs8 (ne_gt lt1)
            replace hb5 := hb5.grown hs8 (ne_ty hb5 hbT rfl)
            replace ht2 := ht2.other hbT rfl hs8
            refine L_nil (N_then ⟨fun hN_ => trivial, ?_⟩)
            refine T_done (by kernel_rfl) (CalmE.normal ?_)
            refine N_in (N_then (C_reg rfl ?_))
            refine L_run (R_add64 rfl rfl (by omega)) rfl ?_
            refine L_run (R_move rfl) rfl ?_
            refine L_nil (N_then ?_)
            exact ⟨l.length - (i + 1), by omega, _, tr2, IntKind.i64.wrap (by_ - (IntKind.i64.wrap ((((l[i]).key).size : Int) + ((gO (getK tr.kvs ((l[i]).key))).size : Int)))), (i + 1), (nn + 1), Ac_frg ⟨rfl, rfl, rfl, (agr rfl (by first | rfl | (congr 1; omega) | (congr 1; simp; done) | (congr 1; simp only [IntKind.wrap_u64, IntKind.wrap_i64, IntKind.wrap_u8]; omega) | (congr 1 <;> omega))), rfl, rfl, (agr rfl (by first | rfl | (congr 1; omega) | (congr 1; simp; done) | (congr 1; simp only [IntKind.wrap_u64, IntKind.wrap_i64, IntKind.wrap_u8]; omega) | (congr 1 <;> omega))), trivial⟩, hB, hJ, hlt_, hb6, hb5, ht2.top, (by rw [apF_go hlt, ← hkv, apK_del h2 h3]; exact hkv2), hok2, (by omega), (by omega), rfl⟩
          · refine C_skip (N_in (N_then (C_reg rfl ?_)))
            refine L_run (R_add64 rfl rfl (by omega)) rfl ?_
            refine L_run (R_move rfl) rfl ?_
            refine L_nil (N_then ?_)
            exact ⟨l.length - (i + 1), by omega, _, tr2, by_, (i + 1), (nn + 1), Ac_frg ⟨rfl, rfl, rfl, (agr rfl (by first | rfl | (congr 1; omega) | (congr 1; simp; done) | (congr 1; simp only [IntKind.wrap_u64, IntKind.wrap_i64, IntKind.wrap_u8]; omega) | (congr 1 <;> omega))), rfl, rfl, (agr rfl (by first | rfl | (congr 1; omega) | (congr 1; simp; done) | (congr 1; simp only [IntKind.wrap_u64, IntKind.wrap_i64, IntKind.wrap_u8]; omega) | (congr 1 <;> omega))), trivial⟩, hB, hJ, hlt_, hbT, hb5, ht2.top, (by rw [apF_go hlt, ← hkv, apK_del h2 h3]; exact hkv2), hok2, (by omega), (by omega), rfl⟩
    · refine C_exit (X_then (X_then (X_hit (N_then (C_seq (C_reg rfl ?_))))))
      refine L_run (R_move rfl) rfl ?_
      refine L_run (R_assign rfl) rfl ?_
      refine L_nil (N_then (C_ret ?_))
      refine ret1 Try.results31 rfl ?_
      have et_ : l.take i = l := List.take_of_length_le (by omega)
      rw [et_] at hkv
      exact ⟨hB, hJ, _, tr, _, rfl, hbT, hbt, hT.top, hkv, hok_⟩

end Go.Proofs.Ytbmohojdlgedpaa
