/-
  Contracts of the package ledger: what transactions come to, whether they fit.
-/
import Derived.Test.YtbmohojdlgedpaaHg
namespace Go.Proofs.Ytbmohojdlgedpaa
open Go.RowKit Gw Pl
set_option linter.unusedVariables false
set_option linter.unusedSimpArgs false
theorem agg28 : aggB Try.prog 28 3 = true := by kernel_rfl
theorem agg34 : aggB Try.prog 34 6 = true := by kernel_rfl
theorem boo4 : Try.prog.underlying 4 = some .bool := by kernel_rfl
theorem cb30 : callB Try.prog 30 = true := by kernel_rfl
theorem cb31 : callB Try.prog 31 = true := by kernel_rfl
theorem cb32 : callB Try.prog 32 = true := by kernel_rfl
theorem cb33 : callB Try.prog 33 = true := by kernel_rfl
theorem cb34 : callB Try.prog 34 = true := by kernel_rfl
theorem fld28_2 : fldB Try.prog 28 2 2 = true := by kernel_rfl
theorem fld34_1 : fldB Try.prog 34 1 1 = true := by kernel_rfl
theorem fld34_3 : fldB Try.prog 34 3 3 = true := by kernel_rfl
theorem scl25 : sclB Try.prog 25 = true := by kernel_rfl
theorem slc24 : slcB Try.prog 24 28 3 40 = true := by kernel_rfl
theorem slc25 : slcB Try.prog 25 34 6 64 = true := by kernel_rfl
theorem sz28 : szB Try.prog 28 3 = true := by kernel_rfl
theorem sz34 : szB Try.prog 34 6 = true := by kernel_rfl
theorem zer28 : (Try.prog.info? 28).bind (·.zero) = some (.agg #[.int .i64 0, .int .i64 0, .slice none 0 0]) := by kernel_rfl
theorem zer34 : (Try.prog.info? 34).bind (·.zero) = some (.agg #[.string (⟨#[]⟩), .bool false, .bool false, .string (⟨#[]⟩), .string (⟨#[]⟩), .int .i64 0]) := by kernel_rfl
theorem lfold_ok {w : World} {t1 lo hi : Nat} {A : Option Addr} {c : Nat} {l : List Ent} (hS : Sli t1 lo hi w A (fl encEn l)) (hD : DeepE w.heap.size w l) (hl60 : l.length ≤ 60) (h60 : ∀ y ∈ l, y.ch.length ≤ 60) :
    Runs Try.prog 10 #[.slice A l.length c] w (fun v_ w' => w.grownBy w' none ∧ ∃ A' c', v_ = .slice A' (kvF (chs l) []).length c' ∧ World.ownsRow w' w.heap.size 75 2 (.slice A' (kvF (chs l) []).length c') (kvF (chs l) []).length (fl encK (kvF (chs l) []))) := by
  have hB := gb_refl w none
  have hb := chs_len hl60 h60
  replace hS := hS.top
  refine enter Try.func10 Try.ntmps10 rfl rfl ?_
  refine C_seq (C_reg rfl ?_)
  refine L_run (R_assign rfl) rfl ?_
  refine L_nil (N_then (C_seq (C_reg rfl ?_)))
  have ge3 : w.heap.size ≤ w.heap.size := hB.size
  refine L_call rfl cb30 (tabnew_ok) rfl ?_
  rintro _ w1 ⟨hs1, g1, g2, ge1, ge2, rfl, hb1, hb2⟩
  replace hB := gb_tr hB hs1
  replace hS := hS.gb hs1
  replace hD := hD.gb hs1
  refine L_run (R_assign rfl) rfl ?_
  refine L_nil (N_then (C_seq (C_seq (C_reg rfl ?_))))
  refine L_run (R_move rfl) rfl ?_
  refine L_run (R_lenSl rfl slc24) rfl ?_
  refine L_run (R_move rfl) rfl ?_
  refine L_nil (N_then (C_block ?_))
  refine C_loop (fun m_ a_ w_ => ∃ (σ_ : Nat → Value) (tr : Tr) (by_ : Int) (i : Nat), a_ = Ac 31 σ_ [] [(0, .slice A l.length c), (2, .slice none 0 0), (3, .pointer (some ⟨g1, 0, none⟩)), (9, .slice A l.length c), (10, .int .i64 (l.length : Int)), (11, .int .i64 (i : Int))] ∧ w.grownBy w_ none ∧ Sli t1 lo w.heap.size w_ A (fl encEn l) ∧ DeepE w.heap.size w_ l ∧ Blk w_ g1 120 [.pointer (some ⟨g2, 0, none⟩), .int .i64 by_] ∧ Blk w_ g2 138 [.pointer (taddr tr), .int .i64 (tr.kvs.length : Int)] ∧ TreeF 148 w_.heap.size w_ tr ∧ (tr.kvs = kvF (chs (l.take i)) []) ∧ (tr.hok) ∧ (i ≤ l.length) ∧ l.length - i = m_) (l.length - 0) ?_ ?_
  · exact ⟨_, Tr.nil, 0, 0, Ac_frg ⟨rfl, rfl, rfl, rfl, rfl, (agr rfl (by first | rfl | (congr 1; omega) | (congr 1; simp; done) | (congr 1; simp only [IntKind.wrap_u64, IntKind.wrap_i64, IntKind.wrap_u8]; omega) | (congr 1 <;> omega))), trivial⟩, hB, hS, hD, hb1, hb2, TreeF.nil, rfl, trivial, (Nat.zero_le _), rfl⟩
  · clear hB
    clear hS hD hb1 hb2
    rintro m_ a_ w2 ⟨σ_, tr, by_, i, rfl, hB, hS, hD, hbT, hbt, hT, hkv, hok_, hi_, rfl⟩
    refine C_seq (C_reg rfl ?_)
    refine L_run (R_lss rfl rfl) rfl ?_
    refine L_nil (N_then (C_seq ?_))
    refine C_if rfl (fun h1 => ?_) (fun h1 => ?_)
    · refine C_skip (N_then (C_seq (C_block (C_seq (C_reg rfl ?_)))))
      have hl1 : i < l.length := by first | omega | (simp; omega)
      refine T_index (xs := l) (i := i) EncEn rfl rfl (by first | rfl | omega) slc24 hl1 hS rfl ?_
      intro g3 o1 ha1
      refine L_run (R_loadA (vs := [.int .i64 ((l[i]).lsn), .int .i64 ((l[i]).chain), .slice ((l[i]).la) ((l[i]).ch.length) ((l[i]).lc)]) rfl agg28 (At.pre ha1 rfl) rfl) rfl ?_
      refine L_alloc (cs := [.int .i64 0, .int .i64 0, .slice none 0 0]) zer28 rfl rfl ?_
      intro g4 w3 eg1 hb3 hs2 hz1
      have ge4 : w.heap.size ≤ g4 := eg_ge hB eg1
      have lt1 : g1 < g4 := lt_of_eg hbT.lt eg1
      have lt2 : g2 < g4 := lt_of_eg hbt.lt eg1
      replace hB := gb_tr hB hs2
      replace hS := hS.gb hs2
      replace hD := hD.gb hs2
      replace hbT := hbT.gb hs2
      replace hbt := hbt.gb hs2
      replace hT := hT.gb hs2
      replace ha1 := At.gb ha1 hs2 (by simp)
      refine L_stA (vs := [.int .i64 ((l[i]).lsn), .int .i64 ((l[i]).chain), .slice ((l[i]).la) ((l[i]).ch.length) ((l[i]).lc)]) rfl rfl rfl sz28 rfl hb3 rfl ?_
      intro w4 hb4 hs3 hz2
      replace hB := gb_trg hB hs3 ge4
      replace hS := hS.old hs3 ge4
      replace hD := hD.old hs3 ge4
      replace hbT := hbT.grown hs3 (ne_lt lt1)
      replace hbt := hbt.grown hs3 (ne_lt lt2)
      replace hT := hT.other hb3 rfl hs3
      refine L_nil (N_then (C_seq (C_reg rfl ?_)))
      refine L_run (R_field (r := 2) rfl fld28_2 rfl) rfl ?_
      refine L_run (R_load1 rfl scl25 (hb4.cell (i := 2) rfl)) rfl ?_
      refine L_run (R_lenSl rfl slc25) rfl ?_
      refine L_run (R_move rfl) rfl ?_
      refine L_nil (N_then (C_block ?_))
      have hli : i < l.length := by omega
      have hl6 := h60 _ (List.getElem_mem hli)
      refine C_loop (fun m_ a_ w_ => ∃ (σ_ : Nat → Value) (tr2 : Tr) (by2 : Int) (j : Nat), a_ = Ac 31 σ_ [] [(0, .slice A l.length c), (2, .slice none 0 0), (3, .pointer (some ⟨g1, 0, none⟩)), (9, .slice A l.length c), (10, .int .i64 (l.length : Int)), (11, .int .i64 (i : Int)), (16, .slice ((l[i]).la) ((l[i]).ch.length) ((l[i]).lc)), (17, .int .i64 ((l[i]).ch.length : Int)), (18, .int .i64 (j : Int))] ∧ w.grownBy w_ none ∧ Sli t1 lo w.heap.size w_ A (fl encEn l) ∧ DeepE w.heap.size w_ l ∧ Blk w_ g1 120 [.pointer (some ⟨g2, 0, none⟩), .int .i64 by2] ∧ Blk w_ g2 138 [.pointer (taddr tr2), .int .i64 (tr2.kvs.length : Int)] ∧ TreeF 148 w_.heap.size w_ tr2 ∧ (tr2.kvs = kvF (chs (l.take i) ++ (l[i]).ch.take j) []) ∧ (tr2.hok) ∧ (j ≤ (l[i]).ch.length) ∧ (l[i]).ch.length - j = m_) ((l[i]).ch.length - 0) ?_ ?_
      · exact ⟨_, tr, by_, 0, Ac_frg ⟨rfl, rfl, rfl, rfl, rfl, rfl, rfl, rfl, (agr rfl (by first | rfl | (congr 1; omega) | (congr 1; simp; done) | (congr 1; simp only [IntKind.wrap_u64, IntKind.wrap_i64, IntKind.wrap_u8]; omega) | (congr 1 <;> omega))), trivial⟩, hB, hS, hD, hbT, hbt, hT.top, (by rw [List.take_zero, List.append_nil]; exact hkv), hok_, (Nat.zero_le _), rfl⟩
      · clear hB
        clear hS hD hbT hbt hT hb4
        rintro m_ a_ w5 ⟨σ_, tr2, by2, j, rfl, hB, hS, hD, hbT, hbt, hT, hkv2, hok2, hj_, rfl⟩
        refine C_seq (C_reg rfl ?_)
        refine L_run (R_lss rfl rfl) rfl ?_
        refine L_nil (N_then (C_seq ?_))
        refine C_if rfl (fun h2 => ?_) (fun h2 => ?_)
        · refine C_skip (N_then (C_seq (C_block (C_seq (C_reg rfl ?_)))))
          have hl2 : j < ((l[i]).ch).length := by first | omega | (simp; omega)
          refine T_index (xs := (l[i]).ch) (i := j) EncC rfl rfl (by first | rfl | omega) slc25 hl2 (hD.getL (i := i) (by first | assumption | omega | (simp; omega))) rfl ?_
          intro g5 o2 ha2
          refine L_run (R_loadA (vs := [.string ((((l[i]).ch)[j]).key), .bool ((((l[i]).ch)[j]).was), .bool ((((l[i]).ch)[j]).is), .string ((((l[i]).ch)[j]).old), .string ((((l[i]).ch)[j]).new), .int .i64 ((((l[i]).ch)[j]).next)]) rfl agg34 (At.pre ha2 rfl) rfl) rfl ?_
          have hlj : j < (l[i]).ch.length := by omega
          have hsx : SortK tr2.kvs := by rw [hkv2]; exact kv_nil
          have htb := tab_b (n := 1) hli hkv2 hb (Nat.le_refl _)
          refine L_alloc (cs := [.string (⟨#[]⟩), .bool false, .bool false, .string (⟨#[]⟩), .string (⟨#[]⟩), .int .i64 0]) zer34 rfl rfl ?_
          intro g6 w6 eg2 hb5 hs4 hz3
          have ge5 : w.heap.size ≤ g6 := eg_ge hB eg2
          have lt3 : g1 < g6 := lt_of_eg hbT.lt eg2
          have lt4 : g2 < g6 := lt_of_eg hbt.lt eg2
          replace hB := gb_tr hB hs4
          replace hS := hS.gb hs4
          replace hD := hD.gb hs4
          replace hbT := hbT.gb hs4
          replace hbt := hbt.gb hs4
          replace hT := hT.gb hs4
          replace ha2 := At.gb ha2 hs4 (by simp)
          refine L_stA (vs := [.string ((((l[i]).ch)[j]).key), .bool ((((l[i]).ch)[j]).was), .bool ((((l[i]).ch)[j]).is), .string ((((l[i]).ch)[j]).old), .string ((((l[i]).ch)[j]).new), .int .i64 ((((l[i]).ch)[j]).next)]) rfl rfl rfl sz34 rfl hb5 rfl ?_
          intro w7 hb6 hs5 hz4
          replace hB := gb_trg hB hs5 ge5
          replace hS := hS.old hs5 ge5
          replace hD := hD.old hs5 ge5
          replace hbT := hbT.grown hs5 (ne_lt lt3)
          replace hbt := hbt.grown hs5 (ne_lt lt4)
          replace hT := hT.other hb5 rfl hs5
          refine L_nil (N_then (C_reg rfl ?_))
          refine L_run (R_move rfl) rfl ?_
          refine L_run (R_loadA (vs := [.string ((((l[i]).ch)[j]).key), .bool ((((l[i]).ch)[j]).was), .bool ((((l[i]).ch)[j]).is), .string ((((l[i]).ch)[j]).old), .string ((((l[i]).ch)[j]).new), .int .i64 ((((l[i]).ch)[j]).next)]) rfl agg34 (At.pre (hb6.at_ 0) rfl) rfl) rfl ?_
          refine L_call rfl cb32 (txop_ok (c := (((l[i]).ch)[j]))) rfl ?_
          rintro _ w8 ⟨hs6, rfl⟩
          replace hB := gb_tr hB hs6
          replace hS := hS.gb hs6
          replace hD := hD.gb hs6
          replace hbT := hbT.gb hs6
          replace hbt := hbt.gb hs6
          replace hT := hT.gb hs6
          replace hb6 := hb6.gb hs6
          refine L_buildSlice (pv := [(0, .agg #[.int .i64 ((opC (((l[i]).ch)[j])).kind), .string ((opC (((l[i]).ch)[j])).key), .string ((opC (((l[i]).ch)[j])).val)])]) (cs := [.int .i64 ((opC (((l[i]).ch)[j])).kind), .string ((opC (((l[i]).ch)[j])).key), .string ((opC (((l[i]).ch)[j])).val)]) slc80 zer71 rfl rfl (by kernel_rfl) rfl ?_
          intro g7 w9 eg3 hb7 hs7 hz5
          have ge6 : w.heap.size ≤ g7 := eg_ge hB eg3
          have lt5 : g1 < g7 := lt_of_eg hbT.lt eg3
          have lt6 : g2 < g7 := lt_of_eg hbt.lt eg3
          have lt7 : g6 < g7 := lt_of_eg hb6.lt eg3
          replace hB := gb_tr hB hs7
          replace hS := hS.gb hs7
          replace hD := hD.gb hs7
          replace hbT := hbT.gb hs7
          replace hbt := hbt.gb hs7
          replace hT := hT.gb hs7
          replace hb6 := hb6.gb hs7
          have hlo1 : w.heap.size ≤ w9.heap.size := hB.size
          have hBz_ := hB.size
          have lt8 := hb7.lt
          refine L_call rfl cb31 (tabapply_ok (l := [(⟨(opC (((l[i]).ch)[j])).kind, (opC (((l[i]).ch)[j])).key, (opC (((l[i]).ch)[j])).val⟩ : Opd)]) (J := (fun w_ => Sli t1 lo w.heap.size w_ A (fl encEn l) ∧ DeepE w.heap.size w_ l ∧ Blk w_ g6 34 [.string ((((l[i]).ch)[j]).key), .bool ((((l[i]).ch)[j]).was), .bool ((((l[i]).ch)[j]).is), .string ((((l[i]).ch)[j]).old), .string ((((l[i]).ch)[j]).new), .int .i64 ((((l[i]).ch)[j]).next)] ∧ Blk w_ g7 71 [.int .i64 ((opC (((l[i]).ch)[j])).kind), .string ((opC (((l[i]).ch)[j])).key), .string ((opC (((l[i]).ch)[j])).val)] ∧ True)) hbT hbt hT hsx hok2 hB (Nat.le_trans ge3 ge1) (Nat.le_trans ge3 ge2) htb ⟨hS, hD, hb6, hb7, trivial⟩ (by rintro w_ w2_ ⟨hS, hD, hb6, hb7, _⟩ hs_; replace hS := hS.gb hs_; replace hD := hD.gb hs_; replace hb6 := hb6.gb hs_; replace hb7 := hb7.gb hs_; exact ⟨hS, hD, hb6, hb7, trivial⟩) (by rintro w_ w2_ cs_ ⟨hS, hD, hb6, hb7, _⟩ hb_ hs_; replace hS := hS.old hs_ (Nat.le_trans ge3 ge2); replace hD := hD.old hs_ (Nat.le_trans ge3 ge2); replace hb6 := hb6.grown hs_ (ne_gt lt4); replace hb7 := hb7.grown hs_ (ne_gt lt6); exact ⟨hS, hD, hb6, hb7, trivial⟩) (by rintro w_ w2_ cs_ ⟨hS, hD, hb6, hb7, _⟩ hb_ hs_; replace hS := hS.old hs_ (Nat.le_trans ge3 ge1); replace hD := hD.old hs_ (Nat.le_trans ge3 ge1); replace hb6 := hb6.grown hs_ (ne_gt lt3); replace hb7 := hb7.grown hs_ (ne_gt lt5); exact ⟨hS, hD, hb6, hb7, trivial⟩) (by rintro w_ w2_ g_ cs_ ⟨hS, hD, hb6, hb7, _⟩ hb_ hg_ hs_; replace hS := hS.old hs_ (by omega); replace hD := hD.old hs_ (by omega); replace hb6 := hb6.grown hs_ (ne_ty hb6 hb_ rfl); replace hb7 := hb7.grown hs_ (by intro e; injection e; omega); exact ⟨hS, hD, hb6, hb7, trivial⟩) (by rintro w_ ⟨hS, hD, hb6, hb7, _⟩; exact Sli.any (Blk.sli (m := 0) hb7))) rfl ?_
          rintro _ w10 ⟨hB, ⟨hS, hD, hb6, hb7, _⟩, nn1, tr1, by1, rfl, hb8, hb9, ht1, hkv1, hok1⟩
          refine L_nil (N_in (N_then (C_reg rfl ?_)))
          refine L_run (R_add64 rfl rfl (by omega)) rfl ?_
          refine L_run (R_move rfl) rfl ?_
          refine L_nil (N_then ?_)
          exact ⟨(l[i]).ch.length - (j + 1), by omega, _, tr1, by1, (j + 1), Ac_frg ⟨rfl, rfl, rfl, rfl, rfl, rfl, rfl, rfl, (agr rfl (by first | rfl | (congr 1; omega) | (congr 1; simp; done) | (congr 1; simp only [IntKind.wrap_u64, IntKind.wrap_i64, IntKind.wrap_u8]; omega) | (congr 1 <;> omega))), trivial⟩, hB, hS, hD, hb8, hb9, ht1.top, (by rw [pre_go hli hlj, kv_snoc, ← hkv2]; exact hkv1), hok1, (by omega), rfl⟩
        · refine C_exit (X_then (X_then (X_hit (N_in (N_then (C_reg rfl ?_))))))
          refine L_run (R_add64 rfl rfl (by omega)) rfl ?_
          refine L_run (R_move rfl) rfl ?_
          refine L_nil (N_then ?_)
          have pe_ := pre_end (l := l) (i := i) (j := j) hli (by omega)
          exact ⟨l.length - (i + 1), by omega, _, tr2, by2, (i + 1), Ac_frg ⟨rfl, rfl, rfl, rfl, rfl, (agr rfl (by first | rfl | (congr 1; omega) | (congr 1; simp; done) | (congr 1; simp only [IntKind.wrap_u64, IntKind.wrap_i64, IntKind.wrap_u8]; omega) | (congr 1 <;> omega))), trivial⟩, hB, hS, hD, hbT, hbt, hT.top, (by rw [← pe_]; exact hkv2), hok2, (by omega), rfl⟩
    · refine C_exit (X_then (X_then (X_hit (N_then (C_seq (C_reg rfl ?_))))))
      refine L_run (R_move rfl) rfl ?_
      have pe_ := chs_all (l := l) (i := i) (by omega)
      rw [pe_] at hkv
      have hsx : SortK tr.kvs := by rw [hkv]; exact kv_nil
      have hkx : ∀ p ∈ tr.kvs, p.1.size ≤ 1000000 := by rw [hkv]; exact kv_key
      have hcx : tr.kvs.length ≤ 1000000 := by
        have h_ := kv_len (l := chs l) (s := [])
        rw [hkv]
        simp only [List.length_nil] at h_
        omega
      have ge7 : w.heap.size ≤ w2.heap.size := hB.size
      refine L_call rfl cb33 (tabpairs_ok (t := tr) hbT hbt hT hsx hkx hcx) rfl ?_
      rintro _ w11 ⟨hs9, A_1, c_1, rfl, ho1⟩
      replace hB := gb_tr hB hs9
      replace hS := hS.gb hs9
      replace hD := hD.gb hs9
      replace hbT := hbT.gb hs9
      replace hbt := hbt.gb hs9
      replace hT := hT.gb hs9
      refine L_run (R_assign rfl) rfl ?_
      refine L_nil (N_then (C_ret ?_))
      refine ret1 Try.results10 rfl ?_
      rw [← hkv]; exact ⟨hB, _, _, rfl, (own_lo ho1 ge7)⟩

theorem lfits_ok {w : World} {t1 lo hi : Nat} {A : Option Addr} {c : Nat} {l : List Ent} (hS : Sli t1 lo hi w A (fl encEn l)) (hD : DeepE w.heap.size w l) (hl60 : l.length ≤ 60) (h60 : ∀ y ∈ l, y.ch.length ≤ 60) :
    Runs Try.prog 11 #[.slice A l.length c] w (fun v_ w' => w.grownBy w' none ∧ v_ = .bool (fitsB (chs l) [])) := by
  have hB := gb_refl w none
  have hb := chs_len hl60 h60
  replace hS := hS.top
  refine enter Try.func11 Try.ntmps11 rfl rfl ?_
  refine C_seq (C_reg rfl ?_)
  refine L_run (R_assign rfl) rfl ?_
  refine L_nil (N_then (C_seq (C_reg rfl ?_)))
  have ge3 : w.heap.size ≤ w.heap.size := hB.size
  refine L_call rfl cb30 (tabnew_ok) rfl ?_
  rintro _ w1 ⟨hs1, g1, g2, ge1, ge2, rfl, hb1, hb2⟩
  replace hB := gb_tr hB hs1
  replace hS := hS.gb hs1
  replace hD := hD.gb hs1
  refine L_run (R_assign rfl) rfl ?_
  refine L_nil (N_then (C_seq (C_seq (C_reg rfl ?_))))
  refine L_run (R_move rfl) rfl ?_
  refine L_run (R_lenSl rfl slc24) rfl ?_
  refine L_run (R_move rfl) rfl ?_
  refine L_nil (N_then (C_block ?_))
  refine C_loop (fun m_ a_ w_ => ∃ (σ_ : Nat → Value) (tr : Tr) (by_ : Int) (i : Nat), a_ = Ac 48 σ_ [] [(0, .slice A l.length c), (2, .bool false), (3, .pointer (some ⟨g1, 0, none⟩)), (11, .slice A l.length c), (12, .int .i64 (l.length : Int)), (13, .int .i64 (i : Int))] ∧ w.grownBy w_ none ∧ Sli t1 lo w.heap.size w_ A (fl encEn l) ∧ DeepE w.heap.size w_ l ∧ Blk w_ g1 120 [.pointer (some ⟨g2, 0, none⟩), .int .i64 by_] ∧ Blk w_ g2 138 [.pointer (taddr tr), .int .i64 (tr.kvs.length : Int)] ∧ TreeF 148 w_.heap.size w_ tr ∧ (tr.kvs = kvF (chs (l.take i)) []) ∧ (tr.hok) ∧ (i ≤ l.length) ∧ (fitsB (chs (l.take i)) [] = true) ∧ l.length - i = m_) (l.length - 0) ?_ ?_
  · exact ⟨_, Tr.nil, 0, 0, Ac_frg ⟨rfl, rfl, rfl, rfl, rfl, (agr rfl (by first | rfl | (congr 1; omega) | (congr 1; simp; done) | (congr 1; simp only [IntKind.wrap_u64, IntKind.wrap_i64, IntKind.wrap_u8]; omega) | (congr 1 <;> omega))), trivial⟩, hB, hS, hD, hb1, hb2, TreeF.nil, rfl, trivial, (Nat.zero_le _), rfl, rfl⟩
  · clear hB
    clear hS hD hb1 hb2
    rintro m_ a_ w2 ⟨σ_, tr, by_, i, rfl, hB, hS, hD, hbT, hbt, hT, hkv, hok_, hi_, hft, rfl⟩
    refine C_seq (C_reg rfl ?_)
    refine L_run (R_lss rfl rfl) rfl ?_
    refine L_nil (N_then (C_seq ?_))
    refine C_if rfl (fun h1 => ?_) (fun h1 => ?_)
    · refine C_skip (N_then (C_seq (C_block (C_seq (C_reg rfl ?_)))))
      have hl1 : i < l.length := by first | omega | (simp; omega)
      refine T_index (xs := l) (i := i) EncEn rfl rfl (by first | rfl | omega) slc24 hl1 hS rfl ?_
      intro g3 o1 ha1
      refine L_run (R_loadA (vs := [.int .i64 ((l[i]).lsn), .int .i64 ((l[i]).chain), .slice ((l[i]).la) ((l[i]).ch.length) ((l[i]).lc)]) rfl agg28 (At.pre ha1 rfl) rfl) rfl ?_
      refine L_alloc (cs := [.int .i64 0, .int .i64 0, .slice none 0 0]) zer28 rfl rfl ?_
      intro g4 w3 eg1 hb3 hs2 hz1
      have ge4 : w.heap.size ≤ g4 := eg_ge hB eg1
      have lt1 : g1 < g4 := lt_of_eg hbT.lt eg1
      have lt2 : g2 < g4 := lt_of_eg hbt.lt eg1
      replace hB := gb_tr hB hs2
      replace hS := hS.gb hs2
      replace hD := hD.gb hs2
      replace hbT := hbT.gb hs2
      replace hbt := hbt.gb hs2
      replace hT := hT.gb hs2
      replace ha1 := At.gb ha1 hs2 (by simp)
      refine L_stA (vs := [.int .i64 ((l[i]).lsn), .int .i64 ((l[i]).chain), .slice ((l[i]).la) ((l[i]).ch.length) ((l[i]).lc)]) rfl rfl rfl sz28 rfl hb3 rfl ?_
      intro w4 hb4 hs3 hz2
      replace hB := gb_trg hB hs3 ge4
      replace hS := hS.old hs3 ge4
      replace hD := hD.old hs3 ge4
      replace hbT := hbT.grown hs3 (ne_lt lt1)
      replace hbt := hbt.grown hs3 (ne_lt lt2)
      replace hT := hT.other hb3 rfl hs3
      refine L_nil (N_then (C_seq (C_reg rfl ?_)))
      refine L_run (R_field (r := 2) rfl fld28_2 rfl) rfl ?_
      refine L_run (R_load1 rfl scl25 (hb4.cell (i := 2) rfl)) rfl ?_
      refine L_run (R_lenSl rfl slc25) rfl ?_
      refine L_run (R_move rfl) rfl ?_
      refine L_nil (N_then (C_block ?_))
      have hli : i < l.length := by omega
      have hl6 := h60 _ (List.getElem_mem hli)
      refine C_loop (fun m_ a_ w_ => ∃ (σ_ : Nat → Value) (tr2 : Tr) (by2 : Int) (j : Nat), a_ = Ac 48 σ_ [] [(0, .slice A l.length c), (2, .bool false), (3, .pointer (some ⟨g1, 0, none⟩)), (11, .slice A l.length c), (12, .int .i64 (l.length : Int)), (13, .int .i64 (i : Int)), (18, .slice ((l[i]).la) ((l[i]).ch.length) ((l[i]).lc)), (19, .int .i64 ((l[i]).ch.length : Int)), (20, .int .i64 (j : Int))] ∧ w.grownBy w_ none ∧ Sli t1 lo w.heap.size w_ A (fl encEn l) ∧ DeepE w.heap.size w_ l ∧ Blk w_ g1 120 [.pointer (some ⟨g2, 0, none⟩), .int .i64 by2] ∧ Blk w_ g2 138 [.pointer (taddr tr2), .int .i64 (tr2.kvs.length : Int)] ∧ TreeF 148 w_.heap.size w_ tr2 ∧ (tr2.kvs = kvF (chs (l.take i) ++ (l[i]).ch.take j) []) ∧ (tr2.hok) ∧ (j ≤ (l[i]).ch.length) ∧ (fitsB (chs (l.take i) ++ (l[i]).ch.take j) [] = true) ∧ (l[i]).ch.length - j = m_) ((l[i]).ch.length - 0) ?_ ?_
      · exact ⟨_, tr, by_, 0, Ac_frg ⟨rfl, rfl, rfl, rfl, rfl, rfl, rfl, rfl, (agr rfl (by first | rfl | (congr 1; omega) | (congr 1; simp; done) | (congr 1; simp only [IntKind.wrap_u64, IntKind.wrap_i64, IntKind.wrap_u8]; omega) | (congr 1 <;> omega))), trivial⟩, hB, hS, hD, hbT, hbt, hT.top, (by rw [List.take_zero, List.append_nil]; exact hkv), hok_, (Nat.zero_le _), (by rw [List.take_zero, List.append_nil]; exact hft), rfl⟩
      · clear hB
        clear hS hD hbT hbt hT hb4
        rintro m_ a_ w5 ⟨σ_, tr2, by2, j, rfl, hB, hS, hD, hbT, hbt, hT, hkv2, hok2, hj_, hft2, rfl⟩
        refine C_seq (C_reg rfl ?_)
        refine L_run (R_lss rfl rfl) rfl ?_
        refine L_nil (N_then (C_seq ?_))
        refine C_if rfl (fun h2 => ?_) (fun h2 => ?_)
        · refine C_skip (N_then (C_seq (C_block (C_seq (C_reg rfl ?_)))))
          have hl2 : j < ((l[i]).ch).length := by first | omega | (simp; omega)
          refine T_index (xs := (l[i]).ch) (i := j) EncC rfl rfl (by first | rfl | omega) slc25 hl2 (hD.getL (i := i) (by first | assumption | omega | (simp; omega))) rfl ?_
          intro g5 o2 ha2
          refine L_run (R_loadA (vs := [.string ((((l[i]).ch)[j]).key), .bool ((((l[i]).ch)[j]).was), .bool ((((l[i]).ch)[j]).is), .string ((((l[i]).ch)[j]).old), .string ((((l[i]).ch)[j]).new), .int .i64 ((((l[i]).ch)[j]).next)]) rfl agg34 (At.pre ha2 rfl) rfl) rfl ?_
          have hlj : j < (l[i]).ch.length := by omega
          have hsx : SortK tr2.kvs := by rw [hkv2]; exact kv_nil
          have htb := tab_b (n := 1) hli hkv2 hb (Nat.le_refl _)
          refine L_alloc (cs := [.string (⟨#[]⟩), .bool false, .bool false, .string (⟨#[]⟩), .string (⟨#[]⟩), .int .i64 0]) zer34 rfl rfl ?_
          intro g6 w6 eg2 hb5 hs4 hz3
          have ge5 : w.heap.size ≤ g6 := eg_ge hB eg2
          have lt3 : g1 < g6 := lt_of_eg hbT.lt eg2
          have lt4 : g2 < g6 := lt_of_eg hbt.lt eg2
          replace hB := gb_tr hB hs4
          replace hS := hS.gb hs4
          replace hD := hD.gb hs4
          replace hbT := hbT.gb hs4
          replace hbt := hbt.gb hs4
          replace hT := hT.gb hs4
          replace ha2 := At.gb ha2 hs4 (by simp)
          refine L_stA (vs := [.string ((((l[i]).ch)[j]).key), .bool ((((l[i]).ch)[j]).was), .bool ((((l[i]).ch)[j]).is), .string ((((l[i]).ch)[j]).old), .string ((((l[i]).ch)[j]).new), .int .i64 ((((l[i]).ch)[j]).next)]) rfl rfl rfl sz34 rfl hb5 rfl ?_
          intro w7 hb6 hs5 hz4
          replace hB := gb_trg hB hs5 ge5
          replace hS := hS.old hs5 ge5
          replace hD := hD.old hs5 ge5
          replace hbT := hbT.grown hs5 (ne_lt lt3)
          replace hbt := hbt.grown hs5 (ne_lt lt4)
          replace hT := hT.other hb5 rfl hs5
          refine L_nil (N_then (C_seq (C_reg rfl ?_)))
          refine L_run (R_move rfl) rfl ?_
          refine L_run (R_field (r := 0) rfl fld34_0 rfl) rfl ?_
          refine L_run (R_load1 rfl scl9 (hb6.cell (i := 0) rfl)) rfl ?_
          refine L_call rfl cb34 (tabget_ok (t := tr2) (key := (((l[i]).ch)[j]).key) hbT hbt hT hsx) rfl ?_
          rintro _ w8 ⟨hs6, rfl⟩
          replace hB := gb_tr hB hs6
          replace hS := hS.gb hs6
          replace hD := hD.gb hs6
          replace hbT := hbT.gb hs6
          replace hbt := hbt.gb hs6
          replace hT := hT.gb hs6
          replace hb6 := hb6.gb hs6
          refine L_run (R_move rfl) rfl ?_
          refine L_run (R_extract rfl rfl) rfl ?_
          refine L_run (R_extract rfl rfl) rfl ?_
          refine L_run (R_assign rfl) rfl ?_
          refine L_run (R_assign rfl) rfl ?_
          refine L_nil (N_then (C_seq (C_seq (C_reg rfl ?_))))
          refine L_run (R_move rfl) rfl ?_
          refine L_run (R_field (r := 1) rfl fld34_1 rfl) rfl ?_
          refine L_run (R_load1 rfl scl4 (hb6.cell (i := 1) rfl)) rfl ?_
          refine L_run (R_neqB rfl rfl boo4) rfl ?_
          refine L_run (R_move rfl) rfl ?_
          refine L_split (!(((getK tr2.kvs ((((l[i]).ch)[j]).key)).isSome) == ((((l[i]).ch)[j]).was))) (fun h3 => ?_) (fun h3 => ?_)
          · refine L_no rfl rfl rfl h3 rfl ?_
            refine L_no rfl rfl rfl h3 rfl ?_
            refine L_no rfl rfl rfl h3 rfl ?_
            refine L_no rfl rfl rfl h3 rfl ?_
            refine L_run (R_pickT rfl h3 rfl) rfl ?_
            refine L_nil (N_then (C_condT rfl rfl (C_seq (C_reg rfl ?_))))
            refine L_run (R_assign rfl) rfl ?_
            refine L_nil (N_then (C_ret (R_then (R_in (R_then (R_then (R_in (R_in (R_then (R_then (R_in (R_then ?_))))))))))))
            refine ret1 Try.results11 rfl ?_
            obtain ⟨r_, hr_⟩ := chs_pre hli hlj
            have hno : fit1 (kvF (chs (l.take i) ++ (l[i]).ch.take j) []) ((l[i]).ch[j]) = false := by
              rw [← hkv2]
              unfold fit1
              simp_all
            exact ⟨hB, by rw [hr_, fits_stop hno]⟩
          · refine L_yes rfl rfl rfl h3 ?_
            refine L_run (R_move rfl) rfl ?_
            refine L_yes rfl rfl rfl h3 ?_
            refine L_run (R_field (r := 3) rfl fld34_3 rfl) rfl ?_
            refine L_yes rfl rfl rfl h3 ?_
            refine L_run (R_load1 rfl scl9 (hb6.cell (i := 3) rfl)) rfl ?_
            refine L_yes rfl rfl rfl h3 ?_
            refine L_run (R_neqS rfl rfl) rfl ?_
            refine L_run (R_pickF rfl h3 rfl) rfl ?_
            refine L_nil (N_then ?_)
            refine C_if rfl (fun h4 => ?_) (fun h4 => ?_)
            · refine C_seq (C_reg rfl ?_)
              refine L_run (R_assign rfl) rfl ?_
              refine L_nil (N_then (C_ret (R_then (R_in (R_then (R_then (R_in (R_in (R_then (R_then (R_in (R_then ?_))))))))))))
              refine ret1 Try.results11 rfl ?_
              obtain ⟨r_, hr_⟩ := chs_pre hli hlj
              have hno : fit1 (kvF (chs (l.take i) ++ (l[i]).ch.take j) []) ((l[i]).ch[j]) = false := by
                rw [← hkv2]
                unfold fit1
                simp_all
              exact ⟨hB, by rw [hr_, fits_stop hno]⟩
            · refine C_skip (N_then (C_reg rfl ?_))
              have hfit : fit1 tr2.kvs ((l[i]).ch[j]) = true := by
                unfold fit1
                simp_all
              refine L_run (R_move rfl) rfl ?_
              refine L_run (R_loadA (vs := [.string ((((l[i]).ch)[j]).key), .bool ((((l[i]).ch)[j]).was), .bool ((((l[i]).ch)[j]).is), .string ((((l[i]).ch)[j]).old), .string ((((l[i]).ch)[j]).new), .int .i64 ((((l[i]).ch)[j]).next)]) rfl agg34 (At.pre (hb6.at_ 0) rfl) rfl) rfl ?_
              refine L_call rfl cb32 (txop_ok (c := (((l[i]).ch)[j]))) rfl ?_
              rintro _ w9 ⟨hs7, rfl⟩
              replace hB := gb_tr hB hs7
              replace hS := hS.gb hs7
              replace hD := hD.gb hs7
              replace hbT := hbT.gb hs7
              replace hbt := hbt.gb hs7
              replace hT := hT.gb hs7
              replace hb6 := hb6.gb hs7
              refine L_buildSlice (pv := [(0, .agg #[.int .i64 ((opC (((l[i]).ch)[j])).kind), .string ((opC (((l[i]).ch)[j])).key), .string ((opC (((l[i]).ch)[j])).val)])]) (cs := [.int .i64 ((opC (((l[i]).ch)[j])).kind), .string ((opC (((l[i]).ch)[j])).key), .string ((opC (((l[i]).ch)[j])).val)]) slc80 zer71 rfl rfl (by kernel_rfl) rfl ?_
              intro g7 w10 eg3 hb7 hs8 hz5
              have ge6 : w.heap.size ≤ g7 := eg_ge hB eg3
              have lt5 : g1 < g7 := lt_of_eg hbT.lt eg3
              have lt6 : g2 < g7 := lt_of_eg hbt.lt eg3
              have lt7 : g6 < g7 := lt_of_eg hb6.lt eg3
              replace hB := gb_tr hB hs8
              replace hS := hS.gb hs8
              replace hD := hD.gb hs8
              replace hbT := hbT.gb hs8
              replace hbt := hbt.gb hs8
              replace hT := hT.gb hs8
              replace hb6 := hb6.gb hs8
              have hlo1 : w.heap.size ≤ w10.heap.size := hB.size
              have hBz_ := hB.size
              have lt8 := hb7.lt
              refine L_call rfl cb31 (tabapply_ok (l := [(⟨(opC (((l[i]).ch)[j])).kind, (opC (((l[i]).ch)[j])).key, (opC (((l[i]).ch)[j])).val⟩ : Opd)]) (J := (fun w_ => Sli t1 lo w.heap.size w_ A (fl encEn l) ∧ DeepE w.heap.size w_ l ∧ Blk w_ g6 34 [.string ((((l[i]).ch)[j]).key), .bool ((((l[i]).ch)[j]).was), .bool ((((l[i]).ch)[j]).is), .string ((((l[i]).ch)[j]).old), .string ((((l[i]).ch)[j]).new), .int .i64 ((((l[i]).ch)[j]).next)] ∧ Blk w_ g7 71 [.int .i64 ((opC (((l[i]).ch)[j])).kind), .string ((opC (((l[i]).ch)[j])).key), .string ((opC (((l[i]).ch)[j])).val)] ∧ True)) hbT hbt hT hsx hok2 hB (Nat.le_trans ge3 ge1) (Nat.le_trans ge3 ge2) htb ⟨hS, hD, hb6, hb7, trivial⟩ (by rintro w_ w2_ ⟨hS, hD, hb6, hb7, _⟩ hs_; replace hS := hS.gb hs_; replace hD := hD.gb hs_; replace hb6 := hb6.gb hs_; replace hb7 := hb7.gb hs_; exact ⟨hS, hD, hb6, hb7, trivial⟩) (by rintro w_ w2_ cs_ ⟨hS, hD, hb6, hb7, _⟩ hb_ hs_; replace hS := hS.old hs_ (Nat.le_trans ge3 ge2); replace hD := hD.old hs_ (Nat.le_trans ge3 ge2); replace hb6 := hb6.grown hs_ (ne_gt lt4); replace hb7 := hb7.grown hs_ (ne_gt lt6); exact ⟨hS, hD, hb6, hb7, trivial⟩) (by rintro w_ w2_ cs_ ⟨hS, hD, hb6, hb7, _⟩ hb_ hs_; replace hS := hS.old hs_ (Nat.le_trans ge3 ge1); replace hD := hD.old hs_ (Nat.le_trans ge3 ge1); replace hb6 := hb6.grown hs_ (ne_gt lt3); replace hb7 := hb7.grown hs_ (ne_gt lt5); exact ⟨hS, hD, hb6, hb7, trivial⟩) (by rintro w_ w2_ g_ cs_ ⟨hS, hD, hb6, hb7, _⟩ hb_ hg_ hs_; replace hS := hS.old hs_ (by omega); replace hD := hD.old hs_ (by omega); replace hb6 := hb6.grown hs_ (ne_ty hb6 hb_ rfl); replace hb7 := hb7.grown hs_ (by intro e; injection e; omega); exact ⟨hS, hD, hb6, hb7, trivial⟩) (by rintro w_ ⟨hS, hD, hb6, hb7, _⟩; exact Sli.any (Blk.sli (m := 0) hb7))) rfl ?_
              rintro _ w11 ⟨hB, ⟨hS, hD, hb6, hb7, _⟩, nn1, tr1, by1, rfl, hb8, hb9, ht1, hkv1, hok1⟩
              refine L_nil (N_in (N_then (C_reg rfl ?_)))
              refine L_run (R_add64 rfl rfl (by omega)) rfl ?_
              refine L_run (R_move rfl) rfl ?_
              refine L_nil (N_then ?_)
              exact ⟨(l[i]).ch.length - (j + 1), by omega, _, tr1, by1, (j + 1), Ac_frg ⟨rfl, rfl, rfl, rfl, rfl, rfl, rfl, rfl, (agr rfl (by first | rfl | (congr 1; omega) | (congr 1; simp; done) | (congr 1; simp only [IntKind.wrap_u64, IntKind.wrap_i64, IntKind.wrap_u8]; omega) | (congr 1 <;> omega))), trivial⟩, hB, hS, hD, hb8, hb9, ht1.top, (by rw [pre_go hli hlj, kv_snoc, ← hkv2]; exact hkv1), hok1, (by omega), (by rw [pre_go hli hlj, fits_snoc, hft2, Bool.true_and, ← hkv2]; exact hfit), rfl⟩
        · refine C_exit (X_then (X_then (X_hit (N_in (N_then (C_reg rfl ?_))))))
          refine L_run (R_add64 rfl rfl (by omega)) rfl ?_
          refine L_run (R_move rfl) rfl ?_
          refine L_nil (N_then ?_)
          have pe_ := pre_end (l := l) (i := i) (j := j) hli (by omega)
          exact ⟨l.length - (i + 1), by omega, _, tr2, by2, (i + 1), Ac_frg ⟨rfl, rfl, rfl, rfl, rfl, (agr rfl (by first | rfl | (congr 1; omega) | (congr 1; simp; done) | (congr 1; simp only [IntKind.wrap_u64, IntKind.wrap_i64, IntKind.wrap_u8]; omega) | (congr 1 <;> omega))), trivial⟩, hB, hS, hD, hbT, hbt, hT.top, (by rw [← pe_]; exact hkv2), hok2, (by omega), (by rw [← pe_]; exact hft2), rfl⟩
    · refine C_exit (X_then (X_then (X_hit (N_then (C_seq (C_reg rfl ?_))))))
      refine L_run (R_assign rfl) rfl ?_
      refine L_nil (N_then (C_ret ?_))
      refine ret1 Try.results11 rfl ?_
      have pe_ := chs_all (l := l) (i := i) (by omega)
      rw [pe_] at hft
      exact ⟨hB, by rw [hft]⟩

end Go.Proofs.Ytbmohojdlgedpaa
