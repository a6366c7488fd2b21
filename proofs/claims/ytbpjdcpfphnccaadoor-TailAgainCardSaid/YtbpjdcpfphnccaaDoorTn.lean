/-
  Contracts of the package image: a record laid.
-/
import Derived.Test.YtbpjdcpfphnccaaDoorTm
namespace Go.Proofs.YtbpjdcpfphnccaaDoor
open Go.RowKit Gw Pl
set_option linter.unusedVariables false
set_option linter.unusedSimpArgs false
theorem cb48 : callB Tryd.prog 48 = true := by kernel_rfl
theorem cb49 : callB Tryd.prog 49 = true := by kernel_rfl
theorem sz92 : szB Tryd.prog 92 3 = true := by kernel_rfl
theorem rawK_pos {n : Nat} : ∀ (fu : Nat) (fst : Bool) (q f : Nat) (r : List (Nat × Nat × Nat × Nat) × Nat), rawK n fu fst q f = some r → ∀ p ∈ r.1, 1 ≤ p.2.1
  | 0, _, _, _, _, h => by simp [rawK] at h
  | fu + 1, fst, q, f, r, h => by
    have hk : ∀ a b, 1 ≤ kndN a b := by decide
    simp only [rawK] at h
    split at h
    · cases h
    · split at h
      · obtain ⟨r', hr', rfl⟩ := Option.map_eq_some_iff.1 h
        intro p hp
        rcases List.mem_cons.1 hp with rfl | hp
        · exact hk _ _
        · exact rawK_pos fu _ _ _ r' hr' p hp
      · obtain rfl := Option.some.inj h
        intro p hp
        rw [List.mem_singleton] at hp
        subst hp
        exact hk _ _
theorem cutN_pos' {a n : Nat} : ∀ p ∈ cps (cutN a n), 1 ≤ p.2.1 := by
  rw [cutN_K]
  cases hc : rawK n 833 true a 0 with
  | none => intro p hp; cases hp
  | some r => exact rawK_pos 833 true a 0 r hc
theorem cutN_pos {a n i : Nat} (h : i < (cps (cutN a n)).length) : 1 ≤ (cps (cutN a n))[i].2.1 := cutN_pos' _ (List.getElem_mem h)
theorem lay_one {e i : Nat} {X data : List UInt8} {fs : List FrD} {ps : List (Nat × Nat × Nat × Nat)} {m : Nat} (hF : FrsI (e % 4294967296) data fs ps) (h1 : i < fs.length) (h2 : i < ps.length) (hm : (fragB fs[i].k fs[i].ep fs[i].xs).length ≤ m) : spl X (0 + ps[i].1) ((fragB fs[i].k fs[i].ep fs[i].xs).take m) = layP e data X ps[i] := by
  obtain ⟨a1, a2, a3⟩ := hF.get h1 h2
  rw [List.take_of_length_le hm, Nat.zero_add, a1, a2, a3]
  rfl
theorem iadd_ok {w : World} {t1 lo hi t2 lo2 hi2 : Nat} {A A2 : Option Addr} {c c2 e a : Nat} {body data : List UInt8} (hT : Tbw w) (hS : Sli t1 lo hi w A (fl encB body)) (hD : Sli t2 lo2 hi2 w A2 (fl encB data)) (hd : data.length ≤ 1000000) (hc2 : data.length ≤ c2) (ha : a ≤ 832) :
    Runs Tryd.prog 36 #[.int .u64 (e : Int), .slice A body.length c, .int .i64 (a : Int), .slice A2 data.length c2] w (fun v w' => w.grownBy w' none ∧ ∃ A' c', v = .tuple #[.slice A' (aB (addN e body a data)).length c', .int .i64 ((cen (addN e body a data) : Nat) : Int), .bool ((addN e body a data)).isSome] ∧ (World.ownsRow w' w.heap.size 5 1 (.slice A' (aB (addN e body a data)).length c') (aB (addN e body a data)).length (fl encB (aB (addN e body a data))) ∧ (((addN e body a data)).isSome = false → A' = none ∧ c' = 0))) := by
  have hB := gb_refl w none
  have hPO : POk data.length (cps (cutN a data.length)) := by
    cases hcu : cutN a data.length with
    | none => intro p hp; cases hp
    | some r_ => exact (cutN_ok ha hcu).1
  have hPL : (cps (cutN a data.length)).length ≤ 833 := by
    cases hcu : cutN a data.length with
    | none => exact Nat.zero_le _
    | some r_ => exact cutN_len hcu
  replace hS := hS.top
  replace hD := hD.top
  refine enter Tryd.func36 Tryd.ntmps36 rfl rfl ?_
  refine C_seq (C_reg rfl ?_)
  refine L_run (R_assign rfl) rfl ?_
  refine L_run (R_assign rfl) rfl ?_
  refine L_run (R_assign rfl) rfl ?_
  refine L_nil (N_then (C_seq (C_reg rfl ?_)))
  refine L_run (R_move rfl) rfl ?_
  refine L_run (R_move rfl) rfl ?_
  refine L_run (R_lenSl rfl slc46) rfl ?_
  have ge1 : w.heap.size ≤ w.heap.size := hB.size
  refine L_call rfl cb47 (cut_ok (a := a) (n := data.length) ha hd) rfl ?_
  rintro _ w1 ⟨hs1, A_1, c_1, rfl, ho1⟩
  replace hB := gb_tr hB hs1
  replace hS := hS.gb hs1
  replace hD := hD.gb hs1
  have hlo1 : w.heap.size ≤ w1.heap.size := hs1.size
  refine L_run (R_move rfl) rfl ?_
  refine L_run (R_extract rfl rfl) rfl ?_
  refine L_run (R_extract rfl rfl) rfl ?_
  refine L_run (R_extract rfl rfl) rfl ?_
  refine L_run (R_assign rfl) rfl ?_
  refine L_run (R_assign rfl) rfl ?_
  refine L_run (R_assign rfl) rfl ?_
  refine L_nil (N_then (C_seq (C_seq (C_reg rfl ?_))))
  refine L_run (R_move rfl) rfl ?_
  refine L_run (R_not rfl) rfl ?_
  refine L_nil (N_then ?_)
  refine C_cond rfl (fun h1 => ?_) (fun h1 => ?_)
  · refine C_seq (C_reg rfl ?_)
    refine L_run (R_assign rfl) rfl ?_
    refine L_run (R_assign rfl) rfl ?_
    refine L_run (R_assign rfl) rfl ?_
    refine L_nil (N_then (C_ret (R_then ?_)))
    refine ret3 Tryd.results36 rfl rfl rfl ?_
    have hx_ : addN e body a data = none := by unfold addN; cases hcu : cutN a data.length with
      | none => rfl
      | some r_ => simp_all
    rw [hx_]; exact ⟨hB, none, 0, rfl, own_nil _ _ _ _, fun _ => ⟨rfl, rfl⟩⟩
  · refine C_skip (N_then (C_seq (C_reg rfl ?_)))
    refine L_make (enc := encB) (m := 832) (x0 := (0 : UInt8)) slc46 zer5 rfl rfl rfl EncB (by omega) (by omega) rfl ?_
    intro g1 w2 eg1 hb1 hs2 hz1
    have ge2 : w.heap.size ≤ g1 := eg_ge hB eg1
    replace hB := gb_tr hB hs2
    replace hS := hS.gb hs2
    replace hD := hD.gb hs2
    replace ho1 := own_gb ho1 hs2
    replace hlo1 := Nat.le_trans hlo1 hs2.size
    refine L_run (R_assign rfl) rfl ?_
    refine L_nil (N_then (C_seq (C_reg rfl ?_)))
    refine L_run (R_move rfl) rfl ?_
    refine L_run (R_move rfl) rfl ?_
    refine T_copy (xs := (List.replicate 832 (0 : UInt8))) (ys := body) (o := 0) (m := 832) EncB slc46 rfl rfl hb1 (fun _ => rfl) (by rw [List.length_replicate]; first | omega | (simp; omega)) hS rfl ?_
    intro w3 hb2 hs3 hz2
    replace hB := gb_trg hB hs3 ge2
    replace hS := hS.old hs3 ge2
    replace hD := hD.old hs3 ge2
    replace ho1 := own_other ho1 hb1 rfl hs3
    replace hlo1 := Nat.le_trans hlo1 hs3.size
    refine L_nil (N_then (C_seq (C_reg rfl ?_)))
    refine L_run (R_move rfl) rfl ?_
    refine L_run (R_eqv (R_conv rfl any22 int90) (v' := .int .u32 ((e % 4294967296 : Nat) : Int)) (congrArg _ (by rw [IntKind.wrap_u32]; omega))) rfl ?_
    refine L_run (R_move rfl) rfl ?_
    refine L_run (R_move rfl) rfl ?_
    have ge3 : w.heap.size ≤ w3.heap.size := hB.size
    refine L_call rfl cb48 (frags_ok (ep := (e % 4294967296)) (a := a) (d := data) hD hd hc2 ha) rfl ?_
    rintro _ w4 ⟨hs4, fs1, A_2, c_2, rfl, ho2, hDF1, hFr1⟩
    have lb1 : g1 < w3.heap.size := hb2.lt
    replace hB := gb_tr hB hs4
    replace hS := hS.gb hs4
    replace hD := hD.gb hs4
    replace ho1 := own_gb ho1 hs4
    replace hlo1 := Nat.le_trans hlo1 hs4.size
    replace hb2 := hb2.gb hs4
    have hlo2 : w3.heap.size ≤ w4.heap.size := hs4.size
    refine L_run (R_move rfl) rfl ?_
    refine L_run (R_extract rfl rfl) rfl ?_
    refine L_run (R_extract rfl rfl) rfl ?_
    refine L_run (R_assign rfl) rfl ?_
    refine L_run (R_assign rfl) rfl ?_
    refine L_nil (N_then (C_seq (C_seq (C_reg rfl ?_))))
    refine L_run (R_move rfl) rfl ?_
    refine L_run (R_lenSl rfl slc99) rfl ?_
    refine L_run (R_move rfl) rfl ?_
    refine L_nil (N_then (C_block ?_))
    rw [pad_copy] at hb2
    have hfl := hFr1.len
    have hfr_pos : ∀ (j : Nat) (hj : j < fs1.length), 1 ≤ (fs1[j]).k ∧ (fs1[j]).k ≤ 4 ∧ (fs1[j]).ep < 4294967296 ∧ (fs1[j]).xs.length ≤ 197 := by
      intro j hj
      have h1_ := hFr1.get hj (show j < (cps (cutN a data.length)).length by omega)
      have h2_ := hPO.get (show j < (cps (cutN a data.length)).length by omega)
      have h3_ := cutN_pos (show j < (cps (cutN a data.length)).length by omega)
      rw [h1_.1, h1_.2.1, h1_.2.2, List.length_take]
      omega
    refine C_loop (fun m_ a_ w_ => ∃ (σ_ : Nat → Value) (i : Nat), a_ = Ac 67 σ_ [] [(0, .int .u64 (e : Int)), (1, .slice A body.length c), (2, .int .i64 (a : Int)), (3, .slice A2 data.length c2), (8, .slice none 0 0), (9, .int .i64 0), (10, .bool false), (11, .slice A_1 ((cps (cutN a data.length)).length) c_1), (12, .int .i64 ((cen (cutN a data.length) : Nat) : Int)), (14, .slice (some ⟨g1, 0, none⟩) 832 832), (43, .slice A_2 fs1.length c_2), (44, .int .i64 (fs1.length : Int)), (45, .int .i64 (i : Int))] ∧ w.grownBy w_ none ∧ Sli t1 lo w.heap.size w_ A (fl encB body) ∧ Sli t2 lo2 w.heap.size w_ A2 (fl encB data) ∧ World.ownsRow w_ w.heap.size 89 4 (.slice A_1 (cps (cutN a data.length)).length c_1) (cps (cutN a data.length)).length (fl encP (cps (cutN a data.length))) ∧ World.ownsRow w_ w3.heap.size 92 3 (.slice A_2 fs1.length c_2) fs1.length (fl encF fs1) ∧ DeepFr 5 w3.heap.size w4.heap.size w_ fs1 ∧ Blk w_ g1 5 (fl encB (layI e body data (cps (cutN a data.length)) i)) ∧ (i ≤ (cps (cutN a data.length)).length) ∧ (cps (cutN a data.length)).length - i = m_) ((cps (cutN a data.length)).length - 0) ?_ ?_
    · exact ⟨_, 0, Ac_frg ⟨rfl, rfl, rfl, rfl, rfl, rfl, rfl, rfl, rfl, rfl, rfl, rfl, (agr rfl (by first | rfl | (congr 1; omega) | (congr 1; simp; done) | (congr 1; simp only [IntKind.wrap_u64, IntKind.wrap_i64, IntKind.wrap_u8]; omega) | (congr 1 <;> omega))), trivial⟩, hB, hS, hD, ho1, ho2, hDF1, hb2, (by omega), rfl⟩
    · clear hB
      clear hS hD ho1 hlo1 hb2 ho2 hDF1 hlo2
      rintro m_ a_ w5 ⟨σ_, i, rfl, hB, hS, hD, ho1, ho2, hDF1, hbo, hi, rfl⟩
      refine C_seq (C_reg rfl ?_)
      refine L_run (R_lss rfl rfl) rfl ?_
      refine L_nil (N_then (C_seq ?_))
      refine C_if rfl (fun h2 => ?_) (fun h2 => ?_)
      · refine C_skip (N_then (C_seq (C_block (C_seq (C_reg rfl ?_)))))
        refine L_run (R_move rfl) rfl ?_
        have hl1 : i < fs1.length := by first | omega | (simp; omega)
        refine T_index (xs := fs1) (i := i) EncF rfl rfl (by first | rfl | omega) slc99 hl1 (own_of ho2).2.2 rfl ?_
        intro g2 o1 ha1
        refine L_run (R_loadA (vs := [.int .i64 (((fs1[i]).k : Nat) : Int), .int .u32 ((fs1[i]).ep : Int), .slice ((fs1[i]).a) ((fs1[i]).xs.length) ((fs1[i]).c)]) rfl agg92 (At.pre ha1 rfl) rfl) rfl ?_
        refine L_alloc (cs := [.int .i64 0, .int .u32 0, .slice none 0 0]) zer92 rfl rfl ?_
        intro g3 w6 eg2 hb3 hs5 hz3
        have ge4 : w.heap.size ≤ g3 := eg_ge hB eg2
        have lt1 : g1 < g3 := lt_of_eg hbo.lt eg2
        have hap1 : ∀ k_, (Value.slice A_2 fs1.length c_2).ownBlock = some k_ → k_ ≠ g3 := fun k_ hk => by have h_ := (World.ownsRow.lt ho2 k_ hk).2; omega
        replace hB := gb_tr hB hs5
        replace hS := hS.gb hs5
        replace hD := hD.gb hs5
        replace ho1 := own_gb ho1 hs5
        replace ho2 := own_gb ho2 hs5
        replace hDF1 := hDF1.gb hs5
        replace hbo := hbo.gb hs5
        replace ha1 := At.gb ha1 hs5 (by simp)
        refine L_run (R_assign rfl) rfl ?_
        refine L_stA (vs := [.int .i64 (((fs1[i]).k : Nat) : Int), .int .u32 ((fs1[i]).ep : Int), .slice ((fs1[i]).a) ((fs1[i]).xs.length) ((fs1[i]).c)]) rfl rfl rfl sz92 rfl hb3 rfl ?_
        intro w7 hb4 hs6 hz4
        replace hB := gb_trg hB hs6 ge4
        replace hS := hS.old hs6 ge4
        replace hD := hD.old hs6 ge4
        replace ho1 := own_other ho1 hb3 rfl hs6
        replace ho2 := ho2.kept hs6 (.inr (fun e_ => hap1 _ e_ rfl))
        replace hDF1 := hDF1.other hb3 rfl rfl hs6
        replace hbo := hbo.grown hs6 (ne_lt lt1)
        refine L_nil (N_then (C_seq (C_reg rfl ?_)))
        refine L_run (R_loadA (vs := [.int .i64 (((fs1[i]).k : Nat) : Int), .int .u32 ((fs1[i]).ep : Int), .slice ((fs1[i]).a) ((fs1[i]).xs.length) ((fs1[i]).c)]) rfl agg92 (At.pre (hb4.at_ 0) rfl) rfl) rfl ?_
        refine L_call rfl cb49 (fenc_ok (k := ((fs1[i]).k)) (ep := ((fs1[i]).ep)) (d := (fs1[i]).xs) (by have h_ := hfr_pos i (by omega); omega) (by have h_ := hfr_pos i (by omega); omega) (by have h_ := hfr_pos i (by omega); omega) (hT.gb hB) (hDF1.get (i := i) (by first | assumption | omega | (simp; omega))) (by have h_ := hfr_pos i (by omega); omega)) rfl ?_
        rintro _ w8 ⟨hs7, A_3, c_3, rfl, hS_1⟩
        have lb2 : g1 < w7.heap.size := hbo.lt
        replace hB := gb_tr hB hs7
        replace hS := hS.gb hs7
        replace hD := hD.gb hs7
        replace ho1 := own_gb ho1 hs7
        replace ho2 := own_gb ho2 hs7
        replace hDF1 := hDF1.gb hs7
        replace hbo := hbo.gb hs7
        replace hb4 := hb4.gb hs7
        refine L_run (R_move rfl) rfl ?_
        refine L_run (R_extract rfl rfl) rfl ?_
        refine L_run (R_extract rfl rfl) rfl ?_
        refine L_run (R_assign rfl) rfl ?_
        refine L_run (R_assign rfl) rfl ?_
        refine L_nil (N_then (C_reg rfl ?_))
        refine L_run (R_move rfl) rfl ?_
        refine L_run (R_move rfl) rfl ?_
        refine L_run (R_move rfl) rfl ?_
        have hl2 : i < (cps (cutN a data.length)).length := by first | omega | (simp; omega)
        refine T_index (xs := cps (cutN a data.length)) (i := i) EncP rfl rfl (by first | rfl | omega) slc84 hl2 (own_of ho1).2.2 rfl ?_
        intro g4 o2 ha2
        refine L_run (R_field rfl fld89_0 rfl) rfl ?_
        refine L_run (R_load1 rfl scl3 (ha2 0 _ rfl)) rfl ?_
        refine T_slB (o := 0) (m := 832) (i := (((cps (cutN a data.length))[i]).1)) (j := 832) (r := 832) EncB slc46 rfl hbo (by rw [(layI_len hPO rfl _ (by omega))]; omega) (by have h_ := hPO.get (show i < (cps (cutN a data.length)).length by omega); omega) (Nat.le_refl _) (Nat.le_refl _) (Nat.le_refl _) rfl ⟨_, rfl⟩ rfl rfl ?_
        intro A_4 hA1 hS_2
        refine L_run (R_move rfl) rfl ?_
        refine T_copy (xs := (layI e body data (cps (cutN a data.length)) i)) (ys := (fragB ((fs1[i]).k) ((fs1[i]).ep) ((fs1[i]).xs))) (o := (0 + (((cps (cutN a data.length))[i]).1))) (m := (((layI e body data (cps (cutN a data.length)) i).drop (0 + (((cps (cutN a data.length))[i]).1))).take (832 - (((cps (cutN a data.length))[i]).1))).length) EncB slc46 rfl rfl hbo (fun _ => hA1 (by have h_ := hPO.get (show i < (cps (cutN a data.length)).length by omega); omega)) (by have h_ := hPO.get (show i < (cps (cutN a data.length)).length by omega); have h2_ := layI_len (e := e) (b := body) hPO rfl i (by omega); simp only [List.length_take, List.length_drop]; omega) hS_1 rfl ?_
        intro w9 hb5 hs8 hz5
        replace hB := gb_trg hB hs8 ge2
        replace hS := hS.old hs8 ge2
        replace hD := hD.old hs8 ge2
        replace ho1 := own_other ho1 hbo rfl hs8
        replace ho2 := own_other ho2 hbo rfl hs8
        replace hDF1 := hDF1.far hs8 (by omega)
        replace hb4 := hb4.grown hs8 (ne_gt lt1)
        refine L_nil (N_in (N_then (C_reg rfl ?_)))
        refine L_run (R_add64 rfl rfl (by omega)) rfl ?_
        refine L_run (R_move rfl) rfl ?_
        refine L_nil (N_then ?_)
        have hfit := piece_fit (e := e) (X := layI e body data (cps (cutN a data.length)) i) hPO rfl (show i < (cps (cutN a data.length)).length by omega) (layI_len hPO rfl _ (by omega))
        have hg_ := hFr1.get (i := i) (by omega) (by omega)
        have hll := layI_len (e := e) (b := body) hPO rfl i (by omega)
        have hly := lay_one (X := layI e body data (cps (cutN a data.length)) i) (m := ((((layI e body data (cps (cutN a data.length)) i).drop (0 + ((cps (cutN a data.length))[i]).1)).take (832 - ((cps (cutN a data.length))[i]).1)).length)) hFr1 (show i < fs1.length by omega) (show i < (cps (cutN a data.length)).length by omega) (by rw [fragB_len] at hfit ⊢; rw [hg_.2.2]; simp only [List.length_take, List.length_drop] at *; omega)
        exact ⟨(cps (cutN a data.length)).length - (i + 1), by omega, _, (i + 1), Ac_frg ⟨rfl, rfl, rfl, rfl, rfl, rfl, rfl, rfl, rfl, rfl, rfl, rfl, (agr rfl (by first | rfl | (congr 1; omega) | (congr 1; simp; done) | (congr 1; simp only [IntKind.wrap_u64, IntKind.wrap_i64, IntKind.wrap_u8]; omega) | (congr 1 <;> omega))), trivial⟩, hB, hS, hD, ho1, ho2, hDF1, (by rw [layI_succ (by omega), ← hly]; exact hb5), (by omega), rfl⟩
      · refine C_exit (X_then (X_then (X_hit (N_then (C_seq (C_reg rfl ?_))))))
        refine L_run (R_move rfl) rfl ?_
        refine L_run (R_move rfl) rfl ?_
        refine L_run (R_assign rfl) rfl ?_
        refine L_run (R_assign rfl) rfl ?_
        refine L_run (R_assign rfl) rfl ?_
        refine L_nil (N_then (C_ret ?_))
        refine ret3 Tryd.results36 rfl rfl rfl ?_
        obtain rfl : i = (cps (cutN a data.length)).length := by omega
        have hx_ : addN e body a data = some (layI e body data (cps (cutN a data.length)) (cps (cutN a data.length)).length, cen (cutN a data.length)) := by unfold addN; cases hcu : cutN a data.length with
          | none => simp_all
          | some r_ => rfl
        have hl_ : (layI e body data (cps (cutN a data.length)) (cps (cutN a data.length)).length).length = 832 := layI_len hPO rfl _ (Nat.le_refl _)
        have ho_ := Blk.own (sz := 1) (m := 832) hbo (by decide) (by rw [fl_len EncB, hl_]) ge2
        rw [hx_]; refine ⟨hB, some ⟨g1, 0, none⟩, 832, ?_, ?_, fun h_ => by cases h_⟩
        · show _ = Value.tuple #[.slice _ (layI e body data (cps (cutN a data.length)) (cps (cutN a data.length)).length).length 832, _, _]; rw [hl_]; rfl
        · show World.ownsRow _ _ _ _ (.slice _ (layI e body data (cps (cutN a data.length)) (cps (cutN a data.length)).length).length _) (layI e body data (cps (cutN a data.length)) (cps (cutN a data.length)).length).length _; rw [hl_]; exact ho_

end Go.Proofs.YtbpjdcpfphnccaaDoor
