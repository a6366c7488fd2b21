/-
  Contracts of the package script and of its reference: the bytes of steps.
-/
import Derived.Test.YtnggbodilhpohaaCs
namespace Go.Proofs.Ytnggbodilhpohaa
open Go.RowKit Gw Pl
set_option linter.unusedVariables false
set_option linter.unusedSimpArgs false
theorem cb44 : callB Try.prog 44 = true := by kernel_rfl
theorem cb48 : callB Try.prog 48 = true := by kernel_rfl
theorem cb53 : callB Try.prog 53 = true := by kernel_rfl
theorem script_Encode_ok {w : World} {t1 lo hi hh : Nat} {A : Option Addr} {c : Nat} {l : List StepD} (hS : Sli t1 lo hi w A (fl encS l)) (hD : DeepS hh w l) (hf : ∀ y ∈ l, FewS y) (hn : l.length ≤ 64) (hok : ∀ p ∈ ps l, sOk p) :
    Runs Try.prog 52 #[.slice A l.length c] w (fun v w' => w.grownBy w' none ∧ ∃ A' c', v = .tuple #[.slice A' (sencs (ps l)).length c', .int .i64 0] ∧ World.ownsRow w' w.heap.size 5 1 (.slice A' (sencs (ps l)).length c') (sencs (ps l)).length (fl encB (sencs (ps l)))) := by
  have hB := gb_refl w none
  replace hD := hD.top
  replace hS := hS.top
  refine enter Try.func52 Try.ntmps52 rfl rfl ?_
  refine C_seq (C_reg ?_)
  refine L_run (R_assign rfl) rfl ?_
  refine L_run (R_assign rfl) rfl ?_
  refine L_nil (N_then (C_seq (C_seq (C_reg ?_))))
  refine L_run (R_move rfl) rfl ?_
  refine L_run (R_lenSl rfl slc58) rfl ?_
  refine L_run (R_gtr rfl rfl) rfl ?_
  refine L_nil (N_then (C_condF rfl (decide_eq_false (show ¬ 64 < (l.length : Int) by omega)) (C_skip (N_then (C_seq (C_reg ?_))))))
  refine L_run (R_assign rfl) rfl ?_
  refine L_nil (N_then (C_seq (C_seq (C_reg ?_))))
  refine L_run (R_move rfl) rfl ?_
  refine L_run (R_lenSl rfl slc58) rfl ?_
  refine L_run (R_move rfl) rfl ?_
  refine L_nil (N_then (C_block ?_))
  refine C_loop (fun m_ a_ w_ => ∃ (σ_ : Nat → Value) (A' : Option Addr) (c' : Nat) (k : Nat), a_ = Ac 68 σ_ [] [(2, .slice none 0 0), (3, .int .i64 0), (4, .slice A' ((sencs (ps (l.take k))).length) c'), (12, .slice A l.length c), (13, .int .i64 (l.length : Int)), (14, .int .i64 (k : Int))] ∧ w.grownBy w_ none ∧ Sli t1 lo w.heap.size w_ A (fl encS l) ∧ DeepS w.heap.size w_ l ∧ World.ownsRow w_ w.heap.size 5 1 (.slice A' (sencs (ps (l.take k))).length c') (sencs (ps (l.take k))).length (fl encB (sencs (ps (l.take k)))) ∧ (k ≤ l.length) ∧ l.length - k = m_) (l.length - 0) ?_ ?_
  · exact ⟨_, none, 0, 0, Ac_frg ⟨rfl, rfl, (agr rfl (by first | rfl | (congr 1; omega) | (congr 1; simp; done) | (congr 1; simp only [IntKind.wrap_u64, IntKind.wrap_i64, IntKind.wrap_u8]; omega) | (congr 1 <;> omega))), rfl, rfl, (agr rfl (by first | rfl | (congr 1; omega) | (congr 1; simp; done) | (congr 1; simp only [IntKind.wrap_u64, IntKind.wrap_i64, IntKind.wrap_u8]; omega) | (congr 1 <;> omega))), trivial⟩, hB, hS, hD, (own_nil w.heap.size 5 1 _), (Nat.zero_le _), rfl⟩
  · clear hB
    clear hS hD
    rintro m_ a_ w1 ⟨σ_, A', c', k, rfl, hB, hS, hD, ho, hk, rfl⟩
    refine C_seq (C_reg ?_)
    refine L_run (R_lss rfl rfl) rfl ?_
    refine L_nil (N_then (C_seq ?_))
    refine C_if rfl (fun h1 => ?_) (fun h1 => ?_)
    · refine C_skip (N_then (C_seq (C_block (C_seq (C_reg ?_)))))
      have hl1 : k < l.length := by first | omega | (simp; omega)
      refine T_index (xs := l) (i := k) EncS rfl rfl (by first | rfl | omega) slc58 hl1 hS rfl ?_
      intro g1 o1 ha1
      refine L_run (R_loadA (vs := [.int .i64 ((l[k]).p.kind), .int .i64 ((l[k]).p.n), .slice ((l[k]).oa) ((l[k]).p.ops.length) ((l[k]).oc), .slice ((l[k]).ka) ((l[k]).p.keep.length) ((l[k]).kc), .int .i64 ((l[k]).p.torn), .int .i64 ((l[k]).p.cut)]) rfl agg65 (At.pre ha1 rfl) rfl) rfl ?_
      refine L_alloc (cs := [.int .i64 0, .int .i64 0, .slice none 0 0, .slice none 0 0, .int .i64 0, .int .i64 0]) zer65 rfl rfl ?_
      intro g2 w2 eg1 hb1 hs1 hz1
      have ge1 : w.heap.size ≤ g2 := eg_ge hB eg1
      replace hB := gb_tr hB hs1
      replace hS := hS.gb hs1
      replace hD := hD.gb hs1
      replace ho := own_gb ho hs1
      replace ha1 := At.gb ha1 hs1 (by simp)
      refine L_stA (vs := [.int .i64 ((l[k]).p.kind), .int .i64 ((l[k]).p.n), .slice ((l[k]).oa) ((l[k]).p.ops.length) ((l[k]).oc), .slice ((l[k]).ka) ((l[k]).p.keep.length) ((l[k]).kc), .int .i64 ((l[k]).p.torn), .int .i64 ((l[k]).p.cut)]) rfl rfl rfl sz65 rfl hb1 rfl ?_
      intro w3 hb2 hs2 hz2
      replace hB := gb_trg hB hs2 ge1
      replace hS := hS.old hs2 ge1
      replace hD := hD.old hs2 ge1
      replace ho := own_other ho hb1 rfl hs2
      refine L_nil (N_then (C_seq (C_seq (C_reg ?_))))
      refine L_run (R_loadA (vs := [.int .i64 ((l[k]).p.kind), .int .i64 ((l[k]).p.n), .slice ((l[k]).oa) ((l[k]).p.ops.length) ((l[k]).oc), .slice ((l[k]).ka) ((l[k]).p.keep.length) ((l[k]).kc), .int .i64 ((l[k]).p.torn), .int .i64 ((l[k]).p.cut)]) rfl agg65 (At.pre (hb2.at_ 0) rfl) rfl) rfl ?_
      refine L_call rfl cb53 (script_Right (ops := (l[k]).p.ops) (hD.getO (i := k) (by first | assumption | omega | (simp; omega))) (by have h_ := (hf _ (List.getElem_mem (show k < l.length by omega))).1; omega)) rfl ?_
      rintro _ w4 ⟨hs3, rfl⟩
      replace hB := gb_tr hB hs3
      replace hS := hS.gb hs3
      replace hD := hD.gb hs3
      replace ho := own_gb ho hs3
      replace hb2 := hb2.gb hs3
      refine L_run (R_notD rfl) rfl ?_
      refine L_nil (N_then (C_condF rfl (decide_eq_false (fun hn => hn (sall hok (show k < l.length by omega)))) (C_skip (N_then (C_seq (C_reg ?_))))))
      refine L_run (R_move rfl) rfl ?_
      refine L_run (R_field (r := 0) rfl fld65_0 rfl) rfl ?_
      refine L_run (R_load1 rfl scl3 (hb2.cell (i := 0) rfl)) rfl ?_
      refine L_run (R_eqv (R_conv rfl any3 int5) (v' := .int .u8 ((bt (l[k].p.kind)).toNat : Int)) (u8_ofI _)) rfl ?_
      refine L_buildSlice (pv := [(0, .int .u8 ((bt (l[k].p.kind)).toNat : Int))]) (cs := [.int .u8 ((bt (l[k].p.kind)).toNat : Int)]) slc42 zer5 rfl rfl (by kernel_rfl) rfl ?_
      intro g3 w5 eg2 hb3 hs4 hz3
      have ge2 : w.heap.size ≤ g3 := eg_ge hB eg2
      have lt1 : g2 < g3 := lt_of_eg hb2.lt eg2
      have hap1 : ∀ k_, (Value.slice A' (sencs (ps (l.take k))).length c').ownBlock = some k_ → k_ ≠ g3 := fun k_ hk => by have h_ := (World.ownsRow.lt ho k_ hk).2; omega
      replace hB := gb_tr hB hs4
      replace hS := hS.gb hs4
      replace hD := hD.gb hs4
      replace ho := own_gb ho hs4
      replace hb2 := hb2.gb hs4
      refine T_append (xs := sencs (ps (l.take k))) (ys := [(bt (l[k].p.kind))]) EncB slc42 rfl rfl ho (Blk.sli (m := 0) hb3) (by have h_ := sencs_take hok k; rw [ps_take, ps_len] at h_; have h2_ := encs_le (sall hok (show k < l.length by omega)); have h3_ := fenc_len (encs l[k].p.ops); have h4_ := fenc_len l[k].p.keep; have h5_ := (sOk_keep (sall hok (show k < l.length by omega))).1; simp at *; omega) (by have := hB.size; omega) rfl ?_
      intro A_1 c_1 w6 ho1 hs5 hat1
      replace hB := gb_tro hB ho hs5 (Nat.le_refl _)
      replace hS := hS.grown hs5 (fun k hk => .inr (Nat.le_trans (Nat.le_refl _) (World.ownsRow.lt ho k hk).1))
      replace hD := hD.own ho (Nat.le_refl _) hs5
      replace hb2 := blk_own hb2 ho rfl hs5
      refine L_run (R_assign rfl) rfl ?_
      refine L_nil (N_then (C_seq (C_reg ?_)))
      refine L_run (R_field (r := 0) rfl fld65_0 rfl) rfl ?_
      refine L_run (R_load1 rfl scl3 (hb2.cell (i := 0) rfl)) rfl ?_
      refine L_nil (N_then (C_block (C_seq (C_reg ?_))))
      refine L_run (R_eql rfl rfl) rfl ?_
      refine L_run (R_assign rfl) rfl ?_
      refine L_nil (N_then ?_)
      refine C_if rfl (fun h2 => ?_) (fun h2 => ?_)
      · refine C_seq (C_reg ?_)
        refine L_run (R_field (r := 2) rfl fld65_2 rfl) rfl ?_
        refine L_run (R_load1 rfl scl22 (hb2.cell (i := 2) rfl)) rfl ?_
        have ge3 : w.heap.size ≤ w6.heap.size := hB.size
        refine L_call rfl cb44 (batch_Encode_ok (l := (l[k]).p.ops) (hD.getO (i := k) (by first | assumption | omega | (simp; omega))) (by have h_ := (hf _ (List.getElem_mem (show k < l.length by omega))).1; omega) (by have h_ : sOk l[k].p := sall hok (show k < l.length by omega); unfold sOk SOk at h_; rcases h_ with h_ | h_ | h_ | h_ <;> first | exact h_.2.1 | (exfalso; omega))) rfl ?_
        rintro _ w7 ⟨hs6, A_2, c_2, rfl, ho2⟩
        replace hB := gb_tr hB hs6
        replace hS := hS.gb hs6
        replace hD := hD.gb hs6
        replace hb2 := hb2.gb hs6
        replace ho1 := own_gb ho1 hs6
        have hlo1 : w6.heap.size ≤ w7.heap.size := hs6.size
        refine L_run (R_move rfl) rfl ?_
        refine L_run (R_extract rfl rfl) rfl ?_
        refine L_run (R_extract rfl rfl) rfl ?_
        refine L_run (R_assign rfl) rfl ?_
        refine L_run (R_assign rfl) rfl ?_
        refine L_nil (N_then (C_reg ?_))
        refine L_run (R_move rfl) rfl ?_
        refine L_run (R_move rfl) rfl ?_
        have ge4 : w.heap.size ≤ w7.heap.size := hB.size
        refine L_call rfl cb72 (field_Put (bs := (sencs (ps (l.take k))) ++ ([(bt (l[k].p.kind))])) (fs := encs ((l[k]).p.ops)) (own_of ho1).2.2 (own_of ho2).2.2 (by have h_ := sencs_take hok k; rw [ps_take, ps_len] at h_; have h2_ := encs_le (sall hok (show k < l.length by omega)); have h3_ := fenc_len (encs l[k].p.ops); have h4_ := fenc_len l[k].p.keep; have h5_ := (sOk_keep (sall hok (show k < l.length by omega))).1; simp at *; omega)) rfl ?_
        rintro _ w8 ⟨hs7, A_3, c_3, rfl, ho3⟩
        replace hB := gb_tr hB hs7
        replace hS := hS.gb hs7
        replace hD := hD.gb hs7
        replace hb2 := hb2.gb hs7
        replace ho1 := own_gb ho1 hs7
        replace ho2 := own_gb ho2 hs7
        replace hlo1 := Nat.le_trans hlo1 hs7.size
        have hlo2 : w7.heap.size ≤ w8.heap.size := hs7.size
        refine L_run (R_assign rfl) rfl ?_
        refine L_nil (N_in (N_in (N_then (C_reg ?_))))
        refine L_run (R_add64 rfl rfl (by first | omega | (have h_ : sOk l[k].p := sall hok (show k < l.length by omega); unfold sOk SOk at h_; omega))) rfl ?_
        refine L_run (R_move rfl) rfl ?_
        refine L_nil (N_then ?_)
        have e_ : (sencs (ps (l.take k))) ++ ([(bt (l[k].p.kind))]) ++ fenc (encs ((l[k]).p.ops)) = sencs (ps (l.take (k + 1))) := by
          rw [ps_sEnc (show k < l.length by omega)]; unfold sEnc
          first
            | (exfalso; omega)
            | (rw [if_pos (by omega), if_neg (by omega), if_neg (by omega)]; simp; done)
            | (rw [if_neg (by omega), if_pos (by omega), if_neg (by omega)]; simp; done)
            | (rw [if_neg (by omega), if_neg (by omega), if_pos (by omega)]; simp; done)
            | (rw [if_neg (by omega), if_neg (by omega), if_neg (by omega)]; simp; done)
        rw [e_] at ho3 ⊢
        exact ⟨l.length - (k + 1), by omega, _, A_3, c_3, (k + 1), Ac_frg ⟨rfl, rfl, rfl, rfl, rfl, (agr rfl (by first | rfl | (congr 1; omega) | (congr 1; simp; done) | (congr 1; simp only [IntKind.wrap_u64, IntKind.wrap_i64, IntKind.wrap_u8]; omega) | (congr 1 <;> omega))), trivial⟩, hB, hS, hD, (own_lo ho3 ge4), (by omega), rfl⟩
      · refine C_seq (C_reg ?_)
        refine L_run (R_eql rfl rfl) rfl ?_
        refine L_run (R_assign rfl) rfl ?_
        refine L_nil (N_then ?_)
        refine C_if rfl (fun h3 => ?_) (fun h3 => ?_)
        · refine C_reg ?_
          refine L_run (R_move rfl) rfl ?_
          refine L_run (R_field (r := 1) rfl fld65_1 rfl) rfl ?_
          refine L_run (R_load1 rfl scl3 (hb2.cell (i := 1) rfl)) rfl ?_
          refine L_run (R_eqv (R_conv rfl any3 int5) (v' := .int .u8 ((bt (l[k].p.n)).toNat : Int)) (u8_ofI _)) rfl ?_
          refine L_buildSlice (pv := [(0, .int .u8 ((bt (l[k].p.n)).toNat : Int))]) (cs := [.int .u8 ((bt (l[k].p.n)).toNat : Int)]) slc42 zer5 rfl rfl (by kernel_rfl) rfl ?_
          intro g4 w9 eg3 hb4 hs8 hz4
          have ge5 : w.heap.size ≤ g4 := eg_ge hB eg3
          have lt2 : g2 < g4 := lt_of_eg hb2.lt eg3
          have hap2 : ∀ k_, (Value.slice A_1 ((sencs (ps (l.take k))) ++ ([(bt (l[k].p.kind))])).length c_1).ownBlock = some k_ → k_ ≠ g4 := fun k_ hk => by have h_ := (World.ownsRow.lt ho1 k_ hk).2; omega
          replace hB := gb_tr hB hs8
          replace hS := hS.gb hs8
          replace hD := hD.gb hs8
          replace hb2 := hb2.gb hs8
          replace ho1 := own_gb ho1 hs8
          refine T_append (xs := (sencs (ps (l.take k))) ++ ([(bt (l[k].p.kind))])) (ys := [(bt (l[k].p.n))]) EncB slc42 rfl rfl ho1 (Blk.sli (m := 0) hb4) (by have h_ := sencs_take hok k; rw [ps_take, ps_len] at h_; have h2_ := encs_le (sall hok (show k < l.length by omega)); have h3_ := fenc_len (encs l[k].p.ops); have h4_ := fenc_len l[k].p.keep; have h5_ := (sOk_keep (sall hok (show k < l.length by omega))).1; simp at *; omega) (by have := hB.size; omega) rfl ?_
          intro A_4 c_4 w10 ho4 hs9 hat2
          replace hB := gb_tro hB ho1 hs9 (Nat.le_refl _)
          replace hS := hS.grown hs9 (fun k hk => .inr (Nat.le_trans (Nat.le_refl _) (World.ownsRow.lt ho1 k hk).1))
          replace hD := hD.own ho1 (Nat.le_refl _) hs9
          replace hb2 := blk_own hb2 ho1 rfl hs9
          refine L_run (R_assign rfl) rfl ?_
          refine L_nil (N_in (N_in (N_then (C_reg ?_))))
          refine L_run (R_add64 rfl rfl (by first | omega | (have h_ : sOk l[k].p := sall hok (show k < l.length by omega); unfold sOk SOk at h_; omega))) rfl ?_
          refine L_run (R_move rfl) rfl ?_
          refine L_nil (N_then ?_)
          have e_ : ((sencs (ps (l.take k))) ++ ([(bt (l[k].p.kind))])) ++ ([(bt (l[k].p.n))]) = sencs (ps (l.take (k + 1))) := by
            rw [ps_sEnc (show k < l.length by omega)]; unfold sEnc
            first
              | (exfalso; omega)
              | (rw [if_pos (by omega), if_neg (by omega), if_neg (by omega)]; simp; done)
              | (rw [if_neg (by omega), if_pos (by omega), if_neg (by omega)]; simp; done)
              | (rw [if_neg (by omega), if_neg (by omega), if_pos (by omega)]; simp; done)
              | (rw [if_neg (by omega), if_neg (by omega), if_neg (by omega)]; simp; done)
          rw [e_] at ho4 ⊢
          exact ⟨l.length - (k + 1), by omega, _, A_4, c_4, (k + 1), Ac_frg ⟨rfl, rfl, rfl, rfl, rfl, (agr rfl (by first | rfl | (congr 1; omega) | (congr 1; simp; done) | (congr 1; simp only [IntKind.wrap_u64, IntKind.wrap_i64, IntKind.wrap_u8]; omega) | (congr 1 <;> omega))), trivial⟩, hB, hS, hD, ho4, (by omega), rfl⟩
        · refine C_seq (C_reg ?_)
          refine L_run (R_eql rfl rfl) rfl ?_
          refine L_run (R_assign rfl) rfl ?_
          refine L_nil (N_then ?_)
          refine C_if rfl (fun h4 => ?_) (fun h4 => ?_)
          · refine C_draw2 mix ?_
            intro w11 hs10 hz5
            replace hB := gb_tr hB hs10
            replace hS := hS.gb hs10
            replace hD := hD.gb hs10
            replace hb2 := hb2.gb hs10
            replace ho1 := own_gb ho1 hs10
            refine ⟨fun W_ => Blk W_ g2 65 [.int .i64 ((l[k]).p.kind), .int .i64 ((l[k]).p.n), .slice ((l[k]).oa) ((l[k]).p.ops.length) ((l[k]).oc), .slice ((l[k]).ka) ((l[k]).p.keep.length) ((l[k]).kc), .int .i64 ((l[k]).p.torn), .int .i64 ((l[k]).p.cut)] ∧ True, [0, 1, 2, 3, 5, 6, 7, 8, 9, 10, 11, 12, 13, 16], ?_⟩
            refine T_takeA (i := 0) rfl rfl (by kernel_rfl) (by kernel_rfl) (by kernel_rfl) (Y_of (fun _ ⟨hb2, _⟩ => R_move rfl)) ⟨hb2, trivial⟩ rfl ?_
            refine T_takeA (i := 1) rfl rfl (by kernel_rfl) (by kernel_rfl) (by kernel_rfl) (Y_of (fun _ ⟨hb2, _⟩ => R_field (r := 3) rfl fld65_3 rfl)) ⟨hb2, trivial⟩ rfl ?_
            refine T_takeA (i := 2) rfl rfl (by kernel_rfl) (by kernel_rfl) (by kernel_rfl) (Y_of (fun _ ⟨hb2, _⟩ => R_field (r := 3) rfl fld63_0 rfl)) ⟨hb2, trivial⟩ rfl ?_
            refine T_takeA (i := 3) rfl rfl (by kernel_rfl) (by kernel_rfl) (by kernel_rfl) (Y_of (fun _ ⟨hb2, _⟩ => R_load1 rfl scl42 (hb2.cell (i := 3) rfl))) ⟨hb2, trivial⟩ rfl ?_
            refine T_takeA (i := 5) rfl rfl (by kernel_rfl) (by kernel_rfl) (by kernel_rfl) (Y_of (fun _ ⟨hb2, _⟩ => R_field (r := 3) rfl fld65_3 rfl)) ⟨hb2, trivial⟩ rfl ?_
            refine T_takeA (i := 6) rfl rfl (by kernel_rfl) (by kernel_rfl) (by kernel_rfl) (Y_of (fun _ ⟨hb2, _⟩ => R_field (r := 4) rfl fld63_1 rfl)) ⟨hb2, trivial⟩ rfl ?_
            refine T_takeA (i := 7) rfl rfl (by kernel_rfl) (by kernel_rfl) (by kernel_rfl) (Y_of (fun _ ⟨hb2, _⟩ => R_load1 rfl scl3 (hb2.cell (i := 4) rfl))) ⟨hb2, trivial⟩ rfl ?_
            refine T_takeA (i := 8) rfl rfl (by kernel_rfl) (by kernel_rfl) (by kernel_rfl) (Y_of (fun _ ⟨hb2, _⟩ => R_add64 rfl rfl (by first | omega | (have h_ : sOk l[k].p := sall hok (show k < l.length by omega); unfold sOk SOk at h_; omega)))) ⟨hb2, trivial⟩ rfl ?_
            refine T_takeA (i := 9) rfl rfl (by kernel_rfl) (by kernel_rfl) (by kernel_rfl) (Y_of (fun _ ⟨hb2, _⟩ => R_eqv (R_conv rfl any3 int5) (v' := .int .u8 ((bt (l[k].p.torn + 1)).toNat : Int)) (u8_ofI _))) ⟨hb2, trivial⟩ rfl ?_
            refine T_takeA (i := 10) rfl rfl (by kernel_rfl) (by kernel_rfl) (by kernel_rfl) (Y_of (fun _ ⟨hb2, _⟩ => R_field (r := 3) rfl fld65_3 rfl)) ⟨hb2, trivial⟩ rfl ?_
            refine T_takeA (i := 11) rfl rfl (by kernel_rfl) (by kernel_rfl) (by kernel_rfl) (Y_of (fun _ ⟨hb2, _⟩ => R_field (r := 5) rfl fld63_2 rfl)) ⟨hb2, trivial⟩ rfl ?_
            refine T_takeA (i := 12) rfl rfl (by kernel_rfl) (by kernel_rfl) (by kernel_rfl) (Y_of (fun _ ⟨hb2, _⟩ => R_load1 rfl scl3 (hb2.cell (i := 5) rfl))) ⟨hb2, trivial⟩ rfl ?_
            refine T_takeA (i := 13) rfl rfl (by kernel_rfl) (by kernel_rfl) (by kernel_rfl) (Y_of (fun _ ⟨hb2, _⟩ => R_eqv (R_conv rfl any3 int5) (v' := .int .u8 ((bt (l[k].p.cut)).toNat : Int)) (u8_ofI _))) ⟨hb2, trivial⟩ rfl ?_
            refine T_all (rs := [4, 14]) (by kernel_rfl) rfl (all2 (O_one rfl ?_) (O_one rfl ?_))
            · have ge6 : w.heap.size ≤ w11.heap.size := hB.size
              refine L_call rfl cb72 (field_Put (bs := (sencs (ps (l.take k))) ++ ([(bt (l[k].p.kind))])) (fs := (l[k]).p.keep) (own_of ho1).2.2 (hD.getK (i := k) (by first | assumption | omega | (simp; omega))) (by have h_ := sencs_take hok k; rw [ps_take, ps_len] at h_; have h2_ := encs_le (sall hok (show k < l.length by omega)); have h3_ := fenc_len (encs l[k].p.ops); have h4_ := fenc_len l[k].p.keep; have h5_ := (sOk_keep (sall hok (show k < l.length by omega))).1; simp at *; omega)) rfl ?_
              rintro _ w12 ⟨hs11, A_5, c_5, rfl, ho5⟩
              replace hB := gb_tr hB hs11
              replace hS := hS.gb hs11
              replace hD := hD.gb hs11
              replace hb2 := hb2.gb hs11
              replace ho1 := own_gb ho1 hs11
              have hlo3 : w11.heap.size ≤ w12.heap.size := hs11.size
              refine L_nil (N_then ⟨fun hN_ => ⟨hb2, trivial⟩, ?_⟩)
              refine T_all (rs := [14]) (by kernel_rfl) rfl (all1 (O_one rfl ?_))
              refine L_buildSlice (pv := [(0, .int .u8 ((bt (l[k].p.torn + 1)).toNat : Int)), (1, .int .u8 ((bt (l[k].p.cut)).toNat : Int))]) (cs := [.int .u8 ((bt (l[k].p.torn + 1)).toNat : Int), .int .u8 ((bt (l[k].p.cut)).toNat : Int)]) slc42 zer5 rfl rfl (by kernel_rfl) rfl ?_
              intro g5 w13 eg4 hb5 hs12 hz6
              have ge7 : w.heap.size ≤ g5 := eg_ge hB eg4
              have lt3 : g2 < g5 := lt_of_eg hb2.lt eg4
              have hap3 : ∀ k_, (Value.slice A_1 ((sencs (ps (l.take k))) ++ ([(bt (l[k].p.kind))])).length c_1).ownBlock = some k_ → k_ ≠ g5 := fun k_ hk => by have h_ := (World.ownsRow.lt ho1 k_ hk).2; omega
              have hap4 : ∀ k_, (Value.slice A_5 ((sencs (ps (l.take k))) ++ ([(bt (l[k].p.kind))]) ++ fenc ((l[k]).p.keep)).length c_5).ownBlock = some k_ → k_ ≠ g5 := fun k_ hk => by have h_ := (World.ownsRow.lt ho5 k_ hk).2; omega
              replace hB := gb_tr hB hs12
              replace hS := hS.gb hs12
              replace hD := hD.gb hs12
              replace hb2 := hb2.gb hs12
              replace ho1 := own_gb ho1 hs12
              replace ho5 := own_gb ho5 hs12
              replace hlo3 := Nat.le_trans hlo3 hs12.size
              refine L_nil (N_then ⟨fun hN_ => ⟨hb2, trivial⟩, ?_⟩)
              refine T_all (rs := [15]) (by kernel_rfl) rfl (all1 (O_one rfl ?_))
              refine T_append (xs := (sencs (ps (l.take k))) ++ ([(bt (l[k].p.kind))]) ++ fenc ((l[k]).p.keep)) (ys := [(bt (l[k].p.torn + 1)), (bt (l[k].p.cut))]) EncB slc42 rfl rfl ho5 (Blk.sli (m := 0) hb5) (by have h_ := sencs_take hok k; rw [ps_take, ps_len] at h_; have h2_ := encs_le (sall hok (show k < l.length by omega)); have h3_ := fenc_len (encs l[k].p.ops); have h4_ := fenc_len l[k].p.keep; have h5_ := (sOk_keep (sall hok (show k < l.length by omega))).1; simp at *; omega) hlo3 rfl ?_
              intro A_6 c_6 w14 ho6 hs13 hat3
              replace hB := gb_tro hB ho5 hs13 ge6
              replace hS := hS.grown hs13 (fun k hk => .inr (Nat.le_trans ge6 (World.ownsRow.lt ho5 k hk).1))
              replace hD := hD.own ho5 ge6 hs13
              replace hb2 := blk_own hb2 ho5 rfl hs13
              replace hlo3 := Nat.le_trans hlo3 hs13.size
              refine L_nil (N_then ⟨fun hN_ => ⟨hb2, trivial⟩, ?_⟩)
              refine T_takeA (i := 16) rfl rfl (by kernel_rfl) (by kernel_rfl) (by kernel_rfl) (Y_of (fun _ ⟨hb2, _⟩ => R_assign rfl)) ⟨hb2, trivial⟩ rfl ?_
              refine T_done (by kernel_rfl) (NoPanic.normal ?_)
              refine N_in (N_in (N_then (C_reg ?_)))
              refine L_run (R_add64 rfl rfl (by first | omega | (have h_ : sOk l[k].p := sall hok (show k < l.length by omega); unfold sOk SOk at h_; omega))) rfl ?_
              refine L_run (R_move rfl) rfl ?_
              refine L_nil (N_then ?_)
              have e_ : ((sencs (ps (l.take k))) ++ ([(bt (l[k].p.kind))]) ++ fenc ((l[k]).p.keep)) ++ ([(bt (l[k].p.torn + 1)), (bt (l[k].p.cut))]) = sencs (ps (l.take (k + 1))) := by
                rw [ps_sEnc (show k < l.length by omega)]; unfold sEnc
                first
                  | (exfalso; omega)
                  | (rw [if_pos (by omega), if_neg (by omega), if_neg (by omega)]; simp; done)
                  | (rw [if_neg (by omega), if_pos (by omega), if_neg (by omega)]; simp; done)
                  | (rw [if_neg (by omega), if_neg (by omega), if_pos (by omega)]; simp; done)
                  | (rw [if_neg (by omega), if_neg (by omega), if_neg (by omega)]; simp; done)
              rw [e_] at ho6 ⊢
              exact ⟨l.length - (k + 1), by omega, _, A_6, c_6, (k + 1), Ac_frg ⟨rfl, rfl, rfl, rfl, rfl, (agr rfl (by first | rfl | (congr 1; omega) | (congr 1; simp; done) | (congr 1; simp only [IntKind.wrap_u64, IntKind.wrap_i64, IntKind.wrap_u8]; omega) | (congr 1 <;> omega))), trivial⟩, hB, hS, hD, (own_lo ho6 ge6), (by omega), rfl⟩
            · refine L_buildSlice (pv := [(0, .int .u8 ((bt (l[k].p.torn + 1)).toNat : Int)), (1, .int .u8 ((bt (l[k].p.cut)).toNat : Int))]) (cs := [.int .u8 ((bt (l[k].p.torn + 1)).toNat : Int), .int .u8 ((bt (l[k].p.cut)).toNat : Int)]) slc42 zer5 rfl rfl (by kernel_rfl) rfl ?_
              intro g6 w15 eg5 hb6 hs14 hz7
              have ge8 : w.heap.size ≤ g6 := eg_ge hB eg5
              have lt4 : g2 < g6 := lt_of_eg hb2.lt eg5
              have hap5 : ∀ k_, (Value.slice A_1 ((sencs (ps (l.take k))) ++ ([(bt (l[k].p.kind))])).length c_1).ownBlock = some k_ → k_ ≠ g6 := fun k_ hk => by have h_ := (World.ownsRow.lt ho1 k_ hk).2; omega
              replace hB := gb_tr hB hs14
              replace hS := hS.gb hs14
              replace hD := hD.gb hs14
              replace hb2 := hb2.gb hs14
              replace ho1 := own_gb ho1 hs14
              refine L_nil (N_then ⟨fun hN_ => ⟨hb2, trivial⟩, ?_⟩)
              refine T_all (rs := [4]) (by kernel_rfl) rfl (all1 (O_one rfl ?_))
              have ge9 : w.heap.size ≤ w15.heap.size := hB.size
              refine L_call rfl cb72 (field_Put (bs := (sencs (ps (l.take k))) ++ ([(bt (l[k].p.kind))])) (fs := (l[k]).p.keep) (own_of ho1).2.2 (hD.getK (i := k) (by first | assumption | omega | (simp; omega))) (by have h_ := sencs_take hok k; rw [ps_take, ps_len] at h_; have h2_ := encs_le (sall hok (show k < l.length by omega)); have h3_ := fenc_len (encs l[k].p.ops); have h4_ := fenc_len l[k].p.keep; have h5_ := (sOk_keep (sall hok (show k < l.length by omega))).1; simp at *; omega)) rfl ?_
              rintro _ w16 ⟨hs15, A_7, c_7, rfl, ho7⟩
              replace hB := gb_tr hB hs15
              replace hS := hS.gb hs15
              replace hD := hD.gb hs15
              replace hb2 := hb2.gb hs15
              replace ho1 := own_gb ho1 hs15
              replace hb6 := hb6.gb hs15
              have hlo4 : w15.heap.size ≤ w16.heap.size := hs15.size
              refine L_nil (N_then ⟨fun hN_ => ⟨hb2, trivial⟩, ?_⟩)
              refine T_all (rs := [15]) (by kernel_rfl) rfl (all1 (O_one rfl ?_))
              refine T_append (xs := (sencs (ps (l.take k))) ++ ([(bt (l[k].p.kind))]) ++ fenc ((l[k]).p.keep)) (ys := [(bt (l[k].p.torn + 1)), (bt (l[k].p.cut))]) EncB slc42 rfl rfl ho7 (Blk.sli (m := 0) hb6) (by have h_ := sencs_take hok k; rw [ps_take, ps_len] at h_; have h2_ := encs_le (sall hok (show k < l.length by omega)); have h3_ := fenc_len (encs l[k].p.ops); have h4_ := fenc_len l[k].p.keep; have h5_ := (sOk_keep (sall hok (show k < l.length by omega))).1; simp at *; omega) hlo4 rfl ?_
              intro A_8 c_8 w17 ho8 hs16 hat4
              replace hB := gb_tro hB ho7 hs16 ge9
              replace hS := hS.grown hs16 (fun k hk => .inr (Nat.le_trans ge9 (World.ownsRow.lt ho7 k hk).1))
              replace hD := hD.own ho7 ge9 hs16
              replace hb2 := blk_own hb2 ho7 rfl hs16
              replace hlo4 := Nat.le_trans hlo4 hs16.size
              refine L_nil (N_then ⟨fun hN_ => ⟨hb2, trivial⟩, ?_⟩)
              refine T_takeA (i := 16) rfl rfl (by kernel_rfl) (by kernel_rfl) (by kernel_rfl) (Y_of (fun _ ⟨hb2, _⟩ => R_assign rfl)) ⟨hb2, trivial⟩ rfl ?_
              refine T_done (by kernel_rfl) (NoPanic.normal ?_)
              refine N_in (N_in (N_then (C_reg ?_)))
              refine L_run (R_add64 rfl rfl (by first | omega | (have h_ : sOk l[k].p := sall hok (show k < l.length by omega); unfold sOk SOk at h_; omega))) rfl ?_
              refine L_run (R_move rfl) rfl ?_
              refine L_nil (N_then ?_)
              have e_ : ((sencs (ps (l.take k))) ++ ([(bt (l[k].p.kind))]) ++ fenc ((l[k]).p.keep)) ++ ([(bt (l[k].p.torn + 1)), (bt (l[k].p.cut))]) = sencs (ps (l.take (k + 1))) := by
                rw [ps_sEnc (show k < l.length by omega)]; unfold sEnc
                first
                  | (exfalso; omega)
                  | (rw [if_pos (by omega), if_neg (by omega), if_neg (by omega)]; simp; done)
                  | (rw [if_neg (by omega), if_pos (by omega), if_neg (by omega)]; simp; done)
                  | (rw [if_neg (by omega), if_neg (by omega), if_pos (by omega)]; simp; done)
                  | (rw [if_neg (by omega), if_neg (by omega), if_neg (by omega)]; simp; done)
              rw [e_] at ho8 ⊢
              exact ⟨l.length - (k + 1), by omega, _, A_8, c_8, (k + 1), Ac_frg ⟨rfl, rfl, rfl, rfl, rfl, (agr rfl (by first | rfl | (congr 1; omega) | (congr 1; simp; done) | (congr 1; simp only [IntKind.wrap_u64, IntKind.wrap_i64, IntKind.wrap_u8]; omega) | (congr 1 <;> omega))), trivial⟩, hB, hS, hD, (own_lo ho8 ge9), (by omega), rfl⟩
          · refine C_skip (N_in (N_in (N_then (C_reg ?_))))
            refine L_run (R_add64 rfl rfl (by first | omega | (have h_ : sOk l[k].p := sall hok (show k < l.length by omega); unfold sOk SOk at h_; omega))) rfl ?_
            refine L_run (R_move rfl) rfl ?_
            refine L_nil (N_then ?_)
            have e_ : (sencs (ps (l.take k))) ++ ([(bt (l[k].p.kind))]) = sencs (ps (l.take (k + 1))) := by
              rw [ps_sEnc (show k < l.length by omega)]; unfold sEnc
              first
                | (exfalso; omega)
                | (rw [if_pos (by omega), if_neg (by omega), if_neg (by omega)]; simp; done)
                | (rw [if_neg (by omega), if_pos (by omega), if_neg (by omega)]; simp; done)
                | (rw [if_neg (by omega), if_neg (by omega), if_pos (by omega)]; simp; done)
                | (rw [if_neg (by omega), if_neg (by omega), if_neg (by omega)]; simp; done)
            rw [e_] at ho1 ⊢
            exact ⟨l.length - (k + 1), by omega, _, A_1, c_1, (k + 1), Ac_frg ⟨rfl, rfl, rfl, rfl, rfl, (agr rfl (by first | rfl | (congr 1; omega) | (congr 1; simp; done) | (congr 1; simp only [IntKind.wrap_u64, IntKind.wrap_i64, IntKind.wrap_u8]; omega) | (congr 1 <;> omega))), trivial⟩, hB, hS, hD, ho1, (by omega), rfl⟩
    · refine C_exit (X_then (X_then (X_hit (N_then (C_seq (C_reg ?_))))))
      refine L_run (R_move rfl) rfl ?_
      refine L_run (R_assign rfl) rfl ?_
      refine L_run (R_assign rfl) rfl ?_
      refine L_nil (N_then (C_ret ?_))
      refine ret2 Try.results52 rfl rfl ?_
      rw [List.take_of_length_le (by omega)] at ho ⊢; exact ⟨hB, _, _, rfl, (own_lo ho (Nat.le_refl _))⟩
theorem script_Encode_no {w : World} {t1 lo hi hh : Nat} {A : Option Addr} {c : Nat} {l : List StepD} (hS : Sli t1 lo hi w A (fl encS l)) (hD : DeepS hh w l) (hf : ∀ y ∈ l, FewS y) (hn : l.length ≤ 64) (hno : ¬ ∀ p ∈ ps l, sOk p) :
    Runs Try.prog 52 #[.slice A l.length c] w (fun v w' => w.grownBy w' none ∧ v = .tuple #[.slice none 0 0, .int .i64 13]) := by
  have hB := gb_refl w none
  replace hD := hD.top
  replace hS := hS.top
  refine enter Try.func52 Try.ntmps52 rfl rfl ?_
  refine C_seq (C_reg ?_)
  refine L_run (R_assign rfl) rfl ?_
  refine L_run (R_assign rfl) rfl ?_
  refine L_nil (N_then (C_seq (C_seq (C_reg ?_))))
  refine L_run (R_move rfl) rfl ?_
  refine L_run (R_lenSl rfl slc58) rfl ?_
  refine L_run (R_gtr rfl rfl) rfl ?_
  refine L_nil (N_then (C_condF rfl (decide_eq_false (show ¬ 64 < (l.length : Int) by omega)) (C_skip (N_then (C_seq (C_reg ?_))))))
  refine L_run (R_assign rfl) rfl ?_
  refine L_nil (N_then (C_seq (C_seq (C_reg ?_))))
  refine L_run (R_move rfl) rfl ?_
  refine L_run (R_lenSl rfl slc58) rfl ?_
  refine L_run (R_move rfl) rfl ?_
  refine L_nil (N_then (C_block ?_))
  refine C_loop (fun m_ a_ w_ => ∃ (σ_ : Nat → Value) (A' : Option Addr) (c' : Nat) (k : Nat), a_ = Ac 68 σ_ [] [(2, .slice none 0 0), (3, .int .i64 0), (4, .slice A' ((sencs (ps (l.take k))).length) c'), (12, .slice A l.length c), (13, .int .i64 (l.length : Int)), (14, .int .i64 (k : Int))] ∧ w.grownBy w_ none ∧ Sli t1 lo w.heap.size w_ A (fl encS l) ∧ DeepS w.heap.size w_ l ∧ World.ownsRow w_ w.heap.size 5 1 (.slice A' (sencs (ps (l.take k))).length c') (sencs (ps (l.take k))).length (fl encB (sencs (ps (l.take k)))) ∧ (k ≤ l.length) ∧ (∀ p ∈ ps (l.take k), sOk p) ∧ l.length - k = m_) (l.length - 0) ?_ ?_
  · exact ⟨_, none, 0, 0, Ac_frg ⟨rfl, rfl, (agr rfl (by first | rfl | (congr 1; omega) | (congr 1; simp; done) | (congr 1; simp only [IntKind.wrap_u64, IntKind.wrap_i64, IntKind.wrap_u8]; omega) | (congr 1 <;> omega))), rfl, rfl, (agr rfl (by first | rfl | (congr 1; omega) | (congr 1; simp; done) | (congr 1; simp only [IntKind.wrap_u64, IntKind.wrap_i64, IntKind.wrap_u8]; omega) | (congr 1 <;> omega))), trivial⟩, hB, hS, hD, (own_nil w.heap.size 5 1 _), (Nat.zero_le _), (by intro p hp; simp [ps] at hp), rfl⟩
  · clear hB
    clear hS hD
    rintro m_ a_ w1 ⟨σ_, A', c', k, rfl, hB, hS, hD, ho, hk, hall, rfl⟩
    refine C_seq (C_reg ?_)
    refine L_run (R_lss rfl rfl) rfl ?_
    refine L_nil (N_then (C_seq ?_))
    refine C_if rfl (fun h1 => ?_) (fun h1 => ?_)
    · refine C_skip (N_then (C_seq (C_block (C_seq (C_reg ?_)))))
      have hl1 : k < l.length := by first | omega | (simp; omega)
      refine T_index (xs := l) (i := k) EncS rfl rfl (by first | rfl | omega) slc58 hl1 hS rfl ?_
      intro g1 o1 ha1
      refine L_run (R_loadA (vs := [.int .i64 ((l[k]).p.kind), .int .i64 ((l[k]).p.n), .slice ((l[k]).oa) ((l[k]).p.ops.length) ((l[k]).oc), .slice ((l[k]).ka) ((l[k]).p.keep.length) ((l[k]).kc), .int .i64 ((l[k]).p.torn), .int .i64 ((l[k]).p.cut)]) rfl agg65 (At.pre ha1 rfl) rfl) rfl ?_
      refine L_alloc (cs := [.int .i64 0, .int .i64 0, .slice none 0 0, .slice none 0 0, .int .i64 0, .int .i64 0]) zer65 rfl rfl ?_
      intro g2 w2 eg1 hb1 hs1 hz1
      have ge1 : w.heap.size ≤ g2 := eg_ge hB eg1
      replace hB := gb_tr hB hs1
      replace hS := hS.gb hs1
      replace hD := hD.gb hs1
      replace ho := own_gb ho hs1
      replace ha1 := At.gb ha1 hs1 (by simp)
      refine L_stA (vs := [.int .i64 ((l[k]).p.kind), .int .i64 ((l[k]).p.n), .slice ((l[k]).oa) ((l[k]).p.ops.length) ((l[k]).oc), .slice ((l[k]).ka) ((l[k]).p.keep.length) ((l[k]).kc), .int .i64 ((l[k]).p.torn), .int .i64 ((l[k]).p.cut)]) rfl rfl rfl sz65 rfl hb1 rfl ?_
      intro w3 hb2 hs2 hz2
      replace hB := gb_trg hB hs2 ge1
      replace hS := hS.old hs2 ge1
      replace hD := hD.old hs2 ge1
      replace ho := own_other ho hb1 rfl hs2
      refine L_nil (N_then (C_seq (C_seq (C_reg ?_))))
      refine L_run (R_loadA (vs := [.int .i64 ((l[k]).p.kind), .int .i64 ((l[k]).p.n), .slice ((l[k]).oa) ((l[k]).p.ops.length) ((l[k]).oc), .slice ((l[k]).ka) ((l[k]).p.keep.length) ((l[k]).kc), .int .i64 ((l[k]).p.torn), .int .i64 ((l[k]).p.cut)]) rfl agg65 (At.pre (hb2.at_ 0) rfl) rfl) rfl ?_
      refine L_call rfl cb53 (script_Right (ops := (l[k]).p.ops) (hD.getO (i := k) (by first | assumption | omega | (simp; omega))) (by have h_ := (hf _ (List.getElem_mem (show k < l.length by omega))).1; omega)) rfl ?_
      rintro _ w4 ⟨hs3, rfl⟩
      replace hB := gb_tr hB hs3
      replace hS := hS.gb hs3
      replace hD := hD.gb hs3
      replace ho := own_gb ho hs3
      replace hb2 := hb2.gb hs3
      refine L_run (R_notD rfl) rfl ?_
      refine L_nil (N_then ?_)
      refine C_ifN rfl (fun hthis => ?_) (fun hthis => ?_)
      · refine C_seq (C_reg ?_)
        refine L_run (R_assign rfl) rfl ?_
        refine L_run (R_assign rfl) rfl ?_
        refine L_nil (N_then (C_ret (R_then (R_in (R_then (R_then (R_in (R_then ?_))))))))
        refine ret2 Try.results52 rfl rfl ?_
        exact ⟨hB, rfl⟩
      · refine C_skip (N_then (C_seq (C_reg ?_)))
        refine L_run (R_move rfl) rfl ?_
        refine L_run (R_field (r := 0) rfl fld65_0 rfl) rfl ?_
        refine L_run (R_load1 rfl scl3 (hb2.cell (i := 0) rfl)) rfl ?_
        refine L_run (R_eqv (R_conv rfl any3 int5) (v' := .int .u8 ((bt (l[k].p.kind)).toNat : Int)) (u8_ofI _)) rfl ?_
        refine L_buildSlice (pv := [(0, .int .u8 ((bt (l[k].p.kind)).toNat : Int))]) (cs := [.int .u8 ((bt (l[k].p.kind)).toNat : Int)]) slc42 zer5 rfl rfl (by kernel_rfl) rfl ?_
        intro g3 w5 eg2 hb3 hs4 hz3
        have ge2 : w.heap.size ≤ g3 := eg_ge hB eg2
        have lt1 : g2 < g3 := lt_of_eg hb2.lt eg2
        have hap1 : ∀ k_, (Value.slice A' (sencs (ps (l.take k))).length c').ownBlock = some k_ → k_ ≠ g3 := fun k_ hk => by have h_ := (World.ownsRow.lt ho k_ hk).2; omega
        replace hB := gb_tr hB hs4
        replace hS := hS.gb hs4
        replace hD := hD.gb hs4
        replace ho := own_gb ho hs4
        replace hb2 := hb2.gb hs4
        refine T_append (xs := sencs (ps (l.take k))) (ys := [(bt (l[k].p.kind))]) EncB slc42 rfl rfl ho (Blk.sli (m := 0) hb3) (by have h_ := sencs_len hall; rw [ps_len, List.length_take] at h_; have h2_ := encs_le (p := l[k].p) hthis; have h3_ := fenc_len (encs l[k].p.ops); have h4_ := fenc_len l[k].p.keep; have h5_ := (sOk_keep (p := l[k].p) hthis).1; simp at *; omega) (by have := hB.size; omega) rfl ?_
        intro A_1 c_1 w6 ho1 hs5 hat1
        replace hB := gb_tro hB ho hs5 (Nat.le_refl _)
        replace hS := hS.grown hs5 (fun k hk => .inr (Nat.le_trans (Nat.le_refl _) (World.ownsRow.lt ho k hk).1))
        replace hD := hD.own ho (Nat.le_refl _) hs5
        replace hb2 := blk_own hb2 ho rfl hs5
        refine L_run (R_assign rfl) rfl ?_
        refine L_nil (N_then (C_seq (C_reg ?_)))
        refine L_run (R_field (r := 0) rfl fld65_0 rfl) rfl ?_
        refine L_run (R_load1 rfl scl3 (hb2.cell (i := 0) rfl)) rfl ?_
        refine L_nil (N_then (C_block (C_seq (C_reg ?_))))
        refine L_run (R_eql rfl rfl) rfl ?_
        refine L_run (R_assign rfl) rfl ?_
        refine L_nil (N_then ?_)
        refine C_if rfl (fun h3 => ?_) (fun h3 => ?_)
        · refine C_seq (C_reg ?_)
          refine L_run (R_field (r := 2) rfl fld65_2 rfl) rfl ?_
          refine L_run (R_load1 rfl scl22 (hb2.cell (i := 2) rfl)) rfl ?_
          have ge3 : w.heap.size ≤ w6.heap.size := hB.size
          refine L_call rfl cb44 (batch_Encode_ok (l := (l[k]).p.ops) (hD.getO (i := k) (by first | assumption | omega | (simp; omega))) (by have h_ := (hf _ (List.getElem_mem (show k < l.length by omega))).1; omega) (by have h_ : sOk l[k].p := hthis; unfold sOk SOk at h_; rcases h_ with h_ | h_ | h_ | h_ <;> first | exact h_.2.1 | (exfalso; omega))) rfl ?_
          rintro _ w7 ⟨hs6, A_2, c_2, rfl, ho2⟩
          replace hB := gb_tr hB hs6
          replace hS := hS.gb hs6
          replace hD := hD.gb hs6
          replace hb2 := hb2.gb hs6
          replace ho1 := own_gb ho1 hs6
          have hlo1 : w6.heap.size ≤ w7.heap.size := hs6.size
          refine L_run (R_move rfl) rfl ?_
          refine L_run (R_extract rfl rfl) rfl ?_
          refine L_run (R_extract rfl rfl) rfl ?_
          refine L_run (R_assign rfl) rfl ?_
          refine L_run (R_assign rfl) rfl ?_
          refine L_nil (N_then (C_reg ?_))
          refine L_run (R_move rfl) rfl ?_
          refine L_run (R_move rfl) rfl ?_
          have ge4 : w.heap.size ≤ w7.heap.size := hB.size
          refine L_call rfl cb72 (field_Put (bs := (sencs (ps (l.take k))) ++ ([(bt (l[k].p.kind))])) (fs := encs ((l[k]).p.ops)) (own_of ho1).2.2 (own_of ho2).2.2 (by have h_ := sencs_len hall; rw [ps_len, List.length_take] at h_; have h2_ := encs_le (p := l[k].p) hthis; have h3_ := fenc_len (encs l[k].p.ops); have h4_ := fenc_len l[k].p.keep; have h5_ := (sOk_keep (p := l[k].p) hthis).1; simp at *; omega)) rfl ?_
          rintro _ w8 ⟨hs7, A_3, c_3, rfl, ho3⟩
          replace hB := gb_tr hB hs7
          replace hS := hS.gb hs7
          replace hD := hD.gb hs7
          replace hb2 := hb2.gb hs7
          replace ho1 := own_gb ho1 hs7
          replace ho2 := own_gb ho2 hs7
          replace hlo1 := Nat.le_trans hlo1 hs7.size
          have hlo2 : w7.heap.size ≤ w8.heap.size := hs7.size
          refine L_run (R_assign rfl) rfl ?_
          refine L_nil (N_in (N_in (N_then (C_reg ?_))))
          refine L_run (R_add64 rfl rfl (by first | omega | (have h_ : sOk l[k].p := hthis; unfold sOk SOk at h_; omega))) rfl ?_
          refine L_run (R_move rfl) rfl ?_
          refine L_nil (N_then ?_)
          have e_ : (sencs (ps (l.take k))) ++ ([(bt (l[k].p.kind))]) ++ fenc (encs ((l[k]).p.ops)) = sencs (ps (l.take (k + 1))) := by
            rw [ps_sEnc (show k < l.length by omega)]; unfold sEnc
            first
              | (exfalso; omega)
              | (rw [if_pos (by omega), if_neg (by omega), if_neg (by omega)]; simp; done)
              | (rw [if_neg (by omega), if_pos (by omega), if_neg (by omega)]; simp; done)
              | (rw [if_neg (by omega), if_neg (by omega), if_pos (by omega)]; simp; done)
              | (rw [if_neg (by omega), if_neg (by omega), if_neg (by omega)]; simp; done)
          rw [e_] at ho3 ⊢
          exact ⟨l.length - (k + 1), by omega, _, A_3, c_3, (k + 1), Ac_frg ⟨rfl, rfl, rfl, rfl, rfl, (agr rfl (by first | rfl | (congr 1; omega) | (congr 1; simp; done) | (congr 1; simp only [IntKind.wrap_u64, IntKind.wrap_i64, IntKind.wrap_u8]; omega) | (congr 1 <;> omega))), trivial⟩, hB, hS, hD, (own_lo ho3 ge4), (by omega), (sall_succ hall (show k < l.length by omega) hthis), rfl⟩
        · refine C_seq (C_reg ?_)
          refine L_run (R_eql rfl rfl) rfl ?_
          refine L_run (R_assign rfl) rfl ?_
          refine L_nil (N_then ?_)
          refine C_if rfl (fun h4 => ?_) (fun h4 => ?_)
          · refine C_reg ?_
            refine L_run (R_move rfl) rfl ?_
            refine L_run (R_field (r := 1) rfl fld65_1 rfl) rfl ?_
            refine L_run (R_load1 rfl scl3 (hb2.cell (i := 1) rfl)) rfl ?_
            refine L_run (R_eqv (R_conv rfl any3 int5) (v' := .int .u8 ((bt (l[k].p.n)).toNat : Int)) (u8_ofI _)) rfl ?_
            refine L_buildSlice (pv := [(0, .int .u8 ((bt (l[k].p.n)).toNat : Int))]) (cs := [.int .u8 ((bt (l[k].p.n)).toNat : Int)]) slc42 zer5 rfl rfl (by kernel_rfl) rfl ?_
            intro g4 w9 eg3 hb4 hs8 hz4
            have ge5 : w.heap.size ≤ g4 := eg_ge hB eg3
            have lt2 : g2 < g4 := lt_of_eg hb2.lt eg3
            have hap2 : ∀ k_, (Value.slice A_1 ((sencs (ps (l.take k))) ++ ([(bt (l[k].p.kind))])).length c_1).ownBlock = some k_ → k_ ≠ g4 := fun k_ hk => by have h_ := (World.ownsRow.lt ho1 k_ hk).2; omega
            replace hB := gb_tr hB hs8
            replace hS := hS.gb hs8
            replace hD := hD.gb hs8
            replace hb2 := hb2.gb hs8
            replace ho1 := own_gb ho1 hs8
            refine T_append (xs := (sencs (ps (l.take k))) ++ ([(bt (l[k].p.kind))])) (ys := [(bt (l[k].p.n))]) EncB slc42 rfl rfl ho1 (Blk.sli (m := 0) hb4) (by have h_ := sencs_len hall; rw [ps_len, List.length_take] at h_; have h2_ := encs_le (p := l[k].p) hthis; have h3_ := fenc_len (encs l[k].p.ops); have h4_ := fenc_len l[k].p.keep; have h5_ := (sOk_keep (p := l[k].p) hthis).1; simp at *; omega) (by have := hB.size; omega) rfl ?_
            intro A_4 c_4 w10 ho4 hs9 hat2
            replace hB := gb_tro hB ho1 hs9 (Nat.le_refl _)
            replace hS := hS.grown hs9 (fun k hk => .inr (Nat.le_trans (Nat.le_refl _) (World.ownsRow.lt ho1 k hk).1))
            replace hD := hD.own ho1 (Nat.le_refl _) hs9
            replace hb2 := blk_own hb2 ho1 rfl hs9
            refine L_run (R_assign rfl) rfl ?_
            refine L_nil (N_in (N_in (N_then (C_reg ?_))))
            refine L_run (R_add64 rfl rfl (by first | omega | (have h_ : sOk l[k].p := hthis; unfold sOk SOk at h_; omega))) rfl ?_
            refine L_run (R_move rfl) rfl ?_
            refine L_nil (N_then ?_)
            have e_ : ((sencs (ps (l.take k))) ++ ([(bt (l[k].p.kind))])) ++ ([(bt (l[k].p.n))]) = sencs (ps (l.take (k + 1))) := by
              rw [ps_sEnc (show k < l.length by omega)]; unfold sEnc
              first
                | (exfalso; omega)
                | (rw [if_pos (by omega), if_neg (by omega), if_neg (by omega)]; simp; done)
                | (rw [if_neg (by omega), if_pos (by omega), if_neg (by omega)]; simp; done)
                | (rw [if_neg (by omega), if_neg (by omega), if_pos (by omega)]; simp; done)
                | (rw [if_neg (by omega), if_neg (by omega), if_neg (by omega)]; simp; done)
            rw [e_] at ho4 ⊢
            exact ⟨l.length - (k + 1), by omega, _, A_4, c_4, (k + 1), Ac_frg ⟨rfl, rfl, rfl, rfl, rfl, (agr rfl (by first | rfl | (congr 1; omega) | (congr 1; simp; done) | (congr 1; simp only [IntKind.wrap_u64, IntKind.wrap_i64, IntKind.wrap_u8]; omega) | (congr 1 <;> omega))), trivial⟩, hB, hS, hD, ho4, (by omega), (sall_succ hall (show k < l.length by omega) hthis), rfl⟩
          · refine C_seq (C_reg ?_)
            refine L_run (R_eql rfl rfl) rfl ?_
            refine L_run (R_assign rfl) rfl ?_
            refine L_nil (N_then ?_)
            refine C_if rfl (fun h5 => ?_) (fun h5 => ?_)
            · refine C_draw2 mix ?_
              intro w11 hs10 hz5
              replace hB := gb_tr hB hs10
              replace hS := hS.gb hs10
              replace hD := hD.gb hs10
              replace hb2 := hb2.gb hs10
              replace ho1 := own_gb ho1 hs10
              refine ⟨fun W_ => Blk W_ g2 65 [.int .i64 ((l[k]).p.kind), .int .i64 ((l[k]).p.n), .slice ((l[k]).oa) ((l[k]).p.ops.length) ((l[k]).oc), .slice ((l[k]).ka) ((l[k]).p.keep.length) ((l[k]).kc), .int .i64 ((l[k]).p.torn), .int .i64 ((l[k]).p.cut)] ∧ True, [0, 1, 2, 3, 5, 6, 7, 8, 9, 10, 11, 12, 13, 16], ?_⟩
              refine T_takeA (i := 0) rfl rfl (by kernel_rfl) (by kernel_rfl) (by kernel_rfl) (Y_of (fun _ ⟨hb2, _⟩ => R_move rfl)) ⟨hb2, trivial⟩ rfl ?_
              refine T_takeA (i := 1) rfl rfl (by kernel_rfl) (by kernel_rfl) (by kernel_rfl) (Y_of (fun _ ⟨hb2, _⟩ => R_field (r := 3) rfl fld65_3 rfl)) ⟨hb2, trivial⟩ rfl ?_
              refine T_takeA (i := 2) rfl rfl (by kernel_rfl) (by kernel_rfl) (by kernel_rfl) (Y_of (fun _ ⟨hb2, _⟩ => R_field (r := 3) rfl fld63_0 rfl)) ⟨hb2, trivial⟩ rfl ?_
              refine T_takeA (i := 3) rfl rfl (by kernel_rfl) (by kernel_rfl) (by kernel_rfl) (Y_of (fun _ ⟨hb2, _⟩ => R_load1 rfl scl42 (hb2.cell (i := 3) rfl))) ⟨hb2, trivial⟩ rfl ?_
              refine T_takeA (i := 5) rfl rfl (by kernel_rfl) (by kernel_rfl) (by kernel_rfl) (Y_of (fun _ ⟨hb2, _⟩ => R_field (r := 3) rfl fld65_3 rfl)) ⟨hb2, trivial⟩ rfl ?_
              refine T_takeA (i := 6) rfl rfl (by kernel_rfl) (by kernel_rfl) (by kernel_rfl) (Y_of (fun _ ⟨hb2, _⟩ => R_field (r := 4) rfl fld63_1 rfl)) ⟨hb2, trivial⟩ rfl ?_
              refine T_takeA (i := 7) rfl rfl (by kernel_rfl) (by kernel_rfl) (by kernel_rfl) (Y_of (fun _ ⟨hb2, _⟩ => R_load1 rfl scl3 (hb2.cell (i := 4) rfl))) ⟨hb2, trivial⟩ rfl ?_
              refine T_takeA (i := 8) rfl rfl (by kernel_rfl) (by kernel_rfl) (by kernel_rfl) (Y_of (fun _ ⟨hb2, _⟩ => R_add64 rfl rfl (by first | omega | (have h_ : sOk l[k].p := hthis; unfold sOk SOk at h_; omega)))) ⟨hb2, trivial⟩ rfl ?_
              refine T_takeA (i := 9) rfl rfl (by kernel_rfl) (by kernel_rfl) (by kernel_rfl) (Y_of (fun _ ⟨hb2, _⟩ => R_eqv (R_conv rfl any3 int5) (v' := .int .u8 ((bt (l[k].p.torn + 1)).toNat : Int)) (u8_ofI _))) ⟨hb2, trivial⟩ rfl ?_
              refine T_takeA (i := 10) rfl rfl (by kernel_rfl) (by kernel_rfl) (by kernel_rfl) (Y_of (fun _ ⟨hb2, _⟩ => R_field (r := 3) rfl fld65_3 rfl)) ⟨hb2, trivial⟩ rfl ?_
              refine T_takeA (i := 11) rfl rfl (by kernel_rfl) (by kernel_rfl) (by kernel_rfl) (Y_of (fun _ ⟨hb2, _⟩ => R_field (r := 5) rfl fld63_2 rfl)) ⟨hb2, trivial⟩ rfl ?_
              refine T_takeA (i := 12) rfl rfl (by kernel_rfl) (by kernel_rfl) (by kernel_rfl) (Y_of (fun _ ⟨hb2, _⟩ => R_load1 rfl scl3 (hb2.cell (i := 5) rfl))) ⟨hb2, trivial⟩ rfl ?_
              refine T_takeA (i := 13) rfl rfl (by kernel_rfl) (by kernel_rfl) (by kernel_rfl) (Y_of (fun _ ⟨hb2, _⟩ => R_eqv (R_conv rfl any3 int5) (v' := .int .u8 ((bt (l[k].p.cut)).toNat : Int)) (u8_ofI _))) ⟨hb2, trivial⟩ rfl ?_
              refine T_all (rs := [4, 14]) (by kernel_rfl) rfl (all2 (O_one rfl ?_) (O_one rfl ?_))
              · have ge6 : w.heap.size ≤ w11.heap.size := hB.size
                refine L_call rfl cb72 (field_Put (bs := (sencs (ps (l.take k))) ++ ([(bt (l[k].p.kind))])) (fs := (l[k]).p.keep) (own_of ho1).2.2 (hD.getK (i := k) (by first | assumption | omega | (simp; omega))) (by have h_ := sencs_len hall; rw [ps_len, List.length_take] at h_; have h2_ := encs_le (p := l[k].p) hthis; have h3_ := fenc_len (encs l[k].p.ops); have h4_ := fenc_len l[k].p.keep; have h5_ := (sOk_keep (p := l[k].p) hthis).1; simp at *; omega)) rfl ?_
                rintro _ w12 ⟨hs11, A_5, c_5, rfl, ho5⟩
                replace hB := gb_tr hB hs11
                replace hS := hS.gb hs11
                replace hD := hD.gb hs11
                replace hb2 := hb2.gb hs11
                replace ho1 := own_gb ho1 hs11
                have hlo3 : w11.heap.size ≤ w12.heap.size := hs11.size
                refine L_nil (N_then ⟨fun hN_ => ⟨hb2, trivial⟩, ?_⟩)
                refine T_all (rs := [14]) (by kernel_rfl) rfl (all1 (O_one rfl ?_))
                refine L_buildSlice (pv := [(0, .int .u8 ((bt (l[k].p.torn + 1)).toNat : Int)), (1, .int .u8 ((bt (l[k].p.cut)).toNat : Int))]) (cs := [.int .u8 ((bt (l[k].p.torn + 1)).toNat : Int), .int .u8 ((bt (l[k].p.cut)).toNat : Int)]) slc42 zer5 rfl rfl (by kernel_rfl) rfl ?_
                intro g5 w13 eg4 hb5 hs12 hz6
                have ge7 : w.heap.size ≤ g5 := eg_ge hB eg4
                have lt3 : g2 < g5 := lt_of_eg hb2.lt eg4
                have hap3 : ∀ k_, (Value.slice A_1 ((sencs (ps (l.take k))) ++ ([(bt (l[k].p.kind))])).length c_1).ownBlock = some k_ → k_ ≠ g5 := fun k_ hk => by have h_ := (World.ownsRow.lt ho1 k_ hk).2; omega
                have hap4 : ∀ k_, (Value.slice A_5 ((sencs (ps (l.take k))) ++ ([(bt (l[k].p.kind))]) ++ fenc ((l[k]).p.keep)).length c_5).ownBlock = some k_ → k_ ≠ g5 := fun k_ hk => by have h_ := (World.ownsRow.lt ho5 k_ hk).2; omega
                replace hB := gb_tr hB hs12
                replace hS := hS.gb hs12
                replace hD := hD.gb hs12
                replace hb2 := hb2.gb hs12
                replace ho1 := own_gb ho1 hs12
                replace ho5 := own_gb ho5 hs12
                replace hlo3 := Nat.le_trans hlo3 hs12.size
                refine L_nil (N_then ⟨fun hN_ => ⟨hb2, trivial⟩, ?_⟩)
                refine T_all (rs := [15]) (by kernel_rfl) rfl (all1 (O_one rfl ?_))
                refine T_append (xs := (sencs (ps (l.take k))) ++ ([(bt (l[k].p.kind))]) ++ fenc ((l[k]).p.keep)) (ys := [(bt (l[k].p.torn + 1)), (bt (l[k].p.cut))]) EncB slc42 rfl rfl ho5 (Blk.sli (m := 0) hb5) (by have h_ := sencs_len hall; rw [ps_len, List.length_take] at h_; have h2_ := encs_le (p := l[k].p) hthis; have h3_ := fenc_len (encs l[k].p.ops); have h4_ := fenc_len l[k].p.keep; have h5_ := (sOk_keep (p := l[k].p) hthis).1; simp at *; omega) hlo3 rfl ?_
                intro A_6 c_6 w14 ho6 hs13 hat3
                replace hB := gb_tro hB ho5 hs13 ge6
                replace hS := hS.grown hs13 (fun k hk => .inr (Nat.le_trans ge6 (World.ownsRow.lt ho5 k hk).1))
                replace hD := hD.own ho5 ge6 hs13
                replace hb2 := blk_own hb2 ho5 rfl hs13
                replace hlo3 := Nat.le_trans hlo3 hs13.size
                refine L_nil (N_then ⟨fun hN_ => ⟨hb2, trivial⟩, ?_⟩)
                refine T_takeA (i := 16) rfl rfl (by kernel_rfl) (by kernel_rfl) (by kernel_rfl) (Y_of (fun _ ⟨hb2, _⟩ => R_assign rfl)) ⟨hb2, trivial⟩ rfl ?_
                refine T_done (by kernel_rfl) (NoPanic.normal ?_)
                refine N_in (N_in (N_then (C_reg ?_)))
                refine L_run (R_add64 rfl rfl (by first | omega | (have h_ : sOk l[k].p := hthis; unfold sOk SOk at h_; omega))) rfl ?_
                refine L_run (R_move rfl) rfl ?_
                refine L_nil (N_then ?_)
                have e_ : ((sencs (ps (l.take k))) ++ ([(bt (l[k].p.kind))]) ++ fenc ((l[k]).p.keep)) ++ ([(bt (l[k].p.torn + 1)), (bt (l[k].p.cut))]) = sencs (ps (l.take (k + 1))) := by
                  rw [ps_sEnc (show k < l.length by omega)]; unfold sEnc
                  first
                    | (exfalso; omega)
                    | (rw [if_pos (by omega), if_neg (by omega), if_neg (by omega)]; simp; done)
                    | (rw [if_neg (by omega), if_pos (by omega), if_neg (by omega)]; simp; done)
                    | (rw [if_neg (by omega), if_neg (by omega), if_pos (by omega)]; simp; done)
                    | (rw [if_neg (by omega), if_neg (by omega), if_neg (by omega)]; simp; done)
                rw [e_] at ho6 ⊢
                exact ⟨l.length - (k + 1), by omega, _, A_6, c_6, (k + 1), Ac_frg ⟨rfl, rfl, rfl, rfl, rfl, (agr rfl (by first | rfl | (congr 1; omega) | (congr 1; simp; done) | (congr 1; simp only [IntKind.wrap_u64, IntKind.wrap_i64, IntKind.wrap_u8]; omega) | (congr 1 <;> omega))), trivial⟩, hB, hS, hD, (own_lo ho6 ge6), (by omega), (sall_succ hall (show k < l.length by omega) hthis), rfl⟩
              · refine L_buildSlice (pv := [(0, .int .u8 ((bt (l[k].p.torn + 1)).toNat : Int)), (1, .int .u8 ((bt (l[k].p.cut)).toNat : Int))]) (cs := [.int .u8 ((bt (l[k].p.torn + 1)).toNat : Int), .int .u8 ((bt (l[k].p.cut)).toNat : Int)]) slc42 zer5 rfl rfl (by kernel_rfl) rfl ?_
                intro g6 w15 eg5 hb6 hs14 hz7
                have ge8 : w.heap.size ≤ g6 := eg_ge hB eg5
                have lt4 : g2 < g6 := lt_of_eg hb2.lt eg5
                have hap5 : ∀ k_, (Value.slice A_1 ((sencs (ps (l.take k))) ++ ([(bt (l[k].p.kind))])).length c_1).ownBlock = some k_ → k_ ≠ g6 := fun k_ hk => by have h_ := (World.ownsRow.lt ho1 k_ hk).2; omega
                replace hB := gb_tr hB hs14
                replace hS := hS.gb hs14
                replace hD := hD.gb hs14
                replace hb2 := hb2.gb hs14
                replace ho1 := own_gb ho1 hs14
                refine L_nil (N_then ⟨fun hN_ => ⟨hb2, trivial⟩, ?_⟩)
                refine T_all (rs := [4]) (by kernel_rfl) rfl (all1 (O_one rfl ?_))
                have ge9 : w.heap.size ≤ w15.heap.size := hB.size
                refine L_call rfl cb72 (field_Put (bs := (sencs (ps (l.take k))) ++ ([(bt (l[k].p.kind))])) (fs := (l[k]).p.keep) (own_of ho1).2.2 (hD.getK (i := k) (by first | assumption | omega | (simp; omega))) (by have h_ := sencs_len hall; rw [ps_len, List.length_take] at h_; have h2_ := encs_le (p := l[k].p) hthis; have h3_ := fenc_len (encs l[k].p.ops); have h4_ := fenc_len l[k].p.keep; have h5_ := (sOk_keep (p := l[k].p) hthis).1; simp at *; omega)) rfl ?_
                rintro _ w16 ⟨hs15, A_7, c_7, rfl, ho7⟩
                replace hB := gb_tr hB hs15
                replace hS := hS.gb hs15
                replace hD := hD.gb hs15
                replace hb2 := hb2.gb hs15
                replace ho1 := own_gb ho1 hs15
                replace hb6 := hb6.gb hs15
                have hlo4 : w15.heap.size ≤ w16.heap.size := hs15.size
                refine L_nil (N_then ⟨fun hN_ => ⟨hb2, trivial⟩, ?_⟩)
                refine T_all (rs := [15]) (by kernel_rfl) rfl (all1 (O_one rfl ?_))
                refine T_append (xs := (sencs (ps (l.take k))) ++ ([(bt (l[k].p.kind))]) ++ fenc ((l[k]).p.keep)) (ys := [(bt (l[k].p.torn + 1)), (bt (l[k].p.cut))]) EncB slc42 rfl rfl ho7 (Blk.sli (m := 0) hb6) (by have h_ := sencs_len hall; rw [ps_len, List.length_take] at h_; have h2_ := encs_le (p := l[k].p) hthis; have h3_ := fenc_len (encs l[k].p.ops); have h4_ := fenc_len l[k].p.keep; have h5_ := (sOk_keep (p := l[k].p) hthis).1; simp at *; omega) hlo4 rfl ?_
                intro A_8 c_8 w17 ho8 hs16 hat4
                replace hB := gb_tro hB ho7 hs16 ge9
                replace hS := hS.grown hs16 (fun k hk => .inr (Nat.le_trans ge9 (World.ownsRow.lt ho7 k hk).1))
                replace hD := hD.own ho7 ge9 hs16
                replace hb2 := blk_own hb2 ho7 rfl hs16
                replace hlo4 := Nat.le_trans hlo4 hs16.size
                refine L_nil (N_then ⟨fun hN_ => ⟨hb2, trivial⟩, ?_⟩)
                refine T_takeA (i := 16) rfl rfl (by kernel_rfl) (by kernel_rfl) (by kernel_rfl) (Y_of (fun _ ⟨hb2, _⟩ => R_assign rfl)) ⟨hb2, trivial⟩ rfl ?_
                refine T_done (by kernel_rfl) (NoPanic.normal ?_)
                refine N_in (N_in (N_then (C_reg ?_)))
                refine L_run (R_add64 rfl rfl (by first | omega | (have h_ : sOk l[k].p := hthis; unfold sOk SOk at h_; omega))) rfl ?_
                refine L_run (R_move rfl) rfl ?_
                refine L_nil (N_then ?_)
                have e_ : ((sencs (ps (l.take k))) ++ ([(bt (l[k].p.kind))]) ++ fenc ((l[k]).p.keep)) ++ ([(bt (l[k].p.torn + 1)), (bt (l[k].p.cut))]) = sencs (ps (l.take (k + 1))) := by
                  rw [ps_sEnc (show k < l.length by omega)]; unfold sEnc
                  first
                    | (exfalso; omega)
                    | (rw [if_pos (by omega), if_neg (by omega), if_neg (by omega)]; simp; done)
                    | (rw [if_neg (by omega), if_pos (by omega), if_neg (by omega)]; simp; done)
                    | (rw [if_neg (by omega), if_neg (by omega), if_pos (by omega)]; simp; done)
                    | (rw [if_neg (by omega), if_neg (by omega), if_neg (by omega)]; simp; done)
                rw [e_] at ho8 ⊢
                exact ⟨l.length - (k + 1), by omega, _, A_8, c_8, (k + 1), Ac_frg ⟨rfl, rfl, rfl, rfl, rfl, (agr rfl (by first | rfl | (congr 1; omega) | (congr 1; simp; done) | (congr 1; simp only [IntKind.wrap_u64, IntKind.wrap_i64, IntKind.wrap_u8]; omega) | (congr 1 <;> omega))), trivial⟩, hB, hS, hD, (own_lo ho8 ge9), (by omega), (sall_succ hall (show k < l.length by omega) hthis), rfl⟩
            · refine C_skip (N_in (N_in (N_then (C_reg ?_))))
              refine L_run (R_add64 rfl rfl (by first | omega | (have h_ : sOk l[k].p := hthis; unfold sOk SOk at h_; omega))) rfl ?_
              refine L_run (R_move rfl) rfl ?_
              refine L_nil (N_then ?_)
              have e_ : (sencs (ps (l.take k))) ++ ([(bt (l[k].p.kind))]) = sencs (ps (l.take (k + 1))) := by
                rw [ps_sEnc (show k < l.length by omega)]; unfold sEnc
                first
                  | (exfalso; omega)
                  | (rw [if_pos (by omega), if_neg (by omega), if_neg (by omega)]; simp; done)
                  | (rw [if_neg (by omega), if_pos (by omega), if_neg (by omega)]; simp; done)
                  | (rw [if_neg (by omega), if_neg (by omega), if_pos (by omega)]; simp; done)
                  | (rw [if_neg (by omega), if_neg (by omega), if_neg (by omega)]; simp; done)
              rw [e_] at ho1 ⊢
              exact ⟨l.length - (k + 1), by omega, _, A_1, c_1, (k + 1), Ac_frg ⟨rfl, rfl, rfl, rfl, rfl, (agr rfl (by first | rfl | (congr 1; omega) | (congr 1; simp; done) | (congr 1; simp only [IntKind.wrap_u64, IntKind.wrap_i64, IntKind.wrap_u8]; omega) | (congr 1 <;> omega))), trivial⟩, hB, hS, hD, ho1, (by omega), (sall_succ hall (show k < l.length by omega) hthis), rfl⟩
    · refine C_exit (X_then (X_then (X_hit (N_then (C_seq (C_reg ?_))))))
      refine L_run (R_move rfl) rfl ?_
      refine L_run (R_assign rfl) rfl ?_
      refine L_run (R_assign rfl) rfl ?_
      refine L_nil (N_then (C_ret ?_))
      refine ret2 Try.results52 rfl rfl ?_
      rw [List.take_of_length_le (by omega)] at hall; exact absurd hall hno
theorem script_Encode_long {w : World} {t1 lo hi hh : Nat} {A : Option Addr} {c : Nat} {l : List StepD} (hS : Sli t1 lo hi w A (fl encS l)) (hD : DeepS hh w l) (hn : 64 < l.length) :
    Runs Try.prog 52 #[.slice A l.length c] w (fun v w' => w.grownBy w' none ∧ v = .tuple #[.slice none 0 0, .int .i64 5]) := by
  have hB := gb_refl w none
  replace hD := hD.top
  replace hS := hS.top
  refine enter Try.func52 Try.ntmps52 rfl rfl ?_
  refine C_seq (C_reg ?_)
  refine L_run (R_assign rfl) rfl ?_
  refine L_run (R_assign rfl) rfl ?_
  refine L_nil (N_then (C_seq (C_seq (C_reg ?_))))
  refine L_run (R_move rfl) rfl ?_
  refine L_run (R_lenSl rfl slc58) rfl ?_
  refine L_run (R_gtr rfl rfl) rfl ?_
  refine L_nil (N_then (C_condT rfl (decide_eq_true (show 64 < (l.length : Int) by omega)) (C_seq (C_reg ?_))))
  refine L_run (R_assign rfl) rfl ?_
  refine L_run (R_assign rfl) rfl ?_
  refine L_nil (N_then (C_ret (R_then ?_)))
  refine ret2 Try.results52 rfl rfl ?_
  exact ⟨hB, rfl⟩

theorem ref38_Bytes {w : World} {t1 lo hi hh : Nat} {A : Option Addr} {c : Nat} {l : List StepD} (hS : Sli t1 lo hi w A (fl encS l)) (hD : DeepS hh w l) (hf : ∀ y ∈ l, FewS y) (hn : l.length ≤ 64) (hok : ∀ p ∈ ps l, sOk p) :
    Runs Try.prog 56 #[.slice A l.length c] w (fun v w' => w.grownBy w' none ∧ ∃ A' c', v = .slice A' (sencs (ps l)).length c' ∧ World.ownsRow w' w.heap.size 5 1 (.slice A' (sencs (ps l)).length c') (sencs (ps l)).length (fl encB (sencs (ps l)))) := by
  have hB := gb_refl w none
  replace hD := hD.top
  replace hS := hS.top
  refine enter Try.func56 Try.ntmps56 rfl rfl ?_
  refine C_seq (C_reg ?_)
  refine L_run (R_assign rfl) rfl ?_
  refine L_nil (N_then (C_seq (C_reg ?_)))
  refine L_run (R_assign rfl) rfl ?_
  refine L_nil (N_then (C_seq (C_seq (C_reg ?_))))
  refine L_run (R_assign rfl) rfl ?_
  refine L_nil (N_then (C_block ?_))
  refine C_loop (fun m_ a_ w_ => ∃ (σ_ : Nat → Value) (A' : Option Addr) (c' : Nat) (k : Nat), a_ = Ac 64 σ_ [] [(0, .slice A l.length c), (2, .slice none 0 0), (3, .slice A' ((sencs (ps (l.take k))).length) c'), (4, .int .i64 (k : Int))] ∧ w.grownBy w_ none ∧ Sli t1 lo w.heap.size w_ A (fl encS l) ∧ DeepS w.heap.size w_ l ∧ World.ownsRow w_ w.heap.size 5 1 (.slice A' (sencs (ps (l.take k))).length c') (sencs (ps (l.take k))).length (fl encB (sencs (ps (l.take k)))) ∧ (k ≤ l.length) ∧ l.length - k = m_) (l.length - 0) ?_ ?_
  · exact ⟨_, none, 0, 0, Ac_frg ⟨rfl, rfl, (agr rfl (by first | rfl | (congr 1; omega) | (congr 1; simp; done) | (congr 1; simp only [IntKind.wrap_u64, IntKind.wrap_i64, IntKind.wrap_u8]; omega) | (congr 1 <;> omega))), (agr rfl (by first | rfl | (congr 1; omega) | (congr 1; simp; done) | (congr 1; simp only [IntKind.wrap_u64, IntKind.wrap_i64, IntKind.wrap_u8]; omega) | (congr 1 <;> omega))), trivial⟩, hB, hS, hD, (own_nil w.heap.size 5 1 _), (Nat.zero_le _), rfl⟩
  · clear hB
    clear hS hD
    rintro m_ a_ w1 ⟨σ_, A', c', k, rfl, hB, hS, hD, ho, hk, rfl⟩
    refine C_seq (C_seq (C_reg ?_))
    refine L_run (R_move rfl) rfl ?_
    refine L_run (R_move rfl) rfl ?_
    refine L_run (R_lenSl rfl slc58) rfl ?_
    refine L_run (R_lss rfl rfl) rfl ?_
    refine L_nil (N_then ?_)
    refine C_if rfl (fun h1 => ?_) (fun h1 => ?_)
    · refine C_skip (N_then (C_seq (C_block (C_seq (C_reg ?_)))))
      refine L_run (R_move rfl) rfl ?_
      refine L_run (R_move rfl) rfl ?_
      have hl1 : k < l.length := by first | omega | (simp; omega)
      refine T_index (xs := l) (i := k) EncS rfl rfl (by first | rfl | omega) slc58 hl1 hS rfl ?_
      intro g1 o1 ha1
      refine L_run (R_loadA (vs := [.int .i64 ((l[k]).p.kind), .int .i64 ((l[k]).p.n), .slice ((l[k]).oa) ((l[k]).p.ops.length) ((l[k]).oc), .slice ((l[k]).ka) ((l[k]).p.keep.length) ((l[k]).kc), .int .i64 ((l[k]).p.torn), .int .i64 ((l[k]).p.cut)]) rfl agg65 (At.pre ha1 rfl) rfl) rfl ?_
      refine L_alloc (cs := [.int .i64 0, .int .i64 0, .slice none 0 0, .slice none 0 0, .int .i64 0, .int .i64 0]) zer65 rfl rfl ?_
      intro g2 w2 eg1 hb1 hs1 hz1
      have ge1 : w.heap.size ≤ g2 := eg_ge hB eg1
      replace hB := gb_tr hB hs1
      replace hS := hS.gb hs1
      replace hD := hD.gb hs1
      replace ho := own_gb ho hs1
      replace ha1 := At.gb ha1 hs1 (by simp)
      refine L_stA (vs := [.int .i64 ((l[k]).p.kind), .int .i64 ((l[k]).p.n), .slice ((l[k]).oa) ((l[k]).p.ops.length) ((l[k]).oc), .slice ((l[k]).ka) ((l[k]).p.keep.length) ((l[k]).kc), .int .i64 ((l[k]).p.torn), .int .i64 ((l[k]).p.cut)]) rfl rfl rfl sz65 rfl hb1 rfl ?_
      intro w3 hb2 hs2 hz2
      replace hB := gb_trg hB hs2 ge1
      replace hS := hS.old hs2 ge1
      replace hD := hD.old hs2 ge1
      replace ho := own_other ho hb1 rfl hs2
      refine L_nil (N_then (C_seq (C_reg ?_)))
      refine L_run (R_move rfl) rfl ?_
      refine L_run (R_field (r := 0) rfl fld65_0 rfl) rfl ?_
      refine L_run (R_load1 rfl scl3 (hb2.cell (i := 0) rfl)) rfl ?_
      refine L_run (R_eqv (R_conv rfl any3 int5) (v' := .int .u8 ((bt (l[k].p.kind)).toNat : Int)) (u8_ofI _)) rfl ?_
      refine L_buildSlice (pv := [(0, .int .u8 ((bt (l[k].p.kind)).toNat : Int))]) (cs := [.int .u8 ((bt (l[k].p.kind)).toNat : Int)]) slc42 zer5 rfl rfl (by kernel_rfl) rfl ?_
      intro g3 w4 eg2 hb3 hs3 hz3
      have ge2 : w.heap.size ≤ g3 := eg_ge hB eg2
      have lt1 : g2 < g3 := lt_of_eg hb2.lt eg2
      have hap1 : ∀ k_, (Value.slice A' (sencs (ps (l.take k))).length c').ownBlock = some k_ → k_ ≠ g3 := fun k_ hk => by have h_ := (World.ownsRow.lt ho k_ hk).2; omega
      replace hB := gb_tr hB hs3
      replace hS := hS.gb hs3
      replace hD := hD.gb hs3
      replace ho := own_gb ho hs3
      replace hb2 := hb2.gb hs3
      refine T_append (xs := sencs (ps (l.take k))) (ys := [(bt (l[k].p.kind))]) EncB slc42 rfl rfl ho (Blk.sli (m := 0) hb3) (by have h_ := sencs_take hok k; rw [ps_take, ps_len] at h_; have h2_ := encs_le (sall hok (show k < l.length by omega)); have h3_ := fenc_len (encs l[k].p.ops); have h4_ := fenc_len l[k].p.keep; have h5_ := (sOk_keep (sall hok (show k < l.length by omega))).1; simp at *; omega) (by have := hB.size; omega) rfl ?_
      intro A_1 c_1 w5 ho1 hs4 hat1
      replace hB := gb_tro hB ho hs4 (Nat.le_refl _)
      replace hS := hS.grown hs4 (fun k hk => .inr (Nat.le_trans (Nat.le_refl _) (World.ownsRow.lt ho k hk).1))
      replace hD := hD.own ho (Nat.le_refl _) hs4
      replace hb2 := blk_own hb2 ho rfl hs4
      refine L_run (R_assign rfl) rfl ?_
      refine L_nil (N_then (C_seq (C_seq (C_reg ?_))))
      refine L_run (R_field (r := 0) rfl fld65_0 rfl) rfl ?_
      refine L_run (R_load1 rfl scl3 (hb2.cell (i := 0) rfl)) rfl ?_
      refine L_run (R_eql rfl rfl) rfl ?_
      refine L_nil (N_then ?_)
      refine C_if rfl (fun h2 => ?_) (fun h2 => ?_)
      · refine C_reg ?_
        refine L_run (R_move rfl) rfl ?_
        refine L_run (R_field (r := 2) rfl fld65_2 rfl) rfl ?_
        refine L_run (R_load1 rfl scl22 (hb2.cell (i := 2) rfl)) rfl ?_
        have ge3 : w.heap.size ≤ w5.heap.size := hB.size
        refine L_call rfl cb48 (ref12_Bytes (l := (l[k]).p.ops) (hD.getO (i := k) (by first | assumption | omega | (simp; omega))) (by have h_ := (hf _ (List.getElem_mem (show k < l.length by omega))).1; omega) (by have h_ := sall hok (show k < l.length by omega); unfold sOk SOk at h_; rcases h_ with h_ | h_ | h_ | h_ <;> first | exact h_.2.1.1 | (exfalso; omega))) rfl ?_
        rintro _ w6 ⟨hs5, A_2, c_2, rfl, ho2⟩
        replace hB := gb_tr hB hs5
        replace hS := hS.gb hs5
        replace hD := hD.gb hs5
        replace hb2 := hb2.gb hs5
        replace ho1 := own_gb ho1 hs5
        have hlo1 : w5.heap.size ≤ w6.heap.size := hs5.size
        refine L_buildSlice (pv := [(0, .slice A_2 ((encs ((l[k]).p.ops)).length) c_2)]) (cs := [.slice A_2 ((encs ((l[k]).p.ops)).length) c_2]) slc93 zer42 rfl rfl (by kernel_rfl) rfl ?_
        intro g4 w7 eg3 hb4 hs6 hz4
        have ge4 : w.heap.size ≤ g4 := eg_ge hB eg3
        have lt2 : g2 < g4 := lt_of_eg hb2.lt eg3
        replace hB := gb_tr hB hs6
        replace hS := hS.gb hs6
        replace hD := hD.gb hs6
        replace hb2 := hb2.gb hs6
        replace ho1 := own_gb ho1 hs6
        replace ho2 := own_gb ho2 hs6
        replace hlo1 := Nat.le_trans hlo1 hs6.size
        have ge5 : w.heap.size ≤ w7.heap.size := hB.size
        refine L_call rfl cb73 (ref04_Pack1 (xs := encs ((l[k]).p.ops)) (Blk.sli (m := 0) hb4) (own_of ho2).2.2 (by have h2_ := encs_le (sall hok (show k < l.length by omega)); have h5_ := (sOk_keep (sall hok (show k < l.length by omega))).1; omega)) rfl ?_
        rintro _ w8 ⟨hs7, A_3, c_3, rfl, ho3⟩
        replace hB := gb_tr hB hs7
        replace hS := hS.gb hs7
        replace hD := hD.gb hs7
        replace hb2 := hb2.gb hs7
        replace ho1 := own_gb ho1 hs7
        replace ho2 := own_gb ho2 hs7
        replace hlo1 := Nat.le_trans hlo1 hs7.size
        replace hb4 := hb4.gb hs7
        have hlo2 : w7.heap.size ≤ w8.heap.size := hs7.size
        refine T_append (xs := (sencs (ps (l.take k))) ++ ([(bt (l[k].p.kind))])) (ys := fenc (encs ((l[k]).p.ops))) EncB slc42 rfl rfl ho1 (own_of ho3).2.2 (by have h_ := sencs_take hok k; rw [ps_take, ps_len] at h_; have h2_ := encs_le (sall hok (show k < l.length by omega)); have h3_ := fenc_len (encs l[k].p.ops); have h4_ := fenc_len l[k].p.keep; have h5_ := (sOk_keep (sall hok (show k < l.length by omega))).1; simp at *; omega) (by have := hB.size; omega) rfl ?_
        intro A_4 c_4 w9 ho4 hs8 hat2
        replace hB := gb_tro hB ho1 hs8 (Nat.le_refl _)
        replace hS := hS.grown hs8 (fun k hk => .inr (Nat.le_trans (Nat.le_refl _) (World.ownsRow.lt ho1 k hk).1))
        replace hD := hD.own ho1 (Nat.le_refl _) hs8
        replace hb2 := blk_own hb2 ho1 rfl hs8
        replace hlo1 := Nat.le_trans hlo1 hs8.size
        replace hb4 := blk_own hb4 ho1 rfl hs8
        replace hlo2 := Nat.le_trans hlo2 hs8.size
        refine L_run (R_assign rfl) rfl ?_
        refine L_nil (N_then (C_seq (C_seq (C_reg ?_))))
        refine L_run (R_field (r := 0) rfl fld65_0 rfl) rfl ?_
        refine L_run (R_load1 rfl scl3 (hb2.cell (i := 0) rfl)) rfl ?_
        refine L_run (R_eql rfl rfl) rfl ?_
        refine L_nil (N_then ?_)
        refine C_if rfl (fun h3 => ?_) (fun h3 => ?_)
        · refine C_seq (C_reg ?_)
          refine L_run (R_move rfl) rfl ?_
          refine L_run (R_field (r := 3) rfl fld65_3 rfl) rfl ?_
          refine L_run (R_field (r := 3) rfl fld63_0 rfl) rfl ?_
          refine L_run (R_load1 rfl scl42 (hb2.cell (i := 3) rfl)) rfl ?_
          refine L_buildSlice (pv := [(0, .slice ((l[k]).ka) ((l[k]).p.keep.length) ((l[k]).kc))]) (cs := [.slice ((l[k]).ka) ((l[k]).p.keep.length) ((l[k]).kc)]) slc93 zer42 rfl rfl (by kernel_rfl) rfl ?_
          intro g5 w10 eg4 hb5 hs9 hz5
          have ge6 : w.heap.size ≤ g5 := eg_ge hB eg4
          have lt3 : g2 < g5 := lt_of_eg hb2.lt eg4
          have lt4 : g4 < g5 := lt_of_eg hb4.lt eg4
          replace hB := gb_tr hB hs9
          replace hS := hS.gb hs9
          replace hD := hD.gb hs9
          replace hb2 := hb2.gb hs9
          replace hlo1 := Nat.le_trans hlo1 hs9.size
          replace hb4 := hb4.gb hs9
          replace hlo2 := Nat.le_trans hlo2 hs9.size
          replace ho4 := own_gb ho4 hs9
          have ge7 : w.heap.size ≤ w10.heap.size := hB.size
          refine L_call rfl cb73 (ref04_Pack1 (xs := (l[k]).p.keep) (Blk.sli (m := 0) hb5) (hD.getK (i := k) (by first | assumption | omega | (simp; omega))) (by have h2_ := encs_le (sall hok (show k < l.length by omega)); have h5_ := (sOk_keep (sall hok (show k < l.length by omega))).1; omega)) rfl ?_
          rintro _ w11 ⟨hs10, A_5, c_5, rfl, ho5⟩
          replace hB := gb_tr hB hs10
          replace hS := hS.gb hs10
          replace hD := hD.gb hs10
          replace hb2 := hb2.gb hs10
          replace hlo1 := Nat.le_trans hlo1 hs10.size
          replace hb4 := hb4.gb hs10
          replace hlo2 := Nat.le_trans hlo2 hs10.size
          replace ho4 := own_gb ho4 hs10
          replace hb5 := hb5.gb hs10
          have hlo3 : w10.heap.size ≤ w11.heap.size := hs10.size
          refine T_append (xs := ((sencs (ps (l.take k))) ++ ([(bt (l[k].p.kind))])) ++ (fenc (encs ((l[k]).p.ops)))) (ys := fenc ((l[k]).p.keep)) EncB slc42 rfl rfl ho4 (own_of ho5).2.2 (by have h_ := sencs_take hok k; rw [ps_take, ps_len] at h_; have h2_ := encs_le (sall hok (show k < l.length by omega)); have h3_ := fenc_len (encs l[k].p.ops); have h4_ := fenc_len l[k].p.keep; have h5_ := (sOk_keep (sall hok (show k < l.length by omega))).1; simp at *; omega) (by have := hB.size; omega) rfl ?_
          intro A_6 c_6 w12 ho6 hs11 hat3
          replace hB := gb_tro hB ho4 hs11 (Nat.le_refl _)
          replace hS := hS.grown hs11 (fun k hk => .inr (Nat.le_trans (Nat.le_refl _) (World.ownsRow.lt ho4 k hk).1))
          replace hD := hD.own ho4 (Nat.le_refl _) hs11
          replace hb2 := blk_own hb2 ho4 rfl hs11
          replace hlo1 := Nat.le_trans hlo1 hs11.size
          replace hb4 := blk_own hb4 ho4 rfl hs11
          replace hlo2 := Nat.le_trans hlo2 hs11.size
          replace hb5 := blk_own hb5 ho4 rfl hs11
          replace hlo3 := Nat.le_trans hlo3 hs11.size
          refine L_run (R_assign rfl) rfl ?_
          refine L_nil (N_then (C_reg ?_))
          refine L_run (R_move rfl) rfl ?_
          refine L_run (R_field (r := 3) rfl fld65_3 rfl) rfl ?_
          refine L_run (R_field (r := 4) rfl fld63_1 rfl) rfl ?_
          refine L_run (R_load1 rfl scl3 (hb2.cell (i := 4) rfl)) rfl ?_
          refine L_run (R_add64 rfl rfl (by first | omega | (have h_ := sall hok (show k < l.length by omega); unfold sOk SOk at h_; omega))) rfl ?_
          refine L_run (R_eqv (R_conv rfl any3 int5) (v' := .int .u8 ((bt (l[k].p.torn + 1)).toNat : Int)) (u8_ofI _)) rfl ?_
          refine L_run (R_field (r := 3) rfl fld65_3 rfl) rfl ?_
          refine L_run (R_field (r := 5) rfl fld63_2 rfl) rfl ?_
          refine L_run (R_load1 rfl scl3 (hb2.cell (i := 5) rfl)) rfl ?_
          refine L_run (R_eqv (R_conv rfl any3 int5) (v' := .int .u8 ((bt (l[k].p.cut)).toNat : Int)) (u8_ofI _)) rfl ?_
          refine L_buildSlice (pv := [(0, .int .u8 ((bt (l[k].p.torn + 1)).toNat : Int)), (1, .int .u8 ((bt (l[k].p.cut)).toNat : Int))]) (cs := [.int .u8 ((bt (l[k].p.torn + 1)).toNat : Int), .int .u8 ((bt (l[k].p.cut)).toNat : Int)]) slc42 zer5 rfl rfl (by kernel_rfl) rfl ?_
          intro g6 w13 eg5 hb6 hs12 hz6
          have ge8 : w.heap.size ≤ g6 := eg_ge hB eg5
          have lt5 : g2 < g6 := lt_of_eg hb2.lt eg5
          have lt6 : g4 < g6 := lt_of_eg hb4.lt eg5
          have lt7 : g5 < g6 := lt_of_eg hb5.lt eg5
          have hap2 : ∀ k_, (Value.slice A_6 ((((sencs (ps (l.take k))) ++ ([(bt (l[k].p.kind))])) ++ (fenc (encs ((l[k]).p.ops)))) ++ (fenc ((l[k]).p.keep))).length c_6).ownBlock = some k_ → k_ ≠ g6 := fun k_ hk => by have h_ := (World.ownsRow.lt ho6 k_ hk).2; omega
          replace hB := gb_tr hB hs12
          replace hS := hS.gb hs12
          replace hD := hD.gb hs12
          replace hb2 := hb2.gb hs12
          replace hlo1 := Nat.le_trans hlo1 hs12.size
          replace hb4 := hb4.gb hs12
          replace hlo2 := Nat.le_trans hlo2 hs12.size
          replace hb5 := hb5.gb hs12
          replace hlo3 := Nat.le_trans hlo3 hs12.size
          replace ho6 := own_gb ho6 hs12
          refine T_append (xs := (((sencs (ps (l.take k))) ++ ([(bt (l[k].p.kind))])) ++ (fenc (encs ((l[k]).p.ops)))) ++ (fenc ((l[k]).p.keep))) (ys := [(bt (l[k].p.torn + 1)), (bt (l[k].p.cut))]) EncB slc42 rfl rfl ho6 (Blk.sli (m := 0) hb6) (by have h_ := sencs_take hok k; rw [ps_take, ps_len] at h_; have h2_ := encs_le (sall hok (show k < l.length by omega)); have h3_ := fenc_len (encs l[k].p.ops); have h4_ := fenc_len l[k].p.keep; have h5_ := (sOk_keep (sall hok (show k < l.length by omega))).1; simp at *; omega) (by have := hB.size; omega) rfl ?_
          intro A_7 c_7 w14 ho7 hs13 hat4
          replace hB := gb_tro hB ho6 hs13 (Nat.le_refl _)
          replace hS := hS.grown hs13 (fun k hk => .inr (Nat.le_trans (Nat.le_refl _) (World.ownsRow.lt ho6 k hk).1))
          replace hD := hD.own ho6 (Nat.le_refl _) hs13
          replace hb2 := blk_own hb2 ho6 rfl hs13
          replace hlo1 := Nat.le_trans hlo1 hs13.size
          replace hb4 := blk_own hb4 ho6 rfl hs13
          replace hlo2 := Nat.le_trans hlo2 hs13.size
          replace hb5 := blk_own hb5 ho6 rfl hs13
          replace hlo3 := Nat.le_trans hlo3 hs13.size
          refine L_run (R_assign rfl) rfl ?_
          refine L_nil (N_then (C_seq (C_reg ?_)))
          refine L_run (R_field (r := 0) rfl fld65_0 rfl) rfl ?_
          refine L_run (R_load1 rfl scl3 (hb2.cell (i := 0) rfl)) rfl ?_
          refine L_run (R_eql rfl rfl) rfl ?_
          refine L_nil (N_then ?_)
          refine C_if rfl (fun h4 => ?_) (fun h4 => ?_)
          · refine C_reg ?_
            refine L_run (R_move rfl) rfl ?_
            refine L_run (R_field (r := 1) rfl fld65_1 rfl) rfl ?_
            refine L_run (R_load1 rfl scl3 (hb2.cell (i := 1) rfl)) rfl ?_
            refine L_run (R_eqv (R_conv rfl any3 int5) (v' := .int .u8 ((bt (l[k].p.n)).toNat : Int)) (u8_ofI _)) rfl ?_
            refine L_buildSlice (pv := [(0, .int .u8 ((bt (l[k].p.n)).toNat : Int))]) (cs := [.int .u8 ((bt (l[k].p.n)).toNat : Int)]) slc42 zer5 rfl rfl (by kernel_rfl) rfl ?_
            intro g7 w15 eg6 hb7 hs14 hz7
            have ge9 : w.heap.size ≤ g7 := eg_ge hB eg6
            have lt8 : g2 < g7 := lt_of_eg hb2.lt eg6
            have lt9 : g4 < g7 := lt_of_eg hb4.lt eg6
            have lt10 : g5 < g7 := lt_of_eg hb5.lt eg6
            have hap3 : ∀ k_, (Value.slice A_7 (((((sencs (ps (l.take k))) ++ ([(bt (l[k].p.kind))])) ++ (fenc (encs ((l[k]).p.ops)))) ++ (fenc ((l[k]).p.keep))) ++ ([(bt (l[k].p.torn + 1)), (bt (l[k].p.cut))])).length c_7).ownBlock = some k_ → k_ ≠ g7 := fun k_ hk => by have h_ := (World.ownsRow.lt ho7 k_ hk).2; omega
            replace hB := gb_tr hB hs14
            replace hS := hS.gb hs14
            replace hD := hD.gb hs14
            replace hb2 := hb2.gb hs14
            replace hlo1 := Nat.le_trans hlo1 hs14.size
            replace hb4 := hb4.gb hs14
            replace hlo2 := Nat.le_trans hlo2 hs14.size
            replace hb5 := hb5.gb hs14
            replace hlo3 := Nat.le_trans hlo3 hs14.size
            replace ho7 := own_gb ho7 hs14
            refine T_append (xs := ((((sencs (ps (l.take k))) ++ ([(bt (l[k].p.kind))])) ++ (fenc (encs ((l[k]).p.ops)))) ++ (fenc ((l[k]).p.keep))) ++ ([(bt (l[k].p.torn + 1)), (bt (l[k].p.cut))])) (ys := [(bt (l[k].p.n))]) EncB slc42 rfl rfl ho7 (Blk.sli (m := 0) hb7) (by have h_ := sencs_take hok k; rw [ps_take, ps_len] at h_; have h2_ := encs_le (sall hok (show k < l.length by omega)); have h3_ := fenc_len (encs l[k].p.ops); have h4_ := fenc_len l[k].p.keep; have h5_ := (sOk_keep (sall hok (show k < l.length by omega))).1; simp at *; omega) (by have := hB.size; omega) rfl ?_
            intro A_8 c_8 w16 ho8 hs15 hat5
            replace hB := gb_tro hB ho7 hs15 (Nat.le_refl _)
            replace hS := hS.grown hs15 (fun k hk => .inr (Nat.le_trans (Nat.le_refl _) (World.ownsRow.lt ho7 k hk).1))
            replace hD := hD.own ho7 (Nat.le_refl _) hs15
            replace hb2 := blk_own hb2 ho7 rfl hs15
            replace hlo1 := Nat.le_trans hlo1 hs15.size
            replace hb4 := blk_own hb4 ho7 rfl hs15
            replace hlo2 := Nat.le_trans hlo2 hs15.size
            replace hb5 := blk_own hb5 ho7 rfl hs15
            replace hlo3 := Nat.le_trans hlo3 hs15.size
            refine L_run (R_assign rfl) rfl ?_
            refine L_nil (N_in (N_then (C_reg ?_)))
            refine L_run (R_move rfl) rfl ?_
            refine L_run (R_add64 rfl rfl (by first | omega | (have h_ := sall hok (show k < l.length by omega); unfold sOk SOk at h_; omega))) rfl ?_
            refine L_run (R_assign rfl) rfl ?_
            refine L_nil (N_then ?_)
            have e_ : (((((sencs (ps (l.take k))) ++ ([(bt (l[k].p.kind))])) ++ (fenc (encs ((l[k]).p.ops)))) ++ (fenc ((l[k]).p.keep))) ++ ([(bt (l[k].p.torn + 1)), (bt (l[k].p.cut))])) ++ ([(bt (l[k].p.n))]) = sencs (ps (l.take (k + 1))) := by
              rw [ps_sEnc (show k < l.length by omega)]; unfold sEnc
              first
                | (exfalso; omega)
                | (rw [if_pos (by omega), if_neg (by omega), if_neg (by omega)]; simp; done)
                | (rw [if_neg (by omega), if_pos (by omega), if_neg (by omega)]; simp; done)
                | (rw [if_neg (by omega), if_neg (by omega), if_pos (by omega)]; simp; done)
                | (rw [if_neg (by omega), if_neg (by omega), if_neg (by omega)]; simp; done)
            rw [e_] at ho8 ⊢
            exact ⟨l.length - (k + 1), by omega, _, A_8, c_8, (k + 1), Ac_frg ⟨rfl, rfl, rfl, (agr rfl (by first | rfl | (congr 1; omega) | (congr 1; simp; done) | (congr 1; simp only [IntKind.wrap_u64, IntKind.wrap_i64, IntKind.wrap_u8]; omega) | (congr 1 <;> omega))), trivial⟩, hB, hS, hD, ho8, (by omega), rfl⟩
          · refine C_skip (N_in (N_then (C_reg ?_)))
            refine L_run (R_move rfl) rfl ?_
            refine L_run (R_add64 rfl rfl (by first | omega | (have h_ := sall hok (show k < l.length by omega); unfold sOk SOk at h_; omega))) rfl ?_
            refine L_run (R_assign rfl) rfl ?_
            refine L_nil (N_then ?_)
            have e_ : ((((sencs (ps (l.take k))) ++ ([(bt (l[k].p.kind))])) ++ (fenc (encs ((l[k]).p.ops)))) ++ (fenc ((l[k]).p.keep))) ++ ([(bt (l[k].p.torn + 1)), (bt (l[k].p.cut))]) = sencs (ps (l.take (k + 1))) := by
              rw [ps_sEnc (show k < l.length by omega)]; unfold sEnc
              first
                | (exfalso; omega)
                | (rw [if_pos (by omega), if_neg (by omega), if_neg (by omega)]; simp; done)
                | (rw [if_neg (by omega), if_pos (by omega), if_neg (by omega)]; simp; done)
                | (rw [if_neg (by omega), if_neg (by omega), if_pos (by omega)]; simp; done)
                | (rw [if_neg (by omega), if_neg (by omega), if_neg (by omega)]; simp; done)
            rw [e_] at ho7 ⊢
            exact ⟨l.length - (k + 1), by omega, _, A_7, c_7, (k + 1), Ac_frg ⟨rfl, rfl, rfl, (agr rfl (by first | rfl | (congr 1; omega) | (congr 1; simp; done) | (congr 1; simp only [IntKind.wrap_u64, IntKind.wrap_i64, IntKind.wrap_u8]; omega) | (congr 1 <;> omega))), trivial⟩, hB, hS, hD, ho7, (by omega), rfl⟩
        · refine C_skip (N_then (C_seq (C_reg ?_)))
          refine L_run (R_field (r := 0) rfl fld65_0 rfl) rfl ?_
          refine L_run (R_load1 rfl scl3 (hb2.cell (i := 0) rfl)) rfl ?_
          refine L_run (R_eql rfl rfl) rfl ?_
          refine L_nil (N_then ?_)
          refine C_if rfl (fun h5 => ?_) (fun h5 => ?_)
          · refine C_reg ?_
            refine L_run (R_move rfl) rfl ?_
            refine L_run (R_field (r := 1) rfl fld65_1 rfl) rfl ?_
            refine L_run (R_load1 rfl scl3 (hb2.cell (i := 1) rfl)) rfl ?_
            refine L_run (R_eqv (R_conv rfl any3 int5) (v' := .int .u8 ((bt (l[k].p.n)).toNat : Int)) (u8_ofI _)) rfl ?_
            refine L_buildSlice (pv := [(0, .int .u8 ((bt (l[k].p.n)).toNat : Int))]) (cs := [.int .u8 ((bt (l[k].p.n)).toNat : Int)]) slc42 zer5 rfl rfl (by kernel_rfl) rfl ?_
            intro g8 w17 eg7 hb8 hs16 hz8
            have ge10 : w.heap.size ≤ g8 := eg_ge hB eg7
            have lt11 : g2 < g8 := lt_of_eg hb2.lt eg7
            have lt12 : g4 < g8 := lt_of_eg hb4.lt eg7
            have hap4 : ∀ k_, (Value.slice A_4 (((sencs (ps (l.take k))) ++ ([(bt (l[k].p.kind))])) ++ (fenc (encs ((l[k]).p.ops)))).length c_4).ownBlock = some k_ → k_ ≠ g8 := fun k_ hk => by have h_ := (World.ownsRow.lt ho4 k_ hk).2; omega
            replace hB := gb_tr hB hs16
            replace hS := hS.gb hs16
            replace hD := hD.gb hs16
            replace hb2 := hb2.gb hs16
            replace hlo1 := Nat.le_trans hlo1 hs16.size
            replace hb4 := hb4.gb hs16
            replace hlo2 := Nat.le_trans hlo2 hs16.size
            replace ho4 := own_gb ho4 hs16
            refine T_append (xs := ((sencs (ps (l.take k))) ++ ([(bt (l[k].p.kind))])) ++ (fenc (encs ((l[k]).p.ops)))) (ys := [(bt (l[k].p.n))]) EncB slc42 rfl rfl ho4 (Blk.sli (m := 0) hb8) (by have h_ := sencs_take hok k; rw [ps_take, ps_len] at h_; have h2_ := encs_le (sall hok (show k < l.length by omega)); have h3_ := fenc_len (encs l[k].p.ops); have h4_ := fenc_len l[k].p.keep; have h5_ := (sOk_keep (sall hok (show k < l.length by omega))).1; simp at *; omega) (by have := hB.size; omega) rfl ?_
            intro A_9 c_9 w18 ho9 hs17 hat6
            replace hB := gb_tro hB ho4 hs17 (Nat.le_refl _)
            replace hS := hS.grown hs17 (fun k hk => .inr (Nat.le_trans (Nat.le_refl _) (World.ownsRow.lt ho4 k hk).1))
            replace hD := hD.own ho4 (Nat.le_refl _) hs17
            replace hb2 := blk_own hb2 ho4 rfl hs17
            replace hlo1 := Nat.le_trans hlo1 hs17.size
            replace hb4 := blk_own hb4 ho4 rfl hs17
            replace hlo2 := Nat.le_trans hlo2 hs17.size
            refine L_run (R_assign rfl) rfl ?_
            refine L_nil (N_in (N_then (C_reg ?_)))
            refine L_run (R_move rfl) rfl ?_
            refine L_run (R_add64 rfl rfl (by first | omega | (have h_ := sall hok (show k < l.length by omega); unfold sOk SOk at h_; omega))) rfl ?_
            refine L_run (R_assign rfl) rfl ?_
            refine L_nil (N_then ?_)
            have e_ : (((sencs (ps (l.take k))) ++ ([(bt (l[k].p.kind))])) ++ (fenc (encs ((l[k]).p.ops)))) ++ ([(bt (l[k].p.n))]) = sencs (ps (l.take (k + 1))) := by
              rw [ps_sEnc (show k < l.length by omega)]; unfold sEnc
              first
                | (exfalso; omega)
                | (rw [if_pos (by omega), if_neg (by omega), if_neg (by omega)]; simp; done)
                | (rw [if_neg (by omega), if_pos (by omega), if_neg (by omega)]; simp; done)
                | (rw [if_neg (by omega), if_neg (by omega), if_pos (by omega)]; simp; done)
                | (rw [if_neg (by omega), if_neg (by omega), if_neg (by omega)]; simp; done)
            rw [e_] at ho9 ⊢
            exact ⟨l.length - (k + 1), by omega, _, A_9, c_9, (k + 1), Ac_frg ⟨rfl, rfl, rfl, (agr rfl (by first | rfl | (congr 1; omega) | (congr 1; simp; done) | (congr 1; simp only [IntKind.wrap_u64, IntKind.wrap_i64, IntKind.wrap_u8]; omega) | (congr 1 <;> omega))), trivial⟩, hB, hS, hD, ho9, (by omega), rfl⟩
          · refine C_skip (N_in (N_then (C_reg ?_)))
            refine L_run (R_move rfl) rfl ?_
            refine L_run (R_add64 rfl rfl (by first | omega | (have h_ := sall hok (show k < l.length by omega); unfold sOk SOk at h_; omega))) rfl ?_
            refine L_run (R_assign rfl) rfl ?_
            refine L_nil (N_then ?_)
            have e_ : ((sencs (ps (l.take k))) ++ ([(bt (l[k].p.kind))])) ++ (fenc (encs ((l[k]).p.ops))) = sencs (ps (l.take (k + 1))) := by
              rw [ps_sEnc (show k < l.length by omega)]; unfold sEnc
              first
                | (exfalso; omega)
                | (rw [if_pos (by omega), if_neg (by omega), if_neg (by omega)]; simp; done)
                | (rw [if_neg (by omega), if_pos (by omega), if_neg (by omega)]; simp; done)
                | (rw [if_neg (by omega), if_neg (by omega), if_pos (by omega)]; simp; done)
                | (rw [if_neg (by omega), if_neg (by omega), if_neg (by omega)]; simp; done)
            rw [e_] at ho4 ⊢
            exact ⟨l.length - (k + 1), by omega, _, A_4, c_4, (k + 1), Ac_frg ⟨rfl, rfl, rfl, (agr rfl (by first | rfl | (congr 1; omega) | (congr 1; simp; done) | (congr 1; simp only [IntKind.wrap_u64, IntKind.wrap_i64, IntKind.wrap_u8]; omega) | (congr 1 <;> omega))), trivial⟩, hB, hS, hD, ho4, (by omega), rfl⟩
      · refine C_skip (N_then (C_seq (C_seq (C_reg ?_))))
        refine L_run (R_field (r := 0) rfl fld65_0 rfl) rfl ?_
        refine L_run (R_load1 rfl scl3 (hb2.cell (i := 0) rfl)) rfl ?_
        refine L_run (R_eql rfl rfl) rfl ?_
        refine L_nil (N_then ?_)
        refine C_if rfl (fun h6 => ?_) (fun h6 => ?_)
        · refine C_seq (C_reg ?_)
          refine L_run (R_move rfl) rfl ?_
          refine L_run (R_field (r := 3) rfl fld65_3 rfl) rfl ?_
          refine L_run (R_field (r := 3) rfl fld63_0 rfl) rfl ?_
          refine L_run (R_load1 rfl scl42 (hb2.cell (i := 3) rfl)) rfl ?_
          refine L_buildSlice (pv := [(0, .slice ((l[k]).ka) ((l[k]).p.keep.length) ((l[k]).kc))]) (cs := [.slice ((l[k]).ka) ((l[k]).p.keep.length) ((l[k]).kc)]) slc93 zer42 rfl rfl (by kernel_rfl) rfl ?_
          intro g9 w19 eg8 hb9 hs18 hz9
          have ge11 : w.heap.size ≤ g9 := eg_ge hB eg8
          have lt13 : g2 < g9 := lt_of_eg hb2.lt eg8
          replace hB := gb_tr hB hs18
          replace hS := hS.gb hs18
          replace hD := hD.gb hs18
          replace hb2 := hb2.gb hs18
          replace ho1 := own_gb ho1 hs18
          have ge12 : w.heap.size ≤ w19.heap.size := hB.size
          refine L_call rfl cb73 (ref04_Pack1 (xs := (l[k]).p.keep) (Blk.sli (m := 0) hb9) (hD.getK (i := k) (by first | assumption | omega | (simp; omega))) (by have h2_ := encs_le (sall hok (show k < l.length by omega)); have h5_ := (sOk_keep (sall hok (show k < l.length by omega))).1; omega)) rfl ?_
          rintro _ w20 ⟨hs19, A_10, c_10, rfl, ho10⟩
          replace hB := gb_tr hB hs19
          replace hS := hS.gb hs19
          replace hD := hD.gb hs19
          replace hb2 := hb2.gb hs19
          replace ho1 := own_gb ho1 hs19
          replace hb9 := hb9.gb hs19
          have hlo4 : w19.heap.size ≤ w20.heap.size := hs19.size
          refine T_append (xs := (sencs (ps (l.take k))) ++ ([(bt (l[k].p.kind))])) (ys := fenc ((l[k]).p.keep)) EncB slc42 rfl rfl ho1 (own_of ho10).2.2 (by have h_ := sencs_take hok k; rw [ps_take, ps_len] at h_; have h2_ := encs_le (sall hok (show k < l.length by omega)); have h3_ := fenc_len (encs l[k].p.ops); have h4_ := fenc_len l[k].p.keep; have h5_ := (sOk_keep (sall hok (show k < l.length by omega))).1; simp at *; omega) (by have := hB.size; omega) rfl ?_
          intro A_11 c_11 w21 ho11 hs20 hat7
          replace hB := gb_tro hB ho1 hs20 (Nat.le_refl _)
          replace hS := hS.grown hs20 (fun k hk => .inr (Nat.le_trans (Nat.le_refl _) (World.ownsRow.lt ho1 k hk).1))
          replace hD := hD.own ho1 (Nat.le_refl _) hs20
          replace hb2 := blk_own hb2 ho1 rfl hs20
          replace hb9 := blk_own hb9 ho1 rfl hs20
          replace hlo4 := Nat.le_trans hlo4 hs20.size
          refine L_run (R_assign rfl) rfl ?_
          refine L_nil (N_then (C_reg ?_))
          refine L_run (R_move rfl) rfl ?_
          refine L_run (R_field (r := 3) rfl fld65_3 rfl) rfl ?_
          refine L_run (R_field (r := 4) rfl fld63_1 rfl) rfl ?_
          refine L_run (R_load1 rfl scl3 (hb2.cell (i := 4) rfl)) rfl ?_
          refine L_run (R_add64 rfl rfl (by first | omega | (have h_ := sall hok (show k < l.length by omega); unfold sOk SOk at h_; omega))) rfl ?_
          refine L_run (R_eqv (R_conv rfl any3 int5) (v' := .int .u8 ((bt (l[k].p.torn + 1)).toNat : Int)) (u8_ofI _)) rfl ?_
          refine L_run (R_field (r := 3) rfl fld65_3 rfl) rfl ?_
          refine L_run (R_field (r := 5) rfl fld63_2 rfl) rfl ?_
          refine L_run (R_load1 rfl scl3 (hb2.cell (i := 5) rfl)) rfl ?_
          refine L_run (R_eqv (R_conv rfl any3 int5) (v' := .int .u8 ((bt (l[k].p.cut)).toNat : Int)) (u8_ofI _)) rfl ?_
          refine L_buildSlice (pv := [(0, .int .u8 ((bt (l[k].p.torn + 1)).toNat : Int)), (1, .int .u8 ((bt (l[k].p.cut)).toNat : Int))]) (cs := [.int .u8 ((bt (l[k].p.torn + 1)).toNat : Int), .int .u8 ((bt (l[k].p.cut)).toNat : Int)]) slc42 zer5 rfl rfl (by kernel_rfl) rfl ?_
          intro g10 w22 eg9 hb10 hs21 hz10
          have ge13 : w.heap.size ≤ g10 := eg_ge hB eg9
          have lt14 : g2 < g10 := lt_of_eg hb2.lt eg9
          have lt15 : g9 < g10 := lt_of_eg hb9.lt eg9
          have hap5 : ∀ k_, (Value.slice A_11 (((sencs (ps (l.take k))) ++ ([(bt (l[k].p.kind))])) ++ (fenc ((l[k]).p.keep))).length c_11).ownBlock = some k_ → k_ ≠ g10 := fun k_ hk => by have h_ := (World.ownsRow.lt ho11 k_ hk).2; omega
          replace hB := gb_tr hB hs21
          replace hS := hS.gb hs21
          replace hD := hD.gb hs21
          replace hb2 := hb2.gb hs21
          replace hb9 := hb9.gb hs21
          replace hlo4 := Nat.le_trans hlo4 hs21.size
          replace ho11 := own_gb ho11 hs21
          refine T_append (xs := ((sencs (ps (l.take k))) ++ ([(bt (l[k].p.kind))])) ++ (fenc ((l[k]).p.keep))) (ys := [(bt (l[k].p.torn + 1)), (bt (l[k].p.cut))]) EncB slc42 rfl rfl ho11 (Blk.sli (m := 0) hb10) (by have h_ := sencs_take hok k; rw [ps_take, ps_len] at h_; have h2_ := encs_le (sall hok (show k < l.length by omega)); have h3_ := fenc_len (encs l[k].p.ops); have h4_ := fenc_len l[k].p.keep; have h5_ := (sOk_keep (sall hok (show k < l.length by omega))).1; simp at *; omega) (by have := hB.size; omega) rfl ?_
          intro A_12 c_12 w23 ho12 hs22 hat8
          replace hB := gb_tro hB ho11 hs22 (Nat.le_refl _)
          replace hS := hS.grown hs22 (fun k hk => .inr (Nat.le_trans (Nat.le_refl _) (World.ownsRow.lt ho11 k hk).1))
          replace hD := hD.own ho11 (Nat.le_refl _) hs22
          replace hb2 := blk_own hb2 ho11 rfl hs22
          replace hb9 := blk_own hb9 ho11 rfl hs22
          replace hlo4 := Nat.le_trans hlo4 hs22.size
          refine L_run (R_assign rfl) rfl ?_
          refine L_nil (N_then (C_seq (C_reg ?_)))
          refine L_run (R_field (r := 0) rfl fld65_0 rfl) rfl ?_
          refine L_run (R_load1 rfl scl3 (hb2.cell (i := 0) rfl)) rfl ?_
          refine L_run (R_eql rfl rfl) rfl ?_
          refine L_nil (N_then ?_)
          refine C_if rfl (fun h7 => ?_) (fun h7 => ?_)
          · refine C_reg ?_
            refine L_run (R_move rfl) rfl ?_
            refine L_run (R_field (r := 1) rfl fld65_1 rfl) rfl ?_
            refine L_run (R_load1 rfl scl3 (hb2.cell (i := 1) rfl)) rfl ?_
            refine L_run (R_eqv (R_conv rfl any3 int5) (v' := .int .u8 ((bt (l[k].p.n)).toNat : Int)) (u8_ofI _)) rfl ?_
            refine L_buildSlice (pv := [(0, .int .u8 ((bt (l[k].p.n)).toNat : Int))]) (cs := [.int .u8 ((bt (l[k].p.n)).toNat : Int)]) slc42 zer5 rfl rfl (by kernel_rfl) rfl ?_
            intro g11 w24 eg10 hb11 hs23 hz11
            have ge14 : w.heap.size ≤ g11 := eg_ge hB eg10
            have lt16 : g2 < g11 := lt_of_eg hb2.lt eg10
            have lt17 : g9 < g11 := lt_of_eg hb9.lt eg10
            have hap6 : ∀ k_, (Value.slice A_12 ((((sencs (ps (l.take k))) ++ ([(bt (l[k].p.kind))])) ++ (fenc ((l[k]).p.keep))) ++ ([(bt (l[k].p.torn + 1)), (bt (l[k].p.cut))])).length c_12).ownBlock = some k_ → k_ ≠ g11 := fun k_ hk => by have h_ := (World.ownsRow.lt ho12 k_ hk).2; omega
            replace hB := gb_tr hB hs23
            replace hS := hS.gb hs23
            replace hD := hD.gb hs23
            replace hb2 := hb2.gb hs23
            replace hb9 := hb9.gb hs23
            replace hlo4 := Nat.le_trans hlo4 hs23.size
            replace ho12 := own_gb ho12 hs23
            refine T_append (xs := (((sencs (ps (l.take k))) ++ ([(bt (l[k].p.kind))])) ++ (fenc ((l[k]).p.keep))) ++ ([(bt (l[k].p.torn + 1)), (bt (l[k].p.cut))])) (ys := [(bt (l[k].p.n))]) EncB slc42 rfl rfl ho12 (Blk.sli (m := 0) hb11) (by have h_ := sencs_take hok k; rw [ps_take, ps_len] at h_; have h2_ := encs_le (sall hok (show k < l.length by omega)); have h3_ := fenc_len (encs l[k].p.ops); have h4_ := fenc_len l[k].p.keep; have h5_ := (sOk_keep (sall hok (show k < l.length by omega))).1; simp at *; omega) (by have := hB.size; omega) rfl ?_
            intro A_13 c_13 w25 ho13 hs24 hat9
            replace hB := gb_tro hB ho12 hs24 (Nat.le_refl _)
            replace hS := hS.grown hs24 (fun k hk => .inr (Nat.le_trans (Nat.le_refl _) (World.ownsRow.lt ho12 k hk).1))
            replace hD := hD.own ho12 (Nat.le_refl _) hs24
            replace hb2 := blk_own hb2 ho12 rfl hs24
            replace hb9 := blk_own hb9 ho12 rfl hs24
            replace hlo4 := Nat.le_trans hlo4 hs24.size
            refine L_run (R_assign rfl) rfl ?_
            refine L_nil (N_in (N_then (C_reg ?_)))
            refine L_run (R_move rfl) rfl ?_
            refine L_run (R_add64 rfl rfl (by first | omega | (have h_ := sall hok (show k < l.length by omega); unfold sOk SOk at h_; omega))) rfl ?_
            refine L_run (R_assign rfl) rfl ?_
            refine L_nil (N_then ?_)
            have e_ : ((((sencs (ps (l.take k))) ++ ([(bt (l[k].p.kind))])) ++ (fenc ((l[k]).p.keep))) ++ ([(bt (l[k].p.torn + 1)), (bt (l[k].p.cut))])) ++ ([(bt (l[k].p.n))]) = sencs (ps (l.take (k + 1))) := by
              rw [ps_sEnc (show k < l.length by omega)]; unfold sEnc
              first
                | (exfalso; omega)
                | (rw [if_pos (by omega), if_neg (by omega), if_neg (by omega)]; simp; done)
                | (rw [if_neg (by omega), if_pos (by omega), if_neg (by omega)]; simp; done)
                | (rw [if_neg (by omega), if_neg (by omega), if_pos (by omega)]; simp; done)
                | (rw [if_neg (by omega), if_neg (by omega), if_neg (by omega)]; simp; done)
            rw [e_] at ho13 ⊢
            exact ⟨l.length - (k + 1), by omega, _, A_13, c_13, (k + 1), Ac_frg ⟨rfl, rfl, rfl, (agr rfl (by first | rfl | (congr 1; omega) | (congr 1; simp; done) | (congr 1; simp only [IntKind.wrap_u64, IntKind.wrap_i64, IntKind.wrap_u8]; omega) | (congr 1 <;> omega))), trivial⟩, hB, hS, hD, ho13, (by omega), rfl⟩
          · refine C_skip (N_in (N_then (C_reg ?_)))
            refine L_run (R_move rfl) rfl ?_
            refine L_run (R_add64 rfl rfl (by first | omega | (have h_ := sall hok (show k < l.length by omega); unfold sOk SOk at h_; omega))) rfl ?_
            refine L_run (R_assign rfl) rfl ?_
            refine L_nil (N_then ?_)
            have e_ : (((sencs (ps (l.take k))) ++ ([(bt (l[k].p.kind))])) ++ (fenc ((l[k]).p.keep))) ++ ([(bt (l[k].p.torn + 1)), (bt (l[k].p.cut))]) = sencs (ps (l.take (k + 1))) := by
              rw [ps_sEnc (show k < l.length by omega)]; unfold sEnc
              first
                | (exfalso; omega)
                | (rw [if_pos (by omega), if_neg (by omega), if_neg (by omega)]; simp; done)
                | (rw [if_neg (by omega), if_pos (by omega), if_neg (by omega)]; simp; done)
                | (rw [if_neg (by omega), if_neg (by omega), if_pos (by omega)]; simp; done)
                | (rw [if_neg (by omega), if_neg (by omega), if_neg (by omega)]; simp; done)
            rw [e_] at ho12 ⊢
            exact ⟨l.length - (k + 1), by omega, _, A_12, c_12, (k + 1), Ac_frg ⟨rfl, rfl, rfl, (agr rfl (by first | rfl | (congr 1; omega) | (congr 1; simp; done) | (congr 1; simp only [IntKind.wrap_u64, IntKind.wrap_i64, IntKind.wrap_u8]; omega) | (congr 1 <;> omega))), trivial⟩, hB, hS, hD, ho12, (by omega), rfl⟩
        · refine C_skip (N_then (C_seq (C_reg ?_)))
          refine L_run (R_field (r := 0) rfl fld65_0 rfl) rfl ?_
          refine L_run (R_load1 rfl scl3 (hb2.cell (i := 0) rfl)) rfl ?_
          refine L_run (R_eql rfl rfl) rfl ?_
          refine L_nil (N_then ?_)
          refine C_if rfl (fun h8 => ?_) (fun h8 => ?_)
          · refine C_reg ?_
            refine L_run (R_move rfl) rfl ?_
            refine L_run (R_field (r := 1) rfl fld65_1 rfl) rfl ?_
            refine L_run (R_load1 rfl scl3 (hb2.cell (i := 1) rfl)) rfl ?_
            refine L_run (R_eqv (R_conv rfl any3 int5) (v' := .int .u8 ((bt (l[k].p.n)).toNat : Int)) (u8_ofI _)) rfl ?_
            refine L_buildSlice (pv := [(0, .int .u8 ((bt (l[k].p.n)).toNat : Int))]) (cs := [.int .u8 ((bt (l[k].p.n)).toNat : Int)]) slc42 zer5 rfl rfl (by kernel_rfl) rfl ?_
            intro g12 w26 eg11 hb12 hs25 hz12
            have ge15 : w.heap.size ≤ g12 := eg_ge hB eg11
            have lt18 : g2 < g12 := lt_of_eg hb2.lt eg11
            have hap7 : ∀ k_, (Value.slice A_1 ((sencs (ps (l.take k))) ++ ([(bt (l[k].p.kind))])).length c_1).ownBlock = some k_ → k_ ≠ g12 := fun k_ hk => by have h_ := (World.ownsRow.lt ho1 k_ hk).2; omega
            replace hB := gb_tr hB hs25
            replace hS := hS.gb hs25
            replace hD := hD.gb hs25
            replace hb2 := hb2.gb hs25
            replace ho1 := own_gb ho1 hs25
            refine T_append (xs := (sencs (ps (l.take k))) ++ ([(bt (l[k].p.kind))])) (ys := [(bt (l[k].p.n))]) EncB slc42 rfl rfl ho1 (Blk.sli (m := 0) hb12) (by have h_ := sencs_take hok k; rw [ps_take, ps_len] at h_; have h2_ := encs_le (sall hok (show k < l.length by omega)); have h3_ := fenc_len (encs l[k].p.ops); have h4_ := fenc_len l[k].p.keep; have h5_ := (sOk_keep (sall hok (show k < l.length by omega))).1; simp at *; omega) (by have := hB.size; omega) rfl ?_
            intro A_14 c_14 w27 ho14 hs26 hat10
            replace hB := gb_tro hB ho1 hs26 (Nat.le_refl _)
            replace hS := hS.grown hs26 (fun k hk => .inr (Nat.le_trans (Nat.le_refl _) (World.ownsRow.lt ho1 k hk).1))
            replace hD := hD.own ho1 (Nat.le_refl _) hs26
            replace hb2 := blk_own hb2 ho1 rfl hs26
            refine L_run (R_assign rfl) rfl ?_
            refine L_nil (N_in (N_then (C_reg ?_)))
            refine L_run (R_move rfl) rfl ?_
            refine L_run (R_add64 rfl rfl (by first | omega | (have h_ := sall hok (show k < l.length by omega); unfold sOk SOk at h_; omega))) rfl ?_
            refine L_run (R_assign rfl) rfl ?_
            refine L_nil (N_then ?_)
            have e_ : ((sencs (ps (l.take k))) ++ ([(bt (l[k].p.kind))])) ++ ([(bt (l[k].p.n))]) = sencs (ps (l.take (k + 1))) := by
              rw [ps_sEnc (show k < l.length by omega)]; unfold sEnc
              first
                | (exfalso; omega)
                | (rw [if_pos (by omega), if_neg (by omega), if_neg (by omega)]; simp; done)
                | (rw [if_neg (by omega), if_pos (by omega), if_neg (by omega)]; simp; done)
                | (rw [if_neg (by omega), if_neg (by omega), if_pos (by omega)]; simp; done)
                | (rw [if_neg (by omega), if_neg (by omega), if_neg (by omega)]; simp; done)
            rw [e_] at ho14 ⊢
            exact ⟨l.length - (k + 1), by omega, _, A_14, c_14, (k + 1), Ac_frg ⟨rfl, rfl, rfl, (agr rfl (by first | rfl | (congr 1; omega) | (congr 1; simp; done) | (congr 1; simp only [IntKind.wrap_u64, IntKind.wrap_i64, IntKind.wrap_u8]; omega) | (congr 1 <;> omega))), trivial⟩, hB, hS, hD, ho14, (by omega), rfl⟩
          · refine C_skip (N_in (N_then (C_reg ?_)))
            refine L_run (R_move rfl) rfl ?_
            refine L_run (R_add64 rfl rfl (by first | omega | (have h_ := sall hok (show k < l.length by omega); unfold sOk SOk at h_; omega))) rfl ?_
            refine L_run (R_assign rfl) rfl ?_
            refine L_nil (N_then ?_)
            have e_ : (sencs (ps (l.take k))) ++ ([(bt (l[k].p.kind))]) = sencs (ps (l.take (k + 1))) := by
              rw [ps_sEnc (show k < l.length by omega)]; unfold sEnc
              first
                | (exfalso; omega)
                | (rw [if_pos (by omega), if_neg (by omega), if_neg (by omega)]; simp; done)
                | (rw [if_neg (by omega), if_pos (by omega), if_neg (by omega)]; simp; done)
                | (rw [if_neg (by omega), if_neg (by omega), if_pos (by omega)]; simp; done)
                | (rw [if_neg (by omega), if_neg (by omega), if_neg (by omega)]; simp; done)
            rw [e_] at ho1 ⊢
            exact ⟨l.length - (k + 1), by omega, _, A_1, c_1, (k + 1), Ac_frg ⟨rfl, rfl, rfl, (agr rfl (by first | rfl | (congr 1; omega) | (congr 1; simp; done) | (congr 1; simp only [IntKind.wrap_u64, IntKind.wrap_i64, IntKind.wrap_u8]; omega) | (congr 1 <;> omega))), trivial⟩, hB, hS, hD, ho1, (by omega), rfl⟩
    · refine C_exit (X_then (X_then (X_hit (N_then (C_seq (C_reg ?_))))))
      refine L_run (R_move rfl) rfl ?_
      refine L_run (R_assign rfl) rfl ?_
      refine L_nil (N_then (C_ret ?_))
      refine ret1 Try.results56 rfl ?_
      rw [List.take_of_length_le (by omega)] at ho ⊢; exact ⟨hB, _, _, rfl, (own_lo ho (Nat.le_refl _))⟩

end Go.Proofs.Ytnggbodilhpohaa
