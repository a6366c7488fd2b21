/-
  Contracts of the reference 42: Decode.
-/
import Derived.Test.YtbmohojdlgedpaaKb
namespace Go.Proofs.Ytbmohojdlgedpaa
open Go.RowKit Gw Pl
set_option linter.unusedVariables false
set_option linter.unusedSimpArgs false
theorem cb58 : callB Try.prog 58 = true := by kernel_rfl
theorem cb8 : callB Try.prog 8 = true := by kernel_rfl
theorem slc127 : slcB Try.prog 127 9 1 16 = true := by kernel_rfl
theorem zer9 : (Try.prog.info? 9).bind (·.zero) = some (.string (⟨#[]⟩)) := by kernel_rfl
def StR (bs : List UInt8) (wb ib : Bool) (ls : List ByteArray) (at_ : Nat) : Nat → Prop
  | 0 => ls = [] ∧ at_ = 1
  | 1 => ls = [(d1 bs).1] ∧ (d1 bs).2.1 = 0 ∧ bs.drop at_ = (d1 bs).2.2
  | 2 => ls = [(d1 bs).1, (d2 bs wb).1] ∧ (d2 bs wb).2.1 = 0 ∧ bs.drop at_ = (d2 bs wb).2.2
  | _ => ls = [(d1 bs).1, (d2 bs wb).1, (d3 bs wb ib).1] ∧ (d3 bs wb ib).2.1 = 0 ∧ bs.drop at_ = (d3 bs wb ib).2.2
theorem i03 {i : Nat} (h : i ≤ 3) : i = 0 ∨ i = 1 ∨ i = 2 ∨ i = 3 := by omega
theorem d1_go {bs : List UInt8} : d1 bs = (⟨(fget (bs.drop 1)).1.toArray⟩, (fget (bs.drop 1)).2.2, (bs.drop 1).drop (fget (bs.drop 1)).2.1) := decT_go (by simp)
theorem d2_go {bs : List UInt8} {at_ : Nat} (h : (d1 bs).2.1 = 0) (hd : bs.drop at_ = (d1 bs).2.2) : d2 bs true = (⟨(fget (bs.drop at_)).1.toArray⟩, (fget (bs.drop at_)).2.2, (bs.drop at_).drop (fget (bs.drop at_)).2.1) := by rw [hd]; exact decT_go (by simp [h])
theorem d2_no {bs : List UInt8} : d2 bs false = (⟨#[]⟩, (d1 bs).2.1, (d1 bs).2.2) := decT_no (.inr rfl)
theorem d3_go {bs : List UInt8} {wb : Bool} {at_ : Nat} (h : (d2 bs wb).2.1 = 0) (hd : bs.drop at_ = (d2 bs wb).2.2) : d3 bs wb true = (⟨(fget (bs.drop at_)).1.toArray⟩, (fget (bs.drop at_)).2.2, (bs.drop at_).drop (fget (bs.drop at_)).2.1) := by rw [hd]; exact decT_go (by simp [h])
theorem d3_no {bs : List UInt8} {wb : Bool} : d3 bs wb false = (⟨#[]⟩, (d2 bs wb).2.1, (d2 bs wb).2.2) := decT_no (.inr rfl)
theorem d2_err {bs : List UInt8} {wb : Bool} (h : (d1 bs).2.1 ≠ 0) : (d2 bs wb).2.1 = (d1 bs).2.1 := by unfold d2; rw [decT_no (.inl h)]
theorem d3_err {bs : List UInt8} {wb ib : Bool} (h : (d2 bs wb).2.1 ≠ 0) : (d3 bs wb ib).2.1 = (d2 bs wb).2.1 := by unfold d3; rw [decT_no (.inl h)]
theorem wasR {c : UInt8} : Value.bool (decide (((c.toNat % 2 : Nat) : Int) = 1)) = .bool (wasB c) := by
  congr 1; unfold wasB; exact decide_eq_decide.2 (by omega)
theorem isR {c : UInt8} : Value.bool (decide ((1 : Int) < (c.toNat : Int))) = .bool (isB c) := by
  congr 1; unfold isB; exact decide_eq_decide.2 (by omega)
theorem rem2 (c : UInt8) : Value.int .u8 (Int.tmod (c.toNat : Int) 2) = .int .u8 ((c.toNat % 2 : Nat) : Int) := congrArg _ (tmodn c.toNat 2)
theorem refdec_ok {w : World} {t1 lo hi : Nat} {A : Option Addr} {c : Nat} {bs : List UInt8} (hS : Sli t1 lo hi w A (fl encB bs)) (hl : bs.length ≤ 1000000) (hc : bs.length ≤ c) :
    Runs Try.prog 42 #[.slice A bs.length c] w (fun v_ w' => w.grownBy w' none ∧ v_ = .tuple #[.agg (encC (dec bs).1).toArray, .int .i64 (dec bs).2]) := by
 have hB := gb_refl w none
 replace hS := hS.top
 refine enter Try.func42 Try.ntmps42 rfl rfl ?_
 refine C_seq (C_reg rfl ?_)
 refine L_alloc (cs := [.string (⟨#[]⟩), .bool false, .bool false, .string (⟨#[]⟩), .string (⟨#[]⟩), .int .i64 0]) zer34 rfl rfl ?_
 intro g1 w1 eg1 hb1 hs1 hz1
 have ge1 : w.heap.size ≤ g1 := eg_ge hB eg1
 replace hB := gb_tr hB hs1
 replace hS := hS.gb hs1
 refine L_run (R_assign rfl) rfl ?_
 refine L_nil (N_then (C_seq (C_seq (C_reg rfl ?_))))
 refine L_run (R_move rfl) rfl ?_
 refine L_run (R_lenSl rfl slc63) rfl ?_
 refine L_run (R_eql rfl rfl) rfl ?_
 refine L_nil (N_then ?_)
 refine C_if rfl (fun h1 => ?_) (fun h1 => ?_)
 ·refine C_seq (C_reg rfl ?_)
  refine L_run (R_build (pv := []) (cs := [.string (⟨#[]⟩), .bool false, .bool false, .string (⟨#[]⟩), .string (⟨#[]⟩), .int .i64 0]) rfl (by kernel_rfl)) rfl ?_
  refine L_stA (vs := [.string (⟨#[]⟩), .bool false, .bool false, .string (⟨#[]⟩), .string (⟨#[]⟩), .int .i64 0]) rfl rfl rfl sz34 rfl hb1 rfl ?_
  intro w2 hb2 hs2 hz2
  replace hB := gb_trg hB hs2 ge1
  replace hS := hS.old hs2 ge1
  refine L_run (R_assign rfl) rfl ?_
  refine L_nil (N_then (C_ret (R_then ?_)))
  refine retC1 (vs := [.string (⟨#[]⟩), .bool false, .bool false, .string (⟨#[]⟩), .string (⟨#[]⟩), .int .i64 0]) Try.results42 rfl agg34 (At.pre (hb2.at_ 0) rfl) rfl rfl ?_
  have hb0_ : bs = [] := List.eq_nil_of_length_eq_zero (by omega)
  subst hb0_; exact ⟨hB, rfl⟩
 ·refine C_skip (N_then (C_seq (C_seq (C_reg rfl ?_))))
  refine L_run (R_move rfl) rfl ?_
  have hl1 : 0 < bs.length := by first | omega | (simp; omega)
  refine T_index (xs := bs) (i := 0) EncB rfl rfl (by first | rfl | omega) slc63 hl1 hS rfl ?_
  intro g2 o1 ha1
  refine L_run (R_load1 rfl scl5 (ha1 0 _ rfl)) rfl ?_
  refine L_run (R_gtr rfl rfl) rfl ?_
  refine L_nil (N_then ?_)
  refine C_if rfl (fun h2 => ?_) (fun h2 => ?_)
  ·refine C_seq (C_reg rfl ?_)
   refine L_run (R_build (pv := []) (cs := [.string (⟨#[]⟩), .bool false, .bool false, .string (⟨#[]⟩), .string (⟨#[]⟩), .int .i64 0]) rfl (by kernel_rfl)) rfl ?_
   refine L_stA (vs := [.string (⟨#[]⟩), .bool false, .bool false, .string (⟨#[]⟩), .string (⟨#[]⟩), .int .i64 0]) rfl rfl rfl sz34 rfl hb1 rfl ?_
   intro w3 hb3 hs3 hz3
   replace hB := gb_trg hB hs3 ge1
   replace hS := hS.old hs3 ge1
   refine L_run (R_assign rfl) rfl ?_
   refine L_nil (N_then (C_ret (R_then ?_)))
   refine retC1 (vs := [.string (⟨#[]⟩), .bool false, .bool false, .string (⟨#[]⟩), .string (⟨#[]⟩), .int .i64 0]) Try.results42 rfl agg34 (At.pre (hb3.at_ 0) rfl) rfl rfl ?_
   rw [dec_b (by omega) (by omega)]; exact ⟨hB, rfl⟩
  ·refine C_skip (N_then (C_seq ?_))
   refine C_draw2 rfl mix ?_
   intro w4 hs4 hz4
   replace hB := gb_tr hB hs4
   replace hS := hS.gb hs4
   replace hb1 := hb1.gb hs4
   replace ha1 := At.gb ha1 hs4 (by simp)
   have hl2 : 0 < bs.length := by first | omega | (simp; omega)
   obtain ⟨g3, o2, r1, eA1, er1, ha2⟩ := Sli.place' (xs := bs) (i := 0) EncB hS hl2 rfl
   refine ⟨fun W_ => At W_ g3 r1 [.int .u8 ((bs[0]).toNat : Int)] ∧ True, [0, 1, 2, 3, 4, 5, 6, 7, 8, 9], ?_⟩
   refine T_tk (i := 0) rfl (Y_of (fun _ _ => R_move rfl)) ⟨ha2, trivial⟩ rfl ?_
   refine T_tk (i := 1) rfl (Y_of (fun _ _ => R_indexE rfl rfl (by first | rfl | omega) slc63 hl2 eA1 er1)) ⟨ha2, trivial⟩ rfl ?_
   refine T_tk (i := 2) rfl (Y_of (fun _ ⟨ha2, _⟩ => R_load1 rfl scl5 (ha2 0 _ rfl))) ⟨ha2, trivial⟩ rfl ?_
   refine T_tk (i := 3) rfl (Y_of (fun _ _ => R_eqv (R_rem rfl rfl (by first | decide | omega)) (v' := .int .u8 ((bs[0].toNat % 2 : Nat) : Int)) (rem2 _))) ⟨ha2, trivial⟩ rfl ?_
   refine T_tk (i := 4) rfl (Y_of (fun _ _ => R_eqv (R_eql rfl rfl) (v' := .bool (wasB (bs[0]))) (wasR))) ⟨ha2, trivial⟩ rfl ?_
   refine T_tk (i := 5) rfl (Y_of (fun _ _ => R_move rfl)) ⟨ha2, trivial⟩ rfl ?_
   refine T_tk (i := 6) rfl (Y_of (fun _ _ => R_indexE rfl rfl (by first | rfl | omega) slc63 hl2 eA1 er1)) ⟨ha2, trivial⟩ rfl ?_
   refine T_tk (i := 7) rfl (Y_of (fun _ ⟨ha2, _⟩ => R_load1 rfl scl5 (ha2 0 _ rfl))) ⟨ha2, trivial⟩ rfl ?_
   refine T_tk (i := 8) rfl (Y_of (fun _ _ => R_eqv (R_gtr rfl rfl) (v' := .bool (isB (bs[0]))) (isR))) ⟨ha2, trivial⟩ rfl ?_
   refine T_tk (i := 9) rfl (Y_of (fun _ _ => R_build (pv := [(1, .bool (wasB (bs[0]))), (2, .bool (isB (bs[0])))]) (cs := [.string (⟨#[]⟩), .bool (wasB (bs[0])), .bool (isB (bs[0])), .string (⟨#[]⟩), .string (⟨#[]⟩), .int .i64 0]) rfl (by kernel_rfl))) ⟨ha2, trivial⟩ rfl ?_
   refine T_all (rs := [10]) (by kernel_rfl) rfl (all1 (O_one rfl ?_))
   refine L_alloc (cs := [.string (⟨#[]⟩), .bool false, .bool false, .string (⟨#[]⟩), .string (⟨#[]⟩), .int .i64 0]) zer34 rfl rfl ?_
   intro g4 w5 eg2 hb4 hs5 hz5
   have ge2 : w.heap.size ≤ g4 := eg_ge hB eg2
   have lt1 : g1 < g4 := lt_of_eg hb1.lt eg2
   replace hB := gb_tr hB hs5
   replace hS := hS.gb hs5
   replace hb1 := hb1.gb hs5
   replace ha1 := At.gb ha1 hs5 (by simp)
   replace ha2 := At.gb ha2 hs5 (by simp)
   refine L_nil (N_then ⟨fun hN_ => ⟨ha2, trivial⟩, ?_⟩)
   refine T_switch (S' := fun _ => True) (qs' := []) (by kernel_rfl) ?_
   refine T_all (rs := [11]) (by kernel_rfl) rfl (all1 (O_one rfl ?_))
   refine L_stA (vs := [.string (⟨#[]⟩), .bool (wasB (bs[0])), .bool (isB (bs[0])), .string (⟨#[]⟩), .string (⟨#[]⟩), .int .i64 0]) rfl rfl rfl sz34 rfl hb4 rfl ?_
   intro w6 hb5 hs6 hz6
   replace hB := gb_trg hB hs6 ge2
   replace hS := hS.old hs6 ge2
   replace hb1 := hb1.grown hs6 (ne_lt lt1)
   refine L_nil (N_then ⟨fun hN_ => trivial, ?_⟩)
   refine T_done (by kernel_rfl) (CalmE.normal ?_)
   refine N_then (C_seq (C_reg rfl ?_))
   refine L_run (R_assign rfl) rfl ?_
   refine L_nil (N_then (C_seq (C_reg rfl ?_)))
   refine L_run (R_assign rfl) rfl ?_
   refine L_nil (N_then (C_seq (C_seq (C_reg rfl ?_))))
   refine L_run (R_assign rfl) rfl ?_
   refine L_nil (N_then (C_block ?_))
   have hb0 : ¬ bs.length = 0 := by omega
   refine C_loop (fun m_ a_ w_ => ∃ (σ_ : Nat → Value) (i : Nat) (at_ : Nat) (Aj : Option Addr) (cj : Nat) (ls : List ByteArray), a_ = Ac 119 σ_ [] [(0, .slice A bs.length c), (2, .pointer (some ⟨g1, 0, none⟩)), (3, .int .i64 0), (4, .pointer (some ⟨g4, 0, none⟩)), (5, .int .i64 (at_ : Int)), (6, .slice Aj ls.length cj), (7, .int .i64 (i : Int))] ∧ w.grownBy w_ none ∧ Sli t1 lo w.heap.size w_ A (fl encB bs) ∧ Blk w_ g1 34 [.string (⟨#[]⟩), .bool false, .bool false, .string (⟨#[]⟩), .string (⟨#[]⟩), .int .i64 0] ∧ Blk w_ g4 34 [.string (⟨#[]⟩), .bool (wasB (bs[0])), .bool (isB (bs[0])), .string (⟨#[]⟩), .string (⟨#[]⟩), .int .i64 0] ∧ World.ownsRow w_ w.heap.size 9 1 (.slice Aj ls.length cj) ls.length (fl encStr ls) ∧ (StR bs (wasB (bs[0])) (isB (bs[0])) ls at_ i) ∧ (at_ ≤ bs.length) ∧ (1 ≤ at_) ∧ (i ≤ 3) ∧ (ls.length ≤ i) ∧ 3 - i = m_) (3 - 0) ?_ ?_
   ·exact ⟨_, 0, 1, none, 0, [], Ac_frg ⟨rfl, rfl, rfl, rfl, rfl, (agr rfl (by first | rfl | (congr 1; omega) | (congr 1 <;> omega))), rfl, trivial⟩, hB, hS, hb1, hb5, (own_nil _ _ _ _), ⟨rfl, rfl⟩, (by omega), (by omega), (by omega), (Nat.zero_le _), rfl⟩
   ·clear hB
    clear hS hb1 hb5
    rintro m_ a_ w7 ⟨σ_, i, at_, Aj, cj, ls, rfl, hB, hS, hb1, hb5, hoS, hst, hpos2, hpos1, hi3, hls3, rfl⟩
    rcases i03 hi3 with rfl | rfl | rfl | rfl
    ·refine C_seq (C_seq (C_reg rfl ?_))
     refine L_run (R_move rfl) rfl ?_
     refine L_run (R_eqv (R_lss rfl rfl) (v' := .bool true) rfl) rfl ?_
     refine L_nil (N_then (C_condT rfl rfl (C_skip (N_then (C_seq (C_block (C_seq (C_seq (C_reg rfl ?_)))))))))
     refine L_run (R_move rfl) rfl ?_
     refine L_run (R_eqv (R_eql rfl rfl) (v' := .bool false) rfl) rfl ?_
     refine L_run (R_move rfl) rfl ?_
     refine L_no rfl rfl rfl rfl rfl ?_
     refine L_no rfl rfl rfl rfl rfl ?_
     refine L_no rfl rfl rfl rfl rfl ?_
     refine L_run (R_pickF rfl rfl rfl) rfl ?_
     refine L_run (R_move rfl) rfl ?_
     refine L_yes rfl rfl rfl rfl ?_
     refine L_run (R_move rfl) rfl ?_
     refine L_yes rfl rfl rfl rfl ?_
     refine L_run (R_eqv (R_eql rfl rfl) (v' := .bool false) rfl) rfl ?_
     refine L_yes rfl rfl rfl rfl ?_
     refine L_run (R_move rfl) rfl ?_
     refine L_no rfl rfl rfl rfl rfl ?_
     refine L_no rfl rfl rfl rfl rfl ?_
     refine L_no rfl rfl rfl rfl rfl ?_
     refine L_yes rfl rfl rfl rfl ?_
     refine L_run (R_pickF rfl rfl rfl) rfl ?_
     refine L_run (R_pickF rfl rfl rfl) rfl ?_
     refine L_nil (N_then (C_condF rfl rfl (C_skip (N_then (C_seq (C_reg rfl ?_))))))
     refine L_run (R_move rfl) rfl ?_
     refine L_run (R_move rfl) rfl ?_
     refine T_slL (xs := bs) (i := at_) EncB rfl rfl (by first | rfl | omega) slc63 (by first | omega | (simp; done) | (simp; omega)) hc hS rfl ?_
     intro A_1 hS_1
     have ge3 : w.heap.size ≤ w7.heap.size := hB.size
     refine L_call rfl cb58 (ref04_Get (bs := (bs.drop at_)) hS_1 (by first | omega | (simp; done) | (simp; omega)) (by first | omega | (simp; done) | (simp; omega))) rfl ?_
     rintro _ w8 ⟨hs7, A_2, c_1, rfl, ho1⟩
     replace hB := gb_tr hB hs7
     replace hS := hS.gb hs7
     replace hb1 := hb1.gb hs7
     replace hb5 := hb5.gb hs7
     replace hoS := own_gb hoS hs7
     replace hS_1 := hS_1.gb hs7
     have hlo1 : w7.heap.size ≤ w8.heap.size := hs7.size
     refine L_run (R_move rfl) rfl ?_
     refine L_run (R_extract rfl rfl) rfl ?_
     refine L_run (R_extract rfl rfl) rfl ?_
     refine L_run (R_extract rfl rfl) rfl ?_
     refine L_run (R_assign rfl) rfl ?_
     refine L_run (R_assign rfl) rfl ?_
     refine L_run (R_assign rfl) rfl ?_
     refine L_nil (N_then (C_seq (C_seq (C_reg rfl ?_))))
     refine L_run (R_move rfl) rfl ?_
     refine L_run (R_neq rfl rfl) rfl ?_
     refine L_nil (N_then ?_)
     refine C_if rfl (fun h3 => ?_) (fun h3 => ?_)
     ·refine C_seq (C_reg rfl ?_)
      refine L_run (R_build (pv := []) (cs := [.string (⟨#[]⟩), .bool false, .bool false, .string (⟨#[]⟩), .string (⟨#[]⟩), .int .i64 0]) rfl (by kernel_rfl)) rfl ?_
      refine L_run (R_move rfl) rfl ?_
      refine L_stA (vs := [.string (⟨#[]⟩), .bool false, .bool false, .string (⟨#[]⟩), .string (⟨#[]⟩), .int .i64 0]) rfl rfl rfl sz34 rfl hb1 rfl ?_
      intro w9 hb6 hs8 hz7
      replace hB := gb_trg hB hs8 ge1
      replace hS := hS.old hs8 ge1
      replace hb5 := hb5.grown hs8 (ne_gt lt1)
      replace hoS := own_other hoS hb1 rfl hs8
      replace hS_1 := hS_1.old hs8 ge1
      replace ho1 := own_other ho1 hb1 rfl hs8
      replace hlo1 := Nat.le_trans hlo1 hs8.size
      refine L_run (R_assign rfl) rfl ?_
      refine L_nil (N_then (C_ret (R_then (R_in (R_then (R_then (R_in (R_then ?_))))))))
      refine retC1 (vs := [.string (⟨#[]⟩), .bool false, .bool false, .string (⟨#[]⟩), .string (⟨#[]⟩), .int .i64 0]) Try.results42 rfl agg34 (At.pre (hb6.at_ 0) rfl) rfl rfl ?_
      have herr_ : (fget (bs.drop at_)).2.2 ≠ 0 := h3
      obtain ⟨-, hat_⟩ := hst
      subst hat_
      have q1 : (d1 bs).2.1 = (fget (bs.drop 1)).2.2 := by rw [d1_go]
      have q3 : (d3 bs (wasB (bs[0])) (isB (bs[0]))).2.1 = (fget (bs.drop 1)).2.2 := (d3_err (by rw [d2_err (by rw [q1]; exact herr_), q1]; exact herr_)).trans ((d2_err (by rw [q1]; exact herr_)).trans q1)
      have e_ := (dec_f (bs := bs) (by omega) (by omega)).trans (fin_e (show (d3 bs (wasB (bs[0])) (isB (bs[0]))).2.1 ≠ 0 from by rw [q3]; exact herr_))
      rw [e_]; exact ⟨hB, by rw [← q3]; rfl⟩
     ·refine C_skip (N_then (C_seq (C_reg rfl ?_)))
      refine L_run (R_move rfl) rfl ?_
      refine L_run (R_move rfl) rfl ?_
      refine L_run (R_b2s' (bs := (fget (bs.drop at_)).1) rfl slc63 int5 str9 (own_of ho1).2.2) rfl ?_
      refine L_buildSlice (pv := [(0, .string (⟨((fget (bs.drop at_)).1).toArray⟩))]) (cs := [.string (⟨((fget (bs.drop at_)).1).toArray⟩)]) slc127 zer9 rfl rfl (by kernel_rfl) rfl ?_
      intro g5 w10 eg3 hb7 hs9 hz8
      have ge4 : w.heap.size ≤ g5 := eg_ge hB eg3
      have lt2 : g1 < g5 := lt_of_eg hb1.lt eg3
      have lt3 : g4 < g5 := lt_of_eg hb5.lt eg3
      have hap1 : ∀ k_, (Value.slice Aj ls.length cj).ownBlock = some k_ → k_ ≠ g5 := fun k_ hk => by have h_ := (World.ownsRow.lt hoS k_ hk).2; omega
      replace hB := gb_tr hB hs9
      replace hS := hS.gb hs9
      replace hb1 := hb1.gb hs9
      replace hb5 := hb5.gb hs9
      replace hoS := own_gb hoS hs9
      replace hS_1 := hS_1.gb hs9
      replace ho1 := own_gb ho1 hs9
      replace hlo1 := Nat.le_trans hlo1 hs9.size
      refine T_append (xs := ls) (ys := [⟨((fget (bs.drop at_)).1).toArray⟩]) EncStr slc127 rfl rfl hoS (Blk.sli (m := 0) hb7) (by first | omega | (simp; done) | (simp; omega)) (by have := hB.size; omega) rfl ?_
      intro A_3 c_2 w11 ho2 hs10 hat1
      replace hB := gb_tro hB hoS hs10 (Nat.le_refl _)
      replace hS := hS.grown hs10 (fun k hk => .inr (Nat.le_trans (Nat.le_refl _) (World.ownsRow.lt hoS k hk).1))
      replace hb1 := blk_own hb1 hoS rfl hs10
      replace hb5 := blk_own hb5 hoS rfl hs10
      replace hS_1 := hS_1.grown hs10 (fun k hk => .inr (Nat.le_trans (Nat.le_refl _) (World.ownsRow.lt hoS k hk).1))
      replace ho1 := ho1.kept hs10 (own_type_ne' ho1 hoS rfl)
      replace hlo1 := Nat.le_trans hlo1 hs10.size
      refine L_run (R_assign rfl) rfl ?_
      refine L_nil (N_then (C_reg rfl ?_))
      refine L_run (R_move rfl) rfl ?_
      refine L_run (R_move rfl) rfl ?_
      have hq75 := (fget_bound (bs.drop at_)).1; simp only [List.length_drop] at hq75
      refine L_run (R_add64 rfl rfl (by omega)) rfl ?_
      refine L_run (R_assign rfl) rfl ?_
      refine L_nil (N_in (N_then (C_reg rfl ?_)))
      refine L_run (R_move rfl) rfl ?_
      refine L_run (R_add64 rfl rfl (by omega)) rfl ?_
      refine L_run (R_assign rfl) rfl ?_
      refine L_nil (N_then ?_)
      obtain ⟨hls_, hat_⟩ := hst
      have eq_ : (d1 bs) = (⟨(fget (bs.drop at_)).1.toArray⟩, (fget (bs.drop at_)).2.2, (bs.drop at_).drop (fget (bs.drop at_)).2.1) := by rw [hat_]; exact d1_go
      exact ⟨3 - 1, by omega, _, 1, (at_ + ((fget (bs.drop at_)).2.1)), A_3, c_2, ls ++ ([⟨((fget (bs.drop at_)).1).toArray⟩]), Ac_frg ⟨rfl, rfl, rfl, rfl, (agr rfl (by first | rfl | (congr 1; omega) | (congr 1 <;> omega))), rfl, (agr rfl (by first | rfl | (congr 1; omega) | (congr 1 <;> omega))), trivial⟩, hB, hS, hb1, hb5, (own_lo ho2 (Nat.le_refl _)), ⟨(by rw [eq_, hls_]; rfl), (by rw [eq_]; exact Decidable.not_not.1 h3), (by rw [eq_]; first | exact hat_ | (rw [List.drop_drop]))⟩, (by have hq_ := (fget_bound (bs.drop at_)).1; simp only [List.length_drop] at hq_; omega), (by omega), (by omega), (by rw [List.length_append]; show _ + 1 ≤ _; omega), rfl⟩
    ·refine C_seq (C_seq (C_reg rfl ?_))
     refine L_run (R_move rfl) rfl ?_
     refine L_run (R_eqv (R_lss rfl rfl) (v' := .bool true) rfl) rfl ?_
     refine L_nil (N_then (C_condT rfl rfl (C_skip (N_then (C_seq (C_block (C_seq (C_seq (C_reg rfl ?_)))))))))
     refine L_run (R_move rfl) rfl ?_
     refine L_run (R_eqv (R_eql rfl rfl) (v' := .bool true) rfl) rfl ?_
     refine L_run (R_move rfl) rfl ?_
     refine L_yes rfl rfl rfl rfl ?_
     refine L_run (R_field (r := 1) rfl fld34_1 rfl) rfl ?_
     refine L_yes rfl rfl rfl rfl ?_
     refine L_run (R_load1 rfl scl4 (hb5.cell (i := 1) rfl)) rfl ?_
     refine L_yes rfl rfl rfl rfl ?_
     refine L_run (R_not rfl) rfl ?_
     refine L_run (R_pickT rfl rfl rfl) rfl ?_
     refine L_run (R_move rfl) rfl ?_
     refine L_split (!(wasB (bs[0]))) (fun h4 => ?_) (fun h4 => ?_)
     ·refine L_no rfl rfl rfl h4 rfl ?_
      refine L_no rfl rfl rfl h4 rfl ?_
      refine L_no rfl rfl rfl h4 rfl ?_
      refine L_noU rfl rfl rfl rfl ?_
      refine L_noU rfl rfl rfl rfl ?_
      refine L_noU rfl rfl rfl rfl ?_
      refine L_no rfl rfl rfl h4 rfl ?_
      refine L_run (R_pickT rfl h4 rfl) rfl ?_
      refine L_nil (N_then (C_condT rfl rfl (C_seq (C_reg rfl ?_))))
      refine L_run (R_move rfl) rfl ?_
      refine L_buildSlice (pv := [(0, .string (⟨#[]⟩))]) (cs := [.string (⟨#[]⟩)]) slc127 zer9 rfl rfl (by kernel_rfl) rfl ?_
      intro g6 w12 eg4 hb8 hs11 hz9
      have ge5 : w.heap.size ≤ g6 := eg_ge hB eg4
      have lt4 : g1 < g6 := lt_of_eg hb1.lt eg4
      have lt5 : g4 < g6 := lt_of_eg hb5.lt eg4
      have hap2 : ∀ k_, (Value.slice Aj ls.length cj).ownBlock = some k_ → k_ ≠ g6 := fun k_ hk => by have h_ := (World.ownsRow.lt hoS k_ hk).2; omega
      replace hB := gb_tr hB hs11
      replace hS := hS.gb hs11
      replace hb1 := hb1.gb hs11
      replace hb5 := hb5.gb hs11
      replace hoS := own_gb hoS hs11
      refine T_append (xs := ls) (ys := [⟨#[]⟩]) EncStr slc127 rfl rfl hoS (Blk.sli (m := 0) hb8) (by first | omega | (simp; done) | (simp; omega)) (by have := hB.size; omega) rfl ?_
      intro A_4 c_3 w13 ho3 hs12 hat2
      replace hB := gb_tro hB hoS hs12 (Nat.le_refl _)
      replace hS := hS.grown hs12 (fun k hk => .inr (Nat.le_trans (Nat.le_refl _) (World.ownsRow.lt hoS k hk).1))
      replace hb1 := blk_own hb1 hoS rfl hs12
      replace hb5 := blk_own hb5 hoS rfl hs12
      refine L_run (R_assign rfl) rfl ?_
      refine L_nil (N_then (C_exit (X_then (X_hit (N_then (C_reg rfl ?_))))))
      refine L_run (R_move rfl) rfl ?_
      refine L_run (R_add64 rfl rfl (by omega)) rfl ?_
      refine L_run (R_assign rfl) rfl ?_
      refine L_nil (N_then ?_)
      obtain ⟨hls_, he_, hat_⟩ := hst
      have eq_ : (d2 bs (wasB (bs[0]))) = (⟨#[]⟩, (d1 bs).2.1, (d1 bs).2.2) := by
        rw [(show wasB (bs[0]) = false by simpa using h4)]; exact d2_no
      exact ⟨3 - 2, by omega, _, 2, at_, A_4, c_3, ls ++ ([⟨#[]⟩]), Ac_frg ⟨rfl, rfl, rfl, rfl, rfl, rfl, (agr rfl (by first | rfl | (congr 1; omega) | (congr 1 <;> omega))), trivial⟩, hB, hS, hb1, hb5, (own_lo ho3 (Nat.le_refl _)), ⟨(by rw [eq_, hls_]; rfl), (by rw [eq_]; exact he_), (by rw [eq_]; first | exact hat_ | (rw [List.drop_drop]))⟩, hpos2, (by omega), (by omega), (by rw [List.length_append]; show _ + 1 ≤ _; omega), rfl⟩
     ·refine L_yes rfl rfl rfl h4 ?_
      refine L_run (R_move rfl) rfl ?_
      refine L_yes rfl rfl rfl h4 ?_
      refine L_run (R_eqv (R_eql rfl rfl) (v' := .bool false) rfl) rfl ?_
      refine L_yes rfl rfl rfl h4 ?_
      refine L_run (R_move rfl) rfl ?_
      refine L_no rfl rfl rfl rfl rfl ?_
      refine L_no rfl rfl rfl rfl rfl ?_
      refine L_no rfl rfl rfl rfl rfl ?_
      refine L_yes rfl rfl rfl h4 ?_
      refine L_run (R_pickF rfl rfl rfl) rfl ?_
      refine L_run (R_pickF rfl h4 rfl) rfl ?_
      refine L_nil (N_then (C_condF rfl rfl (C_skip (N_then (C_seq (C_reg rfl ?_))))))
      refine L_run (R_move rfl) rfl ?_
      refine L_run (R_move rfl) rfl ?_
      refine T_slL (xs := bs) (i := at_) EncB rfl rfl (by first | rfl | omega) slc63 (by first | omega | (simp; done) | (simp; omega)) hc hS rfl ?_
      intro A_5 hS_2
      have ge6 : w.heap.size ≤ w7.heap.size := hB.size
      refine L_call rfl cb58 (ref04_Get (bs := (bs.drop at_)) hS_2 (by first | omega | (simp; done) | (simp; omega)) (by first | omega | (simp; done) | (simp; omega))) rfl ?_
      rintro _ w14 ⟨hs13, A_6, c_4, rfl, ho4⟩
      replace hB := gb_tr hB hs13
      replace hS := hS.gb hs13
      replace hb1 := hb1.gb hs13
      replace hb5 := hb5.gb hs13
      replace hoS := own_gb hoS hs13
      replace hS_2 := hS_2.gb hs13
      have hlo2 : w7.heap.size ≤ w14.heap.size := hs13.size
      refine L_run (R_move rfl) rfl ?_
      refine L_run (R_extract rfl rfl) rfl ?_
      refine L_run (R_extract rfl rfl) rfl ?_
      refine L_run (R_extract rfl rfl) rfl ?_
      refine L_run (R_assign rfl) rfl ?_
      refine L_run (R_assign rfl) rfl ?_
      refine L_run (R_assign rfl) rfl ?_
      refine L_nil (N_then (C_seq (C_seq (C_reg rfl ?_))))
      refine L_run (R_move rfl) rfl ?_
      refine L_run (R_neq rfl rfl) rfl ?_
      refine L_nil (N_then ?_)
      refine C_if rfl (fun h5 => ?_) (fun h5 => ?_)
      ·refine C_seq (C_reg rfl ?_)
       refine L_run (R_build (pv := []) (cs := [.string (⟨#[]⟩), .bool false, .bool false, .string (⟨#[]⟩), .string (⟨#[]⟩), .int .i64 0]) rfl (by kernel_rfl)) rfl ?_
       refine L_run (R_move rfl) rfl ?_
       refine L_stA (vs := [.string (⟨#[]⟩), .bool false, .bool false, .string (⟨#[]⟩), .string (⟨#[]⟩), .int .i64 0]) rfl rfl rfl sz34 rfl hb1 rfl ?_
       intro w15 hb9 hs14 hz10
       replace hB := gb_trg hB hs14 ge1
       replace hS := hS.old hs14 ge1
       replace hb5 := hb5.grown hs14 (ne_gt lt1)
       replace hoS := own_other hoS hb1 rfl hs14
       replace hS_2 := hS_2.old hs14 ge1
       replace ho4 := own_other ho4 hb1 rfl hs14
       replace hlo2 := Nat.le_trans hlo2 hs14.size
       refine L_run (R_assign rfl) rfl ?_
       refine L_nil (N_then (C_ret (R_then (R_in (R_then (R_then (R_in (R_then ?_))))))))
       refine retC1 (vs := [.string (⟨#[]⟩), .bool false, .bool false, .string (⟨#[]⟩), .string (⟨#[]⟩), .int .i64 0]) Try.results42 rfl agg34 (At.pre (hb9.at_ 0) rfl) rfl rfl ?_
       have herr_ : (fget (bs.drop at_)).2.2 ≠ 0 := h5
       obtain ⟨-, he_, hat_⟩ := hst
       have q1 : (d2 bs (wasB (bs[0]))).2.1 = (fget (bs.drop at_)).2.2 := by
         rw [(show wasB (bs[0]) = true by simpa using h4), d2_go he_ hat_]
       have q3 : (d3 bs (wasB (bs[0])) (isB (bs[0]))).2.1 = (fget (bs.drop at_)).2.2 := (d3_err (by rw [q1]; exact herr_)).trans q1
       have e_ := (dec_f (bs := bs) (by omega) (by omega)).trans (fin_e (show (d3 bs (wasB (bs[0])) (isB (bs[0]))).2.1 ≠ 0 from by rw [q3]; exact herr_))
       rw [e_]; exact ⟨hB, by rw [← q3]; rfl⟩
      ·refine C_skip (N_then (C_seq (C_reg rfl ?_)))
       refine L_run (R_move rfl) rfl ?_
       refine L_run (R_move rfl) rfl ?_
       refine L_run (R_b2s' (bs := (fget (bs.drop at_)).1) rfl slc63 int5 str9 (own_of ho4).2.2) rfl ?_
       refine L_buildSlice (pv := [(0, .string (⟨((fget (bs.drop at_)).1).toArray⟩))]) (cs := [.string (⟨((fget (bs.drop at_)).1).toArray⟩)]) slc127 zer9 rfl rfl (by kernel_rfl) rfl ?_
       intro g7 w16 eg5 hb10 hs15 hz11
       have ge7 : w.heap.size ≤ g7 := eg_ge hB eg5
       have lt6 : g1 < g7 := lt_of_eg hb1.lt eg5
       have lt7 : g4 < g7 := lt_of_eg hb5.lt eg5
       have hap3 : ∀ k_, (Value.slice Aj ls.length cj).ownBlock = some k_ → k_ ≠ g7 := fun k_ hk => by have h_ := (World.ownsRow.lt hoS k_ hk).2; omega
       replace hB := gb_tr hB hs15
       replace hS := hS.gb hs15
       replace hb1 := hb1.gb hs15
       replace hb5 := hb5.gb hs15
       replace hoS := own_gb hoS hs15
       replace hS_2 := hS_2.gb hs15
       replace ho4 := own_gb ho4 hs15
       replace hlo2 := Nat.le_trans hlo2 hs15.size
       refine T_append (xs := ls) (ys := [⟨((fget (bs.drop at_)).1).toArray⟩]) EncStr slc127 rfl rfl hoS (Blk.sli (m := 0) hb10) (by first | omega | (simp; done) | (simp; omega)) (by have := hB.size; omega) rfl ?_
       intro A_7 c_5 w17 ho5 hs16 hat3
       replace hB := gb_tro hB hoS hs16 (Nat.le_refl _)
       replace hS := hS.grown hs16 (fun k hk => .inr (Nat.le_trans (Nat.le_refl _) (World.ownsRow.lt hoS k hk).1))
       replace hb1 := blk_own hb1 hoS rfl hs16
       replace hb5 := blk_own hb5 hoS rfl hs16
       replace hS_2 := hS_2.grown hs16 (fun k hk => .inr (Nat.le_trans (Nat.le_refl _) (World.ownsRow.lt hoS k hk).1))
       replace ho4 := ho4.kept hs16 (own_type_ne' ho4 hoS rfl)
       replace hlo2 := Nat.le_trans hlo2 hs16.size
       refine L_run (R_assign rfl) rfl ?_
       refine L_nil (N_then (C_reg rfl ?_))
       refine L_run (R_move rfl) rfl ?_
       refine L_run (R_move rfl) rfl ?_
       have hq75 := (fget_bound (bs.drop at_)).1; simp only [List.length_drop] at hq75
       refine L_run (R_add64 rfl rfl (by omega)) rfl ?_
       refine L_run (R_assign rfl) rfl ?_
       refine L_nil (N_in (N_then (C_reg rfl ?_)))
       refine L_run (R_move rfl) rfl ?_
       refine L_run (R_add64 rfl rfl (by omega)) rfl ?_
       refine L_run (R_assign rfl) rfl ?_
       refine L_nil (N_then ?_)
       obtain ⟨hls_, he_, hat_⟩ := hst
       have eq_ : (d2 bs (wasB (bs[0]))) = (⟨(fget (bs.drop at_)).1.toArray⟩, (fget (bs.drop at_)).2.2, (bs.drop at_).drop (fget (bs.drop at_)).2.1) := by
         rw [(show wasB (bs[0]) = true by simpa using h4)]; exact d2_go he_ hat_
       exact ⟨3 - 2, by omega, _, 2, (at_ + ((fget (bs.drop at_)).2.1)), A_7, c_5, ls ++ ([⟨((fget (bs.drop at_)).1).toArray⟩]), Ac_frg ⟨rfl, rfl, rfl, rfl, (agr rfl (by first | rfl | (congr 1; omega) | (congr 1 <;> omega))), rfl, (agr rfl (by first | rfl | (congr 1; omega) | (congr 1 <;> omega))), trivial⟩, hB, hS, hb1, hb5, (own_lo ho5 (Nat.le_refl _)), ⟨(by rw [eq_, hls_]; rfl), (by rw [eq_]; exact Decidable.not_not.1 h5), (by rw [eq_]; first | exact hat_ | (rw [List.drop_drop]))⟩, (by have hq_ := (fget_bound (bs.drop at_)).1; simp only [List.length_drop] at hq_; omega), (by omega), (by omega), (by rw [List.length_append]; show _ + 1 ≤ _; omega), rfl⟩
    ·refine C_seq (C_seq (C_reg rfl ?_))
     refine L_run (R_move rfl) rfl ?_
     refine L_run (R_eqv (R_lss rfl rfl) (v' := .bool true) rfl) rfl ?_
     refine L_nil (N_then (C_condT rfl rfl (C_skip (N_then (C_seq (C_block (C_seq (C_seq (C_reg rfl ?_)))))))))
     refine L_run (R_move rfl) rfl ?_
     refine L_run (R_eqv (R_eql rfl rfl) (v' := .bool false) rfl) rfl ?_
     refine L_run (R_move rfl) rfl ?_
     refine L_no rfl rfl rfl rfl rfl ?_
     refine L_no rfl rfl rfl rfl rfl ?_
     refine L_no rfl rfl rfl rfl rfl ?_
     refine L_run (R_pickF rfl rfl rfl) rfl ?_
     refine L_run (R_move rfl) rfl ?_
     refine L_yes rfl rfl rfl rfl ?_
     refine L_run (R_move rfl) rfl ?_
     refine L_yes rfl rfl rfl rfl ?_
     refine L_run (R_eqv (R_eql rfl rfl) (v' := .bool true) rfl) rfl ?_
     refine L_yes rfl rfl rfl rfl ?_
     refine L_run (R_move rfl) rfl ?_
     refine L_yes rfl rfl rfl rfl ?_
     refine L_run (R_field (r := 2) rfl fld34_2 rfl) rfl ?_
     refine L_yes rfl rfl rfl rfl ?_
     refine L_run (R_load1 rfl scl4 (hb5.cell (i := 2) rfl)) rfl ?_
     refine L_yes rfl rfl rfl rfl ?_
     refine L_run (R_not rfl) rfl ?_
     refine L_yes rfl rfl rfl rfl ?_
     refine L_run (R_pickT rfl rfl rfl) rfl ?_
     refine L_run (R_pickF rfl rfl rfl) rfl ?_
     refine L_nil (N_then ?_)
     refine C_cond rfl (fun h6 => ?_) (fun h6 => ?_)
     ·refine C_seq (C_reg rfl ?_)
      refine L_run (R_move rfl) rfl ?_
      refine L_buildSlice (pv := [(0, .string (⟨#[]⟩))]) (cs := [.string (⟨#[]⟩)]) slc127 zer9 rfl rfl (by kernel_rfl) rfl ?_
      intro g8 w18 eg6 hb11 hs17 hz12
      have ge8 : w.heap.size ≤ g8 := eg_ge hB eg6
      have lt8 : g1 < g8 := lt_of_eg hb1.lt eg6
      have lt9 : g4 < g8 := lt_of_eg hb5.lt eg6
      have hap4 : ∀ k_, (Value.slice Aj ls.length cj).ownBlock = some k_ → k_ ≠ g8 := fun k_ hk => by have h_ := (World.ownsRow.lt hoS k_ hk).2; omega
      replace hB := gb_tr hB hs17
      replace hS := hS.gb hs17
      replace hb1 := hb1.gb hs17
      replace hb5 := hb5.gb hs17
      replace hoS := own_gb hoS hs17
      refine T_append (xs := ls) (ys := [⟨#[]⟩]) EncStr slc127 rfl rfl hoS (Blk.sli (m := 0) hb11) (by first | omega | (simp; done) | (simp; omega)) (by have := hB.size; omega) rfl ?_
      intro A_8 c_6 w19 ho6 hs18 hat4
      replace hB := gb_tro hB hoS hs18 (Nat.le_refl _)
      replace hS := hS.grown hs18 (fun k hk => .inr (Nat.le_trans (Nat.le_refl _) (World.ownsRow.lt hoS k hk).1))
      replace hb1 := blk_own hb1 hoS rfl hs18
      replace hb5 := blk_own hb5 hoS rfl hs18
      refine L_run (R_assign rfl) rfl ?_
      refine L_nil (N_then (C_exit (X_then (X_hit (N_then (C_reg rfl ?_))))))
      refine L_run (R_move rfl) rfl ?_
      refine L_run (R_add64 rfl rfl (by omega)) rfl ?_
      refine L_run (R_assign rfl) rfl ?_
      refine L_nil (N_then ?_)
      obtain ⟨hls_, he_, hat_⟩ := hst
      have eq_ : (d3 bs (wasB (bs[0])) (isB (bs[0]))) = (⟨#[]⟩, (d2 bs (wasB (bs[0]))).2.1, (d2 bs (wasB (bs[0]))).2.2) := by
        rw [(show isB (bs[0]) = false by simpa using h6)]; exact d3_no
      exact ⟨3 - 3, by omega, _, 3, at_, A_8, c_6, ls ++ ([⟨#[]⟩]), Ac_frg ⟨rfl, rfl, rfl, rfl, rfl, rfl, (agr rfl (by first | rfl | (congr 1; omega) | (congr 1 <;> omega))), trivial⟩, hB, hS, hb1, hb5, (own_lo ho6 (Nat.le_refl _)), ⟨(by rw [eq_, hls_]; rfl), (by rw [eq_]; exact he_), (by rw [eq_]; first | exact hat_ | (rw [List.drop_drop]))⟩, hpos2, (by omega), (by omega), (by rw [List.length_append]; show _ + 1 ≤ _; omega), rfl⟩
     ·refine C_skip (N_then (C_seq (C_reg rfl ?_)))
      refine L_run (R_move rfl) rfl ?_
      refine L_run (R_move rfl) rfl ?_
      refine T_slL (xs := bs) (i := at_) EncB rfl rfl (by first | rfl | omega) slc63 (by first | omega | (simp; done) | (simp; omega)) hc hS rfl ?_
      intro A_9 hS_3
      have ge9 : w.heap.size ≤ w7.heap.size := hB.size
      refine L_call rfl cb58 (ref04_Get (bs := (bs.drop at_)) hS_3 (by first | omega | (simp; done) | (simp; omega)) (by first | omega | (simp; done) | (simp; omega))) rfl ?_
      rintro _ w20 ⟨hs19, A_10, c_7, rfl, ho7⟩
      replace hB := gb_tr hB hs19
      replace hS := hS.gb hs19
      replace hb1 := hb1.gb hs19
      replace hb5 := hb5.gb hs19
      replace hoS := own_gb hoS hs19
      replace hS_3 := hS_3.gb hs19
      have hlo3 : w7.heap.size ≤ w20.heap.size := hs19.size
      refine L_run (R_move rfl) rfl ?_
      refine L_run (R_extract rfl rfl) rfl ?_
      refine L_run (R_extract rfl rfl) rfl ?_
      refine L_run (R_extract rfl rfl) rfl ?_
      refine L_run (R_assign rfl) rfl ?_
      refine L_run (R_assign rfl) rfl ?_
      refine L_run (R_assign rfl) rfl ?_
      refine L_nil (N_then (C_seq (C_seq (C_reg rfl ?_))))
      refine L_run (R_move rfl) rfl ?_
      refine L_run (R_neq rfl rfl) rfl ?_
      refine L_nil (N_then ?_)
      refine C_if rfl (fun h7 => ?_) (fun h7 => ?_)
      ·refine C_seq (C_reg rfl ?_)
       refine L_run (R_build (pv := []) (cs := [.string (⟨#[]⟩), .bool false, .bool false, .string (⟨#[]⟩), .string (⟨#[]⟩), .int .i64 0]) rfl (by kernel_rfl)) rfl ?_
       refine L_run (R_move rfl) rfl ?_
       refine L_stA (vs := [.string (⟨#[]⟩), .bool false, .bool false, .string (⟨#[]⟩), .string (⟨#[]⟩), .int .i64 0]) rfl rfl rfl sz34 rfl hb1 rfl ?_
       intro w21 hb12 hs20 hz13
       replace hB := gb_trg hB hs20 ge1
       replace hS := hS.old hs20 ge1
       replace hb5 := hb5.grown hs20 (ne_gt lt1)
       replace hoS := own_other hoS hb1 rfl hs20
       replace hS_3 := hS_3.old hs20 ge1
       replace ho7 := own_other ho7 hb1 rfl hs20
       replace hlo3 := Nat.le_trans hlo3 hs20.size
       refine L_run (R_assign rfl) rfl ?_
       refine L_nil (N_then (C_ret (R_then (R_in (R_then (R_then (R_in (R_then ?_))))))))
       refine retC1 (vs := [.string (⟨#[]⟩), .bool false, .bool false, .string (⟨#[]⟩), .string (⟨#[]⟩), .int .i64 0]) Try.results42 rfl agg34 (At.pre (hb12.at_ 0) rfl) rfl rfl ?_
       have herr_ : (fget (bs.drop at_)).2.2 ≠ 0 := h7
       obtain ⟨-, he_, hat_⟩ := hst
       have q1 : (d3 bs (wasB (bs[0])) (isB (bs[0]))).2.1 = (fget (bs.drop at_)).2.2 := by
         rw [(show isB (bs[0]) = true by simpa using h6), d3_go he_ hat_]
       have q3 : (d3 bs (wasB (bs[0])) (isB (bs[0]))).2.1 = (fget (bs.drop at_)).2.2 := q1
       have e_ := (dec_f (bs := bs) (by omega) (by omega)).trans (fin_e (show (d3 bs (wasB (bs[0])) (isB (bs[0]))).2.1 ≠ 0 from by rw [q3]; exact herr_))
       rw [e_]; exact ⟨hB, by rw [← q3]; rfl⟩
      ·refine C_skip (N_then (C_seq (C_reg rfl ?_)))
       refine L_run (R_move rfl) rfl ?_
       refine L_run (R_move rfl) rfl ?_
       refine L_run (R_b2s' (bs := (fget (bs.drop at_)).1) rfl slc63 int5 str9 (own_of ho7).2.2) rfl ?_
       refine L_buildSlice (pv := [(0, .string (⟨((fget (bs.drop at_)).1).toArray⟩))]) (cs := [.string (⟨((fget (bs.drop at_)).1).toArray⟩)]) slc127 zer9 rfl rfl (by kernel_rfl) rfl ?_
       intro g9 w22 eg7 hb13 hs21 hz14
       have ge10 : w.heap.size ≤ g9 := eg_ge hB eg7
       have lt10 : g1 < g9 := lt_of_eg hb1.lt eg7
       have lt11 : g4 < g9 := lt_of_eg hb5.lt eg7
       have hap5 : ∀ k_, (Value.slice Aj ls.length cj).ownBlock = some k_ → k_ ≠ g9 := fun k_ hk => by have h_ := (World.ownsRow.lt hoS k_ hk).2; omega
       replace hB := gb_tr hB hs21
       replace hS := hS.gb hs21
       replace hb1 := hb1.gb hs21
       replace hb5 := hb5.gb hs21
       replace hoS := own_gb hoS hs21
       replace hS_3 := hS_3.gb hs21
       replace ho7 := own_gb ho7 hs21
       replace hlo3 := Nat.le_trans hlo3 hs21.size
       refine T_append (xs := ls) (ys := [⟨((fget (bs.drop at_)).1).toArray⟩]) EncStr slc127 rfl rfl hoS (Blk.sli (m := 0) hb13) (by first | omega | (simp; done) | (simp; omega)) (by have := hB.size; omega) rfl ?_
       intro A_11 c_8 w23 ho8 hs22 hat5
       replace hB := gb_tro hB hoS hs22 (Nat.le_refl _)
       replace hS := hS.grown hs22 (fun k hk => .inr (Nat.le_trans (Nat.le_refl _) (World.ownsRow.lt hoS k hk).1))
       replace hb1 := blk_own hb1 hoS rfl hs22
       replace hb5 := blk_own hb5 hoS rfl hs22
       replace hS_3 := hS_3.grown hs22 (fun k hk => .inr (Nat.le_trans (Nat.le_refl _) (World.ownsRow.lt hoS k hk).1))
       replace ho7 := ho7.kept hs22 (own_type_ne' ho7 hoS rfl)
       replace hlo3 := Nat.le_trans hlo3 hs22.size
       refine L_run (R_assign rfl) rfl ?_
       refine L_nil (N_then (C_reg rfl ?_))
       refine L_run (R_move rfl) rfl ?_
       refine L_run (R_move rfl) rfl ?_
       have hq75 := (fget_bound (bs.drop at_)).1; simp only [List.length_drop] at hq75
       refine L_run (R_add64 rfl rfl (by omega)) rfl ?_
       refine L_run (R_assign rfl) rfl ?_
       refine L_nil (N_in (N_then (C_reg rfl ?_)))
       refine L_run (R_move rfl) rfl ?_
       refine L_run (R_add64 rfl rfl (by omega)) rfl ?_
       refine L_run (R_assign rfl) rfl ?_
       refine L_nil (N_then ?_)
       obtain ⟨hls_, he_, hat_⟩ := hst
       have eq_ : (d3 bs (wasB (bs[0])) (isB (bs[0]))) = (⟨(fget (bs.drop at_)).1.toArray⟩, (fget (bs.drop at_)).2.2, (bs.drop at_).drop (fget (bs.drop at_)).2.1) := by
         rw [(show isB (bs[0]) = true by simpa using h6)]; exact d3_go he_ hat_
       exact ⟨3 - 3, by omega, _, 3, (at_ + ((fget (bs.drop at_)).2.1)), A_11, c_8, ls ++ ([⟨((fget (bs.drop at_)).1).toArray⟩]), Ac_frg ⟨rfl, rfl, rfl, rfl, (agr rfl (by first | rfl | (congr 1; omega) | (congr 1 <;> omega))), rfl, (agr rfl (by first | rfl | (congr 1; omega) | (congr 1 <;> omega))), trivial⟩, hB, hS, hb1, hb5, (own_lo ho8 (Nat.le_refl _)), ⟨(by rw [eq_, hls_]; rfl), (by rw [eq_]; exact Decidable.not_not.1 h7), (by rw [eq_]; first | exact hat_ | (rw [List.drop_drop]))⟩, (by have hq_ := (fget_bound (bs.drop at_)).1; simp only [List.length_drop] at hq_; omega), (by omega), (by omega), (by rw [List.length_append]; show _ + 1 ≤ _; omega), rfl⟩
    ·refine C_seq (C_seq (C_reg rfl ?_))
     refine L_run (R_move rfl) rfl ?_
     refine L_run (R_eqv (R_lss rfl rfl) (v' := .bool false) rfl) rfl ?_
     refine L_nil (N_then (C_condF rfl rfl (C_exit (X_then (X_then (X_hit (N_then (C_seq (C_reg rfl ?_)))))))))
     obtain ⟨hls_, he_, hat_⟩ := hst
     subst hls_
     refine L_run (R_move rfl) rfl ?_
     refine L_run (R_move rfl) rfl ?_
     refine T_slL (xs := bs) (i := at_) EncB rfl rfl (by first | rfl | omega) slc63 (by first | omega | (simp; done) | (simp; omega)) hc hS rfl ?_
     intro A_12 hS_4
     refine L_call rfl cb59 (ref02_Get (bs := (bs.drop at_)) hS_4 (by first | omega | (simp; done) | (simp; omega))) rfl ?_
     rintro _ w24 ⟨hs23, rfl⟩
     replace hB := gb_tr hB hs23
     replace hS := hS.gb hs23
     replace hb1 := hb1.gb hs23
     replace hb5 := hb5.gb hs23
     replace hoS := own_gb hoS hs23
     replace hS_4 := hS_4.gb hs23
     refine L_run (R_move rfl) rfl ?_
     refine L_run (R_extract rfl rfl) rfl ?_
     refine L_run (R_extract rfl rfl) rfl ?_
     refine L_run (R_extract rfl rfl) rfl ?_
     refine L_run (R_assign rfl) rfl ?_
     refine L_run (R_assign rfl) rfl ?_
     refine L_run (R_assign rfl) rfl ?_
     refine L_nil (N_then (C_seq (C_seq (C_reg rfl ?_))))
     refine L_run (R_move rfl) rfl ?_
     refine L_run (R_neq rfl rfl) rfl ?_
     refine L_nil (N_then ?_)
     refine C_if rfl (fun h8 => ?_) (fun h8 => ?_)
     ·refine C_seq (C_reg rfl ?_)
      refine L_run (R_build (pv := []) (cs := [.string (⟨#[]⟩), .bool false, .bool false, .string (⟨#[]⟩), .string (⟨#[]⟩), .int .i64 0]) rfl (by kernel_rfl)) rfl ?_
      refine L_run (R_move rfl) rfl ?_
      refine L_stA (vs := [.string (⟨#[]⟩), .bool false, .bool false, .string (⟨#[]⟩), .string (⟨#[]⟩), .int .i64 0]) rfl rfl rfl sz34 rfl hb1 rfl ?_
      intro w25 hb14 hs24 hz15
      replace hB := gb_trg hB hs24 ge1
      replace hS := hS.old hs24 ge1
      replace hb5 := hb5.grown hs24 (ne_gt lt1)
      replace hoS := own_other hoS hb1 rfl hs24
      replace hS_4 := hS_4.old hs24 ge1
      refine L_run (R_assign rfl) rfl ?_
      refine L_nil (N_then (C_ret (R_then ?_)))
      refine retC1 (vs := [.string (⟨#[]⟩), .bool false, .bool false, .string (⟨#[]⟩), .string (⟨#[]⟩), .int .i64 0]) Try.results42 rfl agg34 (At.pre (hb14.at_ 0) rfl) rfl rfl ?_
      have hv_ : (vget ((d3 bs (wasB (bs[0])) (isB (bs[0]))).2.2)).2.2 ≠ 0 := by rw [← hat_]; exact h8
      have e_ := (dec_f (bs := bs) (by omega) (by omega)).trans (fin_v (show ¬ (d3 bs (wasB (bs[0])) (isB (bs[0]))).2.1 ≠ 0 from by rw [he_]; simp) hv_)
      rw [e_, ← hat_]; exact ⟨hB, rfl⟩
     ·refine C_skip (N_then (C_seq (C_reg rfl ?_)))
      refine L_run (R_move rfl) rfl ?_
      have hl3 : 0 < ([(d1 bs).1, (d2 bs (wasB (bs[0]))).1, (d3 bs (wasB (bs[0])) (isB (bs[0]))).1]).length := (by simp)
      refine T_index (xs := [(d1 bs).1, (d2 bs (wasB (bs[0]))).1, (d3 bs (wasB (bs[0])) (isB (bs[0]))).1]) (i := 0) EncStr rfl rfl (by first | rfl | omega) slc127 hl3 (own_of hoS).2.2 rfl ?_
      intro g10 o3 ha3
      refine L_run (R_eqv (R_load1 rfl scl9 (ha3 0 _ rfl)) (v' := .string ((d1 bs).1)) (rfl)) rfl ?_
      refine L_run (R_field (r := 0) rfl fld34_0 rfl) rfl ?_
      refine L_st1 rfl rfl rfl sz9 hb5 rfl ?_
      intro w26 hb15 hs25 hz16
      replace hB := gb_trg hB hs25 ge2
      replace hS := hS.old hs25 ge2
      replace hb1 := hb1.grown hs25 (ne_lt lt1)
      replace hoS := own_other hoS hb5 rfl hs25
      replace hS_4 := hS_4.old hs25 ge2
      refine L_nil (N_then (C_seq (C_reg rfl ?_)))
      refine L_run (R_move rfl) rfl ?_
      have hl4 : 1 < ([(d1 bs).1, (d2 bs (wasB (bs[0]))).1, (d3 bs (wasB (bs[0])) (isB (bs[0]))).1]).length := (by simp)
      refine T_index (xs := [(d1 bs).1, (d2 bs (wasB (bs[0]))).1, (d3 bs (wasB (bs[0])) (isB (bs[0]))).1]) (i := 1) EncStr rfl rfl (by first | rfl | omega) slc127 hl4 (own_of hoS).2.2 rfl ?_
      intro g11 o4 ha4
      refine L_run (R_eqv (R_load1 rfl scl9 (ha4 0 _ rfl)) (v' := .string ((d2 bs (wasB (bs[0]))).1)) (rfl)) rfl ?_
      refine L_run (R_field (r := 3) rfl fld34_3 rfl) rfl ?_
      refine L_st1 rfl rfl rfl sz9 hb15 rfl ?_
      intro w27 hb16 hs26 hz17
      replace hB := gb_trg hB hs26 ge2
      replace hS := hS.old hs26 ge2
      replace hb1 := hb1.grown hs26 (ne_lt lt1)
      replace hoS := own_other hoS hb15 rfl hs26
      replace hS_4 := hS_4.old hs26 ge2
      refine L_nil (N_then (C_seq (C_reg rfl ?_)))
      refine L_run (R_move rfl) rfl ?_
      have hl5 : 2 < ([(d1 bs).1, (d2 bs (wasB (bs[0]))).1, (d3 bs (wasB (bs[0])) (isB (bs[0]))).1]).length := (by simp)
      refine T_index (xs := [(d1 bs).1, (d2 bs (wasB (bs[0]))).1, (d3 bs (wasB (bs[0])) (isB (bs[0]))).1]) (i := 2) EncStr rfl rfl (by first | rfl | omega) slc127 hl5 (own_of hoS).2.2 rfl ?_
      intro g12 o5 ha5
      refine L_run (R_eqv (R_load1 rfl scl9 (ha5 0 _ rfl)) (v' := .string ((d3 bs (wasB (bs[0])) (isB (bs[0]))).1)) (rfl)) rfl ?_
      refine L_run (R_field (r := 4) rfl fld34_4 rfl) rfl ?_
      refine L_st1 rfl rfl rfl sz9 hb16 rfl ?_
      intro w28 hb17 hs27 hz18
      replace hB := gb_trg hB hs27 ge2
      replace hS := hS.old hs27 ge2
      replace hb1 := hb1.grown hs27 (ne_lt lt1)
      replace hoS := own_other hoS hb16 rfl hs27
      replace hS_4 := hS_4.old hs27 ge2
      refine L_nil (N_then (C_seq (C_seq (C_reg rfl ?_))))
      refine L_run (R_move rfl) rfl ?_
      refine L_run (R_move rfl) rfl ?_
      have hq102 := vget_bound (bs.drop at_); simp only [List.length_drop] at hq102
      refine L_run (R_add64 rfl rfl (by omega)) rfl ?_
      refine L_run (R_move rfl) rfl ?_
      refine L_run (R_lenSl rfl slc63) rfl ?_
      refine L_run (R_lss rfl rfl) rfl ?_
      refine L_run (R_move rfl) rfl ?_
      refine L_splitD (p := ((at_ : Int) + ((vget (bs.drop at_)).2.1 : Int)) < (bs.length : Int)) (fun h9 => ?_) (fun h9 => ?_)
      ·refine L_no rfl rfl rfl (decide_eq_true h9) rfl ?_
       refine L_no rfl rfl rfl (decide_eq_true h9) rfl ?_
       refine L_run (R_pickT rfl (decide_eq_true h9) rfl) rfl ?_
       refine L_nil (N_then (C_condT rfl rfl (C_seq (C_reg rfl ?_))))
       refine L_run (R_build (pv := []) (cs := [.string (⟨#[]⟩), .bool false, .bool false, .string (⟨#[]⟩), .string (⟨#[]⟩), .int .i64 0]) rfl (by kernel_rfl)) rfl ?_
       refine L_stA (vs := [.string (⟨#[]⟩), .bool false, .bool false, .string (⟨#[]⟩), .string (⟨#[]⟩), .int .i64 0]) rfl rfl rfl sz34 rfl hb1 rfl ?_
       intro w29 hb18 hs28 hz19
       replace hB := gb_trg hB hs28 ge1
       replace hS := hS.old hs28 ge1
       replace hb17 := hb17.grown hs28 (ne_gt lt1)
       replace hoS := own_other hoS hb1 rfl hs28
       replace hS_4 := hS_4.old hs28 ge1
       refine L_run (R_assign rfl) rfl ?_
       refine L_nil (N_then (C_ret (R_then ?_)))
       refine retC1 (vs := [.string (⟨#[]⟩), .bool false, .bool false, .string (⟨#[]⟩), .string (⟨#[]⟩), .int .i64 0]) Try.results42 rfl agg34 (At.pre (hb18.at_ 0) rfl) rfl rfl ?_
       have hv_ : ¬ (vget ((d3 bs (wasB (bs[0])) (isB (bs[0]))).2.2)).2.2 ≠ 0 := by rw [← hat_]; exact h8
       have hY_ : ((d3 bs (wasB (bs[0])) (isB (bs[0]))).2.2).length = bs.length - at_ := by rw [← hat_, List.length_drop]
       have hV_ : vget ((d3 bs (wasB (bs[0])) (isB (bs[0]))).2.2) = vget (bs.drop at_) := by rw [hat_]
       have e_ := (dec_f (bs := bs) (by omega) (by omega)).trans (fin_b (show ¬ (d3 bs (wasB (bs[0])) (isB (bs[0]))).2.1 ≠ 0 from by rw [he_]; simp) hv_ (.inl (by rw [hV_, hY_]; omega)))
       rw [e_]; exact ⟨hB, rfl⟩
      ·refine L_yes rfl rfl rfl (decide_eq_false h9) ?_
       refine L_run (R_move rfl) rfl ?_
       refine L_yes rfl rfl rfl (decide_eq_false h9) ?_
       refine L_run (R_gtr rfl rfl) rfl ?_
       refine L_run (R_pickF rfl (decide_eq_false h9) rfl) rfl ?_
       refine L_nil (N_then ?_)
       refine C_if rfl (fun h10 => ?_) (fun h10 => ?_)
       ·refine C_seq (C_reg rfl ?_)
        refine L_run (R_build (pv := []) (cs := [.string (⟨#[]⟩), .bool false, .bool false, .string (⟨#[]⟩), .string (⟨#[]⟩), .int .i64 0]) rfl (by kernel_rfl)) rfl ?_
        refine L_stA (vs := [.string (⟨#[]⟩), .bool false, .bool false, .string (⟨#[]⟩), .string (⟨#[]⟩), .int .i64 0]) rfl rfl rfl sz34 rfl hb1 rfl ?_
        intro w30 hb19 hs29 hz20
        replace hB := gb_trg hB hs29 ge1
        replace hS := hS.old hs29 ge1
        replace hb17 := hb17.grown hs29 (ne_gt lt1)
        replace hoS := own_other hoS hb1 rfl hs29
        replace hS_4 := hS_4.old hs29 ge1
        refine L_run (R_assign rfl) rfl ?_
        refine L_nil (N_then (C_ret (R_then ?_)))
        refine retC1 (vs := [.string (⟨#[]⟩), .bool false, .bool false, .string (⟨#[]⟩), .string (⟨#[]⟩), .int .i64 0]) Try.results42 rfl agg34 (At.pre (hb19.at_ 0) rfl) rfl rfl ?_
        have hv_ : ¬ (vget ((d3 bs (wasB (bs[0])) (isB (bs[0]))).2.2)).2.2 ≠ 0 := by rw [← hat_]; exact h8
        have hY_ : ((d3 bs (wasB (bs[0])) (isB (bs[0]))).2.2).length = bs.length - at_ := by rw [← hat_, List.length_drop]
        have hV_ : vget ((d3 bs (wasB (bs[0])) (isB (bs[0]))).2.2) = vget (bs.drop at_) := by rw [hat_]
        have e_ := (dec_f (bs := bs) (by omega) (by omega)).trans (fin_b (show ¬ (d3 bs (wasB (bs[0])) (isB (bs[0]))).2.1 ≠ 0 from by rw [he_]; simp) hv_ (.inr (fun q_ => by have h_ := q_.2.2.2.2.2.2.2; rw [hV_] at h_; (have h2_ : ((min (vget (bs.drop at_)).1 2147483648 : Nat) : Int) ≤ 2147483647 := h_); omega)))
        rw [e_]; exact ⟨hB, rfl⟩
       ·refine C_skip (N_then (C_seq (C_reg rfl ?_)))
        refine L_run (R_move rfl) rfl ?_
        refine L_run (R_eqv (R_conv rfl any116 int3) (v' := .int .i64 ((vget (bs.drop at_)).1 : Int)) (congrArg _ (i64_fit (by omega)))) rfl ?_
        refine L_run (R_field (r := 5) rfl fld34_5 rfl) rfl ?_
        refine L_st1 rfl rfl rfl sz3 hb17 rfl ?_
        intro w31 hb20 hs30 hz21
        replace hB := gb_trg hB hs30 ge2
        replace hS := hS.old hs30 ge2
        replace hb1 := hb1.grown hs30 (ne_lt lt1)
        replace hoS := own_other hoS hb17 rfl hs30
        replace hS_4 := hS_4.old hs30 ge2
        refine L_nil (N_then (C_seq (C_seq (C_reg rfl ?_))))
        refine L_run (R_loadA (vs := [.string ((d1 bs).1), .bool (wasB (bs[0])), .bool (isB (bs[0])), .string ((d2 bs (wasB (bs[0]))).1), .string ((d3 bs (wasB (bs[0])) (isB (bs[0]))).1), .int .i64 ((vget (bs.drop at_)).1 : Int)]) rfl agg34 (At.pre (hb20.at_ 0) rfl) rfl) rfl ?_
        refine L_call rfl cb8 (ref42_Right (c := (⟨(d1 bs).1, wasB (bs[0]), isB (bs[0]), (d2 bs (wasB (bs[0]))).1, (d3 bs (wasB (bs[0])) (isB (bs[0]))).1, ((vget (bs.drop at_)).1 : Int)⟩ : Chg))) rfl ?_
        rintro _ w32 ⟨hs31, rfl⟩
        replace hB := gb_tr hB hs31
        replace hS := hS.gb hs31
        replace hb1 := hb1.gb hs31
        replace hb20 := hb20.gb hs31
        replace hoS := own_gb hoS hs31
        replace hS_4 := hS_4.gb hs31
        refine L_run (R_notD rfl) rfl ?_
        refine L_nil (N_then ?_)
        refine C_ifN rfl (fun h11 => ?_) (fun h11 => ?_)
        ·refine C_seq (C_reg rfl ?_)
         refine L_run (R_build (pv := []) (cs := [.string (⟨#[]⟩), .bool false, .bool false, .string (⟨#[]⟩), .string (⟨#[]⟩), .int .i64 0]) rfl (by kernel_rfl)) rfl ?_
         refine L_stA (vs := [.string (⟨#[]⟩), .bool false, .bool false, .string (⟨#[]⟩), .string (⟨#[]⟩), .int .i64 0]) rfl rfl rfl sz34 rfl hb1 rfl ?_
         intro w33 hb21 hs32 hz22
         replace hB := gb_trg hB hs32 ge1
         replace hS := hS.old hs32 ge1
         replace hb20 := hb20.grown hs32 (ne_gt lt1)
         replace hoS := own_other hoS hb1 rfl hs32
         replace hS_4 := hS_4.old hs32 ge1
         refine L_run (R_assign rfl) rfl ?_
         refine L_nil (N_then (C_ret (R_then ?_)))
         refine retC1 (vs := [.string (⟨#[]⟩), .bool false, .bool false, .string (⟨#[]⟩), .string (⟨#[]⟩), .int .i64 0]) Try.results42 rfl agg34 (At.pre (hb21.at_ 0) rfl) rfl rfl ?_
         have hv_ : ¬ (vget ((d3 bs (wasB (bs[0])) (isB (bs[0]))).2.2)).2.2 ≠ 0 := by rw [← hat_]; exact h8
         have hY_ : ((d3 bs (wasB (bs[0])) (isB (bs[0]))).2.2).length = bs.length - at_ := by rw [← hat_, List.length_drop]
         have hV_ : vget ((d3 bs (wasB (bs[0])) (isB (bs[0]))).2.2) = vget (bs.drop at_) := by rw [hat_]
         have e_ := (dec_f (bs := bs) (by omega) (by omega)).trans (fin_b (show ¬ (d3 bs (wasB (bs[0])) (isB (bs[0]))).2.1 ≠ 0 from by rw [he_]; simp) hv_ (.inr (by rw [hV_, show min (vget (bs.drop at_)).1 2147483648 = (vget (bs.drop at_)).1 from by omega]; exact h11)))
         rw [e_]; exact ⟨hB, rfl⟩
        ·refine C_skip (N_then (C_seq (C_reg rfl ?_)))
         refine L_run (R_loadA (vs := [.string ((d1 bs).1), .bool (wasB (bs[0])), .bool (isB (bs[0])), .string ((d2 bs (wasB (bs[0]))).1), .string ((d3 bs (wasB (bs[0])) (isB (bs[0]))).1), .int .i64 ((vget (bs.drop at_)).1 : Int)]) rfl agg34 (At.pre (hb20.at_ 0) rfl) rfl) rfl ?_
         refine L_stA (vs := [.string ((d1 bs).1), .bool (wasB (bs[0])), .bool (isB (bs[0])), .string ((d2 bs (wasB (bs[0]))).1), .string ((d3 bs (wasB (bs[0])) (isB (bs[0]))).1), .int .i64 ((vget (bs.drop at_)).1 : Int)]) rfl rfl rfl sz34 rfl hb1 rfl ?_
         intro w34 hb22 hs33 hz23
         replace hB := gb_trg hB hs33 ge1
         replace hS := hS.old hs33 ge1
         replace hb20 := hb20.grown hs33 (ne_gt lt1)
         replace hoS := own_other hoS hb1 rfl hs33
         replace hS_4 := hS_4.old hs33 ge1
         refine L_run (R_assign rfl) rfl ?_
         refine L_nil (N_then (C_ret ?_))
         refine retC1 (vs := [.string ((d1 bs).1), .bool (wasB (bs[0])), .bool (isB (bs[0])), .string ((d2 bs (wasB (bs[0]))).1), .string ((d3 bs (wasB (bs[0])) (isB (bs[0]))).1), .int .i64 ((vget (bs.drop at_)).1 : Int)]) Try.results42 rfl agg34 (At.pre (hb22.at_ 0) rfl) rfl rfl ?_
         have hv_ : ¬ (vget ((d3 bs (wasB (bs[0])) (isB (bs[0]))).2.2)).2.2 ≠ 0 := by rw [← hat_]; exact h8
         have hY_ : ((d3 bs (wasB (bs[0])) (isB (bs[0]))).2.2).length = bs.length - at_ := by rw [← hat_, List.length_drop]
         have hV_ : vget ((d3 bs (wasB (bs[0])) (isB (bs[0]))).2.2) = vget (bs.drop at_) := by rw [hat_]
         have hm_ : min (vget (bs.drop at_)).1 2147483648 = (vget (bs.drop at_)).1 := by omega
         have e_ := (dec_f (bs := bs) (by omega) (by omega)).trans (fin_g (show ¬ (d3 bs (wasB (bs[0])) (isB (bs[0]))).2.1 ≠ 0 from by rw [he_]; simp) hv_ (fun q_ => q_.elim (fun q_ => by rw [hV_, hY_] at q_; omega) (fun q_ => q_ (by rw [hV_, hm_]; exact h11))))
         rw [hV_, hm_] at e_
         rw [e_]; exact ⟨hB, rfl⟩

end Go.Proofs.Ytbmohojdlgedpaa
