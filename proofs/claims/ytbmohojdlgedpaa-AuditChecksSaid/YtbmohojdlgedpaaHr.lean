/-
  Contracts of the package audit: Check, Fair, Lost.
-/
import Derived.Test.YtbmohojdlgedpaaHq
namespace Go.Proofs.Ytbmohojdlgedpaa
open Go.RowKit Gw Pl
set_option linter.unusedVariables false
set_option linter.unusedSimpArgs false
theorem agg46 : aggB Try.prog 46 2 = true := by kernel_rfl
theorem cb14 : callB Try.prog 14 = true := by kernel_rfl
theorem cb35 : callB Try.prog 35 = true := by kernel_rfl
theorem cb36 : callB Try.prog 36 = true := by kernel_rfl
theorem cb38 : callB Try.prog 38 = true := by kernel_rfl
theorem sz46 : szB Try.prog 46 2 = true := by kernel_rfl
theorem sz86 : szB Try.prog 86 6 = true := by kernel_rfl
theorem zer46 : (Try.prog.info? 46).bind (·.zero) = some (.agg #[.int .i64 0, .string (⟨#[]⟩)]) := by kernel_rfl
theorem zer86 : (Try.prog.info? 86).bind (·.zero) = some (.agg #[.int .i64 0, .int .i64 0, .slice none 0 0, .slice none 0 0, .int .i64 0, .int .i64 0]) := by kernel_rfl
def atI (l : List StepD) (ev : List EvD) : Int := if (Rb l ev).1 < (l.zip ev).length then ((Rb l ev).1 : Int) else if l.length = ev.length then -1 else ((l.zip ev).length : Int)
def crN (zs : List (StepD × EvD)) : Nat := (zs.filter fun z => decide (z.1.p.kind = 4 ∧ z.2.e = 0)).length
theorem resB_le : ∀ (zs : List (StepD × EvD)) (s : BkP × List Int) (i : Nat), i ≤ (resB zs s i).1 ∧ (resB zs s i).1 ≤ i + zs.length
  | [], s, i => ⟨Nat.le_refl _, Nat.le_refl _⟩
  | z :: r, s, i => by
    unfold resB
    split
    · have := resB_le r (nxt s.1 z.1 z.2, lostN s.1 z.1 z.2 s.2) (i + 1)
      rw [List.length_cons]
      omega
    · exact ⟨Nat.le_refl _, Nat.le_add_right _ _⟩
theorem resB_lost : ∀ (zs : List (StepD × EvD)) (s : BkP × List Int) (i : Nat), (resB zs s i).2.2.length = s.2.length + crN (zs.take ((resB zs s i).1 - i))
  | [], s, i => by simp [resB, crN]
  | z :: r, s, i => by
    unfold resB
    split
    · have h1 := resB_lost r (nxt s.1 z.1 z.2, lostN s.1 z.1 z.2 s.2) (i + 1)
      have h2 := (resB_le r (nxt s.1 z.1 z.2, lostN s.1 z.1 z.2 s.2) (i + 1)).1
      rw [h1]
      obtain ⟨k, hk⟩ : ∃ k, (resB r (nxt s.1 z.1 z.2, lostN s.1 z.1 z.2 s.2) (i + 1)).1 = i + 1 + k := ⟨_, (Nat.add_sub_cancel' h2).symm⟩
      rw [hk, show i + 1 + k - (i + 1) = k by omega, show i + 1 + k - i = k + 1 by omega, List.take_succ_cons]
      unfold crN lostN lostD
      rw [List.filter_cons]
      by_cases h4 : z.1.p.kind = 4 <;> by_cases h0 : z.2.e = 0 <;> simp [h4, h0] <;> omega
    · simp [crN]
theorem zip_take : ∀ (l : List StepD) (ev : List EvD) (n : Nat), (l.take n).zip ev = (l.zip ev).take n
  | [], ev, n => by simp
  | y :: l, [], n => by simp
  | y :: l, e :: ev, 0 => by simp
  | y :: l, e :: ev, n + 1 => by simp only [List.take_succ_cons, List.zip_cons_cons, zip_take l ev n]
theorem Rb_lost {l : List StepD} {ev : List EvD} : (Rb l ev).2.2.length = crN ((l.take (Rb l ev).1).zip ev) := by
  have h := resB_lost (l.zip ev) (⟨[], 0, true⟩, []) 0
  rw [zip_take]
  simpa using h
theorem Rb_le {l : List StepD} {ev : List EvD} : (Rb l ev).1 ≤ (l.zip ev).length := by have := (resB_le (l.zip ev) (⟨[], 0, true⟩, []) 0).2; simpa using this
theorem crN_go {l : List StepD} {ev : List EvD} {i : Nat} (h1 : i < l.length) (h2 : i < ev.length) : crN ((l.zip ev).take (i + 1)) = crN ((l.zip ev).take i) + if (l[i]).p.kind = 4 ∧ (ev[i]).e = 0 then 1 else 0 := by
  unfold crN
  rw [List.take_succ_eq_append_getElem (by rw [List.length_zip]; omega), List.filter_append, List.length_append, List.getElem_zip, List.filter_cons]
  split <;> simp_all
theorem why_ok {w : World} {n : Int} (hn : 0 ≤ n ∧ n ≤ 6) :
    Runs Try.prog 36 #[.int .i64 n] w (fun v_ w' => w.grownBy w' none ∧ ∃ t : ByteArray, v_ = .string t ∧ (t = ⟨#[]⟩ ↔ n = 0)) := by
  have hB := gb_refl w none
  refine enter Try.func36 Try.ntmps36 rfl rfl ?_
  refine C_seq (C_reg rfl ?_)
  refine L_run (R_assign rfl) rfl ?_
  refine L_nil (N_then (C_seq (C_seq (C_reg rfl ?_))))
  refine L_run (R_move rfl) rfl ?_
  refine L_nil (N_then (C_block (C_seq (C_reg rfl ?_))))
  refine L_run (R_eql rfl rfl) rfl ?_
  refine L_run (R_assign rfl) rfl ?_
  refine L_nil (N_then ?_)
  refine C_if rfl (fun h1 => ?_) (fun h1 => ?_)
  · refine C_seq (C_reg rfl ?_)
    refine L_run (R_assign rfl) rfl ?_
    refine L_nil (N_then (C_ret (R_in (R_then ?_))))
    refine ret1 Try.results36 rfl ?_
    exact ⟨hB, _, rfl, ⟨fun q_ => by have h_ := congrArg (fun z : ByteArray => z.data.size) q_; simp at h_, fun q_ => by omega⟩⟩
  · refine C_seq (C_reg rfl ?_)
    refine L_run (R_eql rfl rfl) rfl ?_
    refine L_run (R_assign rfl) rfl ?_
    refine L_nil (N_then ?_)
    refine C_if rfl (fun h2 => ?_) (fun h2 => ?_)
    · refine C_seq (C_reg rfl ?_)
      refine L_run (R_assign rfl) rfl ?_
      refine L_nil (N_then (C_ret (R_in (R_then ?_))))
      refine ret1 Try.results36 rfl ?_
      exact ⟨hB, _, rfl, ⟨fun q_ => by have h_ := congrArg (fun z : ByteArray => z.data.size) q_; simp at h_, fun q_ => by omega⟩⟩
    · refine C_seq (C_reg rfl ?_)
      refine L_run (R_eql rfl rfl) rfl ?_
      refine L_run (R_assign rfl) rfl ?_
      refine L_nil (N_then ?_)
      refine C_if rfl (fun h3 => ?_) (fun h3 => ?_)
      · refine C_seq (C_reg rfl ?_)
        refine L_run (R_assign rfl) rfl ?_
        refine L_nil (N_then (C_ret (R_in (R_then ?_))))
        refine ret1 Try.results36 rfl ?_
        exact ⟨hB, _, rfl, ⟨fun q_ => by have h_ := congrArg (fun z : ByteArray => z.data.size) q_; simp at h_, fun q_ => by omega⟩⟩
      · refine C_seq (C_reg rfl ?_)
        refine L_run (R_eql rfl rfl) rfl ?_
        refine L_run (R_assign rfl) rfl ?_
        refine L_nil (N_then ?_)
        refine C_if rfl (fun h4 => ?_) (fun h4 => ?_)
        · refine C_seq (C_reg rfl ?_)
          refine L_run (R_assign rfl) rfl ?_
          refine L_nil (N_then (C_ret (R_in (R_then ?_))))
          refine ret1 Try.results36 rfl ?_
          exact ⟨hB, _, rfl, ⟨fun q_ => by have h_ := congrArg (fun z : ByteArray => z.data.size) q_; simp at h_, fun q_ => by omega⟩⟩
        · refine C_seq (C_reg rfl ?_)
          refine L_run (R_eql rfl rfl) rfl ?_
          refine L_run (R_assign rfl) rfl ?_
          refine L_nil (N_then ?_)
          refine C_if rfl (fun h5 => ?_) (fun h5 => ?_)
          · refine C_seq (C_reg rfl ?_)
            refine L_run (R_assign rfl) rfl ?_
            refine L_nil (N_then (C_ret (R_in (R_then ?_))))
            refine ret1 Try.results36 rfl ?_
            exact ⟨hB, _, rfl, ⟨fun q_ => by have h_ := congrArg (fun z : ByteArray => z.data.size) q_; simp at h_, fun q_ => by omega⟩⟩
          · refine C_seq (C_reg rfl ?_)
            refine L_run (R_eql rfl rfl) rfl ?_
            refine L_run (R_assign rfl) rfl ?_
            refine L_nil (N_then ?_)
            refine C_if rfl (fun h6 => ?_) (fun h6 => ?_)
            · refine C_seq (C_reg rfl ?_)
              refine L_run (R_assign rfl) rfl ?_
              refine L_nil (N_then (C_ret (R_in (R_then ?_))))
              refine ret1 Try.results36 rfl ?_
              exact ⟨hB, _, rfl, ⟨fun q_ => by have h_ := congrArg (fun z : ByteArray => z.data.size) q_; simp at h_, fun q_ => by omega⟩⟩
            · refine C_skip (N_in (N_then (C_seq (C_reg rfl ?_))))
              refine L_run (R_assign rfl) rfl ?_
              refine L_nil (N_then (C_ret ?_))
              refine ret1 Try.results36 rfl ?_
              exact ⟨hB, _, rfl, ⟨fun _ => by omega, fun _ => rfl⟩⟩

theorem checkF {w : World} {l : List StepD} {ev : List EvD} {A A2 : Option Addr} {c c2 : Nat} (hS0 : Sli 0 0 w.heap.size w A (fl encS l)) (hD0 : DeepS w.heap.size w l) (hV0 : Sli 0 0 w.heap.size w A2 (fl encEv ev)) (hW0 : DeepV w.heap.size w ev) (hf : FewSs l) (hev : ev.length ≤ 80) (hpr : ∀ x ∈ ev, x.prs.length ≤ 100) (hc : (Rb l ev).1 < (l.zip ev).length) :
    Runs Try.prog 14 #[.slice A l.length c, .slice A2 ev.length c2] w (fun v_ w' => w.grownBy w' none ∧ ∃ t : ByteArray, v_ = .agg #[.int .i64 (atI l ev), .string t] ∧ (t = ⟨#[]⟩ ↔ atI l ev = -1)) := by
  have hB := gb_refl w none
  have hS := hS0
  have hD := hD0
  have hV := hV0
  have hW := hW0
  refine enter Try.func14 Try.ntmps14 rfl rfl ?_
  refine C_seq (C_reg rfl ?_)
  refine L_alloc (cs := [.int .i64 0, .string (⟨#[]⟩)]) zer46 rfl rfl ?_
  intro g1 w1 eg1 hb1 hs1 hz1
  have ge1 : w.heap.size ≤ g1 := eg_ge hB eg1
  replace hB := gb_tr hB hs1
  replace hS := hS.gb hs1
  replace hD := hD.gb hs1
  replace hV := hV.gb hs1
  replace hW := hW.gb hs1
  refine L_nil (N_then (C_seq (C_reg rfl ?_)))
  refine L_run (R_build (pv := [(2, .bool true)]) (cs := [.slice none 0 0, .int .i64 0, .bool true, .slice none 0 0]) rfl (by kernel_rfl)) rfl ?_
  have hBq := hB
  have wq_ := hB.size
  have hS_q := hS
  have hD_q := hD
  have hV_q := hV
  have hW_q := hW
  have hb1_q := hb1
  refine L_box (cs := [.slice none 0 0, .int .i64 0, .bool true, .slice none 0 0]) rfl rfl rfl ?_
  intro g2 w2 eg2 hb2 hs2 hz2
  have ge2 : w.heap.size ≤ g2 := eg_ge hB eg2
  have lt1 : g1 < g2 := lt_of_eg hb1.lt eg2
  replace hB := gb_tr hB hs2
  replace hS := hS.gb hs2
  replace hD := hD.gb hs2
  replace hV := hV.gb hs2
  replace hW := hW.gb hs2
  replace hb1 := hb1.gb hs2
  have hBz := hs2
  have gbz : w1.heap.size ≤ g2 := Nat.le_of_eq eg2.symm
  refine L_run (R_move rfl) rfl ?_
  refine L_run (R_move rfl) rfl ?_
  refine L_call rfl cb35 (keepF (w := w1) hc (show BkM w1 w2 g2 ⟨[], 0, true⟩ [] from ⟨none, 0, none, 0, hb2, .inl (own_nil _ _ _ _), own_nil _ _ _ _⟩) hBz gbz (Sli.any hS_q) hD_q.top (Sli.any hV_q) hW_q.top hf hev hpr) rfl ?_
  rintro _ w3 ⟨hsz, wz, bz, lz, yz, rfl, hz0, hz5, ⟨A_1, c_1, A_2, c_2, hb3, hrl1, ho1⟩, hy_, hLO⟩
  have hB := gb_tr hBq hsz
  have hS := hS0.gb hB
  have hD := hD0.gb hB
  have hV := hV0.gb hB
  have hW := hW0.gb hB
  have hb4 := hb1_q.gb hsz
  refine L_run (R_move rfl) rfl ?_
  refine L_run (R_extract rfl rfl) rfl ?_
  refine L_run (R_extract rfl rfl) rfl ?_
  refine L_run (R_assign rfl) rfl ?_
  refine L_run (R_assign rfl) rfl ?_
  refine L_nil (N_then (C_seq (C_reg rfl ?_)))
  refine L_run (R_move rfl) rfl ?_
  refine L_run (R_move rfl) rfl ?_
  refine L_call rfl cb36 (why_ok (n := wz) (by omega)) rfl ?_
  rintro _ w4 ⟨hs4, tz, rfl, htz⟩
  replace hB := gb_tr hB hs4
  replace hS := hS.gb hs4
  replace hD := hD.gb hs4
  replace hV := hV.gb hs4
  replace hW := hW.gb hs4
  replace hb4 := hb4.gb hs4
  replace hb3 := hb3.gb hs4
  replace ho1 := own_gb ho1 hs4
  refine L_run (R_build (pv := [(0, .int .i64 ((Rb l ev).1 : Int)), (1, .string tz)]) (cs := [.int .i64 ((Rb l ev).1 : Int), .string tz]) rfl (by kernel_rfl)) rfl ?_
  refine L_stA (vs := [.int .i64 ((Rb l ev).1 : Int), .string tz]) rfl rfl rfl sz46 rfl hb4 rfl ?_
  intro w5 hb5 hs5 hz3
  replace hB := gb_trg hB hs5 ge1
  replace hS := hS.old hs5 ge1
  replace hD := hD.old hs5 ge1
  replace hV := hV.old hs5 ge1
  replace hW := hW.old hs5 ge1
  replace hb3 := hb3.grown hs5 (ne_gt lt1)
  replace ho1 := own_other ho1 hb4 rfl hs5
  refine L_nil (N_then (C_ret ?_))
  refine retC (vs := [.int .i64 ((Rb l ev).1 : Int), .string tz]) Try.results14 rfl agg46 (At.pre (hb5.at_ 0) rfl) rfl  ?_
  have ea_ : atI l ev = ((Rb l ev).1 : Int) := if_pos hc
  rw [ea_]; exact ⟨hB, _, rfl, htz.trans ⟨fun q_ => by omega, fun q_ => by omega⟩⟩

theorem checkE {w : World} {l : List StepD} {ev : List EvD} {A A2 : Option Addr} {c c2 : Nat} (hS0 : Sli 0 0 w.heap.size w A (fl encS l)) (hD0 : DeepS w.heap.size w l) (hV0 : Sli 0 0 w.heap.size w A2 (fl encEv ev)) (hW0 : DeepV w.heap.size w ev) (hf : FewSs l) (hev : ev.length ≤ 80) (hpr : ∀ x ∈ ev, x.prs.length ≤ 100) (hc : (Rb l ev).1 = (l.zip ev).length) (hl : l.length = ev.length) :
    Runs Try.prog 14 #[.slice A l.length c, .slice A2 ev.length c2] w (fun v_ w' => w.grownBy w' none ∧ ∃ t : ByteArray, v_ = .agg #[.int .i64 (atI l ev), .string t] ∧ (t = ⟨#[]⟩ ↔ atI l ev = -1)) := by
  have hB := gb_refl w none
  have hS := hS0
  have hD := hD0
  have hV := hV0
  have hW := hW0
  refine enter Try.func14 Try.ntmps14 rfl rfl ?_
  refine C_seq (C_reg rfl ?_)
  refine L_alloc (cs := [.int .i64 0, .string (⟨#[]⟩)]) zer46 rfl rfl ?_
  intro g1 w1 eg1 hb1 hs1 hz1
  have ge1 : w.heap.size ≤ g1 := eg_ge hB eg1
  replace hB := gb_tr hB hs1
  replace hS := hS.gb hs1
  replace hD := hD.gb hs1
  replace hV := hV.gb hs1
  replace hW := hW.gb hs1
  refine L_nil (N_then (C_seq (C_reg rfl ?_)))
  refine L_run (R_build (pv := [(2, .bool true)]) (cs := [.slice none 0 0, .int .i64 0, .bool true, .slice none 0 0]) rfl (by kernel_rfl)) rfl ?_
  have hBq := hB
  have wq_ := hB.size
  have hS_q := hS
  have hD_q := hD
  have hV_q := hV
  have hW_q := hW
  have hb1_q := hb1
  refine L_box (cs := [.slice none 0 0, .int .i64 0, .bool true, .slice none 0 0]) rfl rfl rfl ?_
  intro g2 w2 eg2 hb2 hs2 hz2
  have ge2 : w.heap.size ≤ g2 := eg_ge hB eg2
  have lt1 : g1 < g2 := lt_of_eg hb1.lt eg2
  replace hB := gb_tr hB hs2
  replace hS := hS.gb hs2
  replace hD := hD.gb hs2
  replace hV := hV.gb hs2
  replace hW := hW.gb hs2
  replace hb1 := hb1.gb hs2
  have hBz := hs2
  have gbz : w1.heap.size ≤ g2 := Nat.le_of_eq eg2.symm
  refine L_run (R_move rfl) rfl ?_
  refine L_run (R_move rfl) rfl ?_
  refine L_call rfl cb35 (keepE (w := w1) hc hl (show BkM w1 w2 g2 ⟨[], 0, true⟩ [] from ⟨none, 0, none, 0, hb2, .inl (own_nil _ _ _ _), own_nil _ _ _ _⟩) hBz gbz (Sli.any hS_q) hD_q.top (Sli.any hV_q) hW_q.top hf hev hpr) rfl ?_
  rintro _ w3 ⟨hsz, rfl, ⟨A_1, c_1, A_2, c_2, hb3, hrl1, ho1⟩⟩
  have hB := gb_tr hBq hsz
  have hS := hS0.gb hB
  have hD := hD0.gb hB
  have hV := hV0.gb hB
  have hW := hW0.gb hB
  have hb4 := hb1_q.gb hsz
  refine L_run (R_move rfl) rfl ?_
  refine L_run (R_extract rfl rfl) rfl ?_
  refine L_run (R_extract rfl rfl) rfl ?_
  refine L_run (R_assign rfl) rfl ?_
  refine L_run (R_assign rfl) rfl ?_
  refine L_nil (N_then (C_seq (C_reg rfl ?_)))
  refine L_run (R_move rfl) rfl ?_
  refine L_run (R_move rfl) rfl ?_
  refine L_call rfl cb36 (why_ok (n := 0) (by omega)) rfl ?_
  rintro _ w4 ⟨hs4, tz, rfl, htz⟩
  replace hB := gb_tr hB hs4
  replace hS := hS.gb hs4
  replace hD := hD.gb hs4
  replace hV := hV.gb hs4
  replace hW := hW.gb hs4
  replace hb4 := hb4.gb hs4
  replace hb3 := hb3.gb hs4
  replace ho1 := own_gb ho1 hs4
  refine L_run (R_build (pv := [(0, .int .i64 (-1)), (1, .string tz)]) (cs := [.int .i64 (-1), .string tz]) rfl (by kernel_rfl)) rfl ?_
  refine L_stA (vs := [.int .i64 (-1), .string tz]) rfl rfl rfl sz46 rfl hb4 rfl ?_
  intro w5 hb5 hs5 hz3
  replace hB := gb_trg hB hs5 ge1
  replace hS := hS.old hs5 ge1
  replace hD := hD.old hs5 ge1
  replace hV := hV.old hs5 ge1
  replace hW := hW.old hs5 ge1
  replace hb3 := hb3.grown hs5 (ne_gt lt1)
  replace ho1 := own_other ho1 hb4 rfl hs5
  refine L_nil (N_then (C_ret ?_))
  refine retC (vs := [.int .i64 (-1), .string tz]) Try.results14 rfl agg46 (At.pre (hb5.at_ 0) rfl) rfl  ?_
  have ea_ : atI l ev = -1 := (if_neg (by omega)).trans (if_pos hl)
  rw [ea_]; exact ⟨hB, _, rfl, htz.trans ⟨fun q_ => by omega, fun q_ => by omega⟩⟩

theorem checkL {w : World} {l : List StepD} {ev : List EvD} {A A2 : Option Addr} {c c2 : Nat} (hS0 : Sli 0 0 w.heap.size w A (fl encS l)) (hD0 : DeepS w.heap.size w l) (hV0 : Sli 0 0 w.heap.size w A2 (fl encEv ev)) (hW0 : DeepV w.heap.size w ev) (hf : FewSs l) (hev : ev.length ≤ 80) (hpr : ∀ x ∈ ev, x.prs.length ≤ 100) (hc : (Rb l ev).1 = (l.zip ev).length) (hl : l.length ≠ ev.length) :
    Runs Try.prog 14 #[.slice A l.length c, .slice A2 ev.length c2] w (fun v_ w' => w.grownBy w' none ∧ ∃ t : ByteArray, v_ = .agg #[.int .i64 (atI l ev), .string t] ∧ (t = ⟨#[]⟩ ↔ atI l ev = -1)) := by
  have hB := gb_refl w none
  have hS := hS0
  have hD := hD0
  have hV := hV0
  have hW := hW0
  refine enter Try.func14 Try.ntmps14 rfl rfl ?_
  refine C_seq (C_reg rfl ?_)
  refine L_alloc (cs := [.int .i64 0, .string (⟨#[]⟩)]) zer46 rfl rfl ?_
  intro g1 w1 eg1 hb1 hs1 hz1
  have ge1 : w.heap.size ≤ g1 := eg_ge hB eg1
  replace hB := gb_tr hB hs1
  replace hS := hS.gb hs1
  replace hD := hD.gb hs1
  replace hV := hV.gb hs1
  replace hW := hW.gb hs1
  refine L_nil (N_then (C_seq (C_reg rfl ?_)))
  refine L_run (R_build (pv := [(2, .bool true)]) (cs := [.slice none 0 0, .int .i64 0, .bool true, .slice none 0 0]) rfl (by kernel_rfl)) rfl ?_
  have hBq := hB
  have wq_ := hB.size
  have hS_q := hS
  have hD_q := hD
  have hV_q := hV
  have hW_q := hW
  have hb1_q := hb1
  refine L_box (cs := [.slice none 0 0, .int .i64 0, .bool true, .slice none 0 0]) rfl rfl rfl ?_
  intro g2 w2 eg2 hb2 hs2 hz2
  have ge2 : w.heap.size ≤ g2 := eg_ge hB eg2
  have lt1 : g1 < g2 := lt_of_eg hb1.lt eg2
  replace hB := gb_tr hB hs2
  replace hS := hS.gb hs2
  replace hD := hD.gb hs2
  replace hV := hV.gb hs2
  replace hW := hW.gb hs2
  replace hb1 := hb1.gb hs2
  have hBz := hs2
  have gbz : w1.heap.size ≤ g2 := Nat.le_of_eq eg2.symm
  refine L_run (R_move rfl) rfl ?_
  refine L_run (R_move rfl) rfl ?_
  refine L_call rfl cb35 (keepL (w := w1) hc hl (show BkM w1 w2 g2 ⟨[], 0, true⟩ [] from ⟨none, 0, none, 0, hb2, .inl (own_nil _ _ _ _), own_nil _ _ _ _⟩) hBz gbz (Sli.any hS_q) hD_q.top (Sli.any hV_q) hW_q.top hf hev hpr) rfl ?_
  rintro _ w3 ⟨hsz, rfl, ⟨A_1, c_1, A_2, c_2, hb3, hrl1, ho1⟩⟩
  have hB := gb_tr hBq hsz
  have hS := hS0.gb hB
  have hD := hD0.gb hB
  have hV := hV0.gb hB
  have hW := hW0.gb hB
  have hb4 := hb1_q.gb hsz
  refine L_run (R_move rfl) rfl ?_
  refine L_run (R_extract rfl rfl) rfl ?_
  refine L_run (R_extract rfl rfl) rfl ?_
  refine L_run (R_assign rfl) rfl ?_
  refine L_run (R_assign rfl) rfl ?_
  refine L_nil (N_then (C_seq (C_reg rfl ?_)))
  refine L_run (R_move rfl) rfl ?_
  refine L_run (R_move rfl) rfl ?_
  refine L_call rfl cb36 (why_ok (n := 6) (by omega)) rfl ?_
  rintro _ w4 ⟨hs4, tz, rfl, htz⟩
  replace hB := gb_tr hB hs4
  replace hS := hS.gb hs4
  replace hD := hD.gb hs4
  replace hV := hV.gb hs4
  replace hW := hW.gb hs4
  replace hb4 := hb4.gb hs4
  replace hb3 := hb3.gb hs4
  replace ho1 := own_gb ho1 hs4
  refine L_run (R_build (pv := [(0, .int .i64 ((l.zip ev).length : Int)), (1, .string tz)]) (cs := [.int .i64 ((l.zip ev).length : Int), .string tz]) rfl (by kernel_rfl)) rfl ?_
  refine L_stA (vs := [.int .i64 ((l.zip ev).length : Int), .string tz]) rfl rfl rfl sz46 rfl hb4 rfl ?_
  intro w5 hb5 hs5 hz3
  replace hB := gb_trg hB hs5 ge1
  replace hS := hS.old hs5 ge1
  replace hD := hD.old hs5 ge1
  replace hV := hV.old hs5 ge1
  replace hW := hW.old hs5 ge1
  replace hb3 := hb3.grown hs5 (ne_gt lt1)
  replace ho1 := own_other ho1 hb4 rfl hs5
  refine L_nil (N_then (C_ret ?_))
  refine retC (vs := [.int .i64 ((l.zip ev).length : Int), .string tz]) Try.results14 rfl agg46 (At.pre (hb5.at_ 0) rfl) rfl  ?_
  have ea_ : atI l ev = ((l.zip ev).length : Int) := (if_neg (by omega)).trans (if_neg hl)
  rw [ea_]; exact ⟨hB, _, rfl, htz.trans ⟨fun q_ => by omega, fun q_ => by omega⟩⟩

theorem check_ok {w : World} {l : List StepD} {ev : List EvD} {A A2 : Option Addr} {c c2 : Nat} (hS0 : Sli 0 0 w.heap.size w A (fl encS l)) (hD0 : DeepS w.heap.size w l) (hV0 : Sli 0 0 w.heap.size w A2 (fl encEv ev)) (hW0 : DeepV w.heap.size w ev) (hf : FewSs l) (hev : ev.length ≤ 80) (hpr : ∀ x ∈ ev, x.prs.length ≤ 100) : Runs Try.prog 14 #[.slice A l.length c, .slice A2 ev.length c2] w (fun v_ w' => w.grownBy w' none ∧ ∃ t : ByteArray, v_ = .agg #[.int .i64 (atI l ev), .string t] ∧ (t = ⟨#[]⟩ ↔ atI l ev = -1)) := by
  rcases Nat.lt_or_ge (Rb l ev).1 (l.zip ev).length with hc | hc
  · exact checkF hS0 hD0 hV0 hW0 hf hev hpr hc
  · have hc' := Nat.le_antisymm Rb_le hc
    by_cases hl : l.length = ev.length
    · exact checkE hS0 hD0 hV0 hW0 hf hev hpr hc' hl
    · exact checkL hS0 hD0 hV0 hW0 hf hev hpr hc' hl
theorem fair_ok {w : World} {l : List StepD} {ev : List EvD} {A A2 : Option Addr} {c c2 : Nat} (hS0 : Sli 0 0 w.heap.size w A (fl encS l)) (hD0 : DeepS w.heap.size w l) (hV0 : Sli 0 0 w.heap.size w A2 (fl encEv ev)) (hW0 : DeepV w.heap.size w ev) (hf : FewSs l) (hev : ev.length ≤ 80) (hpr : ∀ x ∈ ev, x.prs.length ≤ 100) :
    Runs Try.prog 19 #[.slice A l.length c, .slice A2 ev.length c2] w (fun v_ w' => w.grownBy w' none ∧ v_ = .bool (decide (atI l ev = -1))) := by
  have hB := gb_refl w none
  have hS := hS0
  have hD := hD0
  have hV := hV0
  have hW := hW0
  refine enter Try.func19 Try.ntmps19 rfl rfl ?_
  refine C_seq (C_reg rfl ?_)
  refine L_run (R_assign rfl) rfl ?_
  refine L_nil (N_then (C_seq (C_reg rfl ?_)))
  refine L_run (R_move rfl) rfl ?_
  refine L_run (R_move rfl) rfl ?_
  refine L_call rfl cb14 (check_ok (l := l) (ev := ev) (Sli.any hS) hD.top (Sli.any hV) hW.top hf hev hpr) rfl ?_
  rintro _ w1 ⟨hs1, tx1, rfl, hx1⟩
  replace hB := gb_tr hB hs1
  replace hS := hS.gb hs1
  replace hD := hD.gb hs1
  replace hV := hV.gb hs1
  replace hW := hW.gb hs1
  refine L_run (R_field1 rfl Try.underlying46 rfl scl3 rfl) rfl ?_
  refine L_run (R_eql rfl rfl) rfl ?_
  refine L_run (R_assign rfl) rfl ?_
  refine L_nil (N_then (C_ret ?_))
  refine ret1 Try.results19 rfl ?_
  exact ⟨hB, rfl⟩

theorem crashes_ok {w : World} {t1 lo hi t2 lo2 hi2 : Nat} {l : List StepD} {ev : List EvD} {A A2 : Option Addr} {c c2 : Nat} (hS : Sli t1 lo hi w A (fl encS l)) (hV : Sli t2 lo2 hi2 w A2 (fl encEv ev)) (hle : l.length ≤ ev.length) (hb : l.length ≤ 1000000) :
    Runs Try.prog 38 #[.slice A l.length c, .slice A2 ev.length c2] w (fun v_ w' => w.grownBy w' none ∧ v_ = .int .i64 (crN (l.zip ev) : Int)) := by
  have hB := gb_refl w none
  replace hS := hS.top
  replace hV := hV.top
  refine enter Try.func38 Try.ntmps38 rfl rfl ?_
  refine C_seq (C_reg rfl ?_)
  refine L_run (R_assign rfl) rfl ?_
  refine L_nil (N_then (C_seq (C_reg rfl ?_)))
  refine L_run (R_assign rfl) rfl ?_
  refine L_nil (N_then (C_seq (C_seq (C_reg rfl ?_))))
  refine L_run (R_move rfl) rfl ?_
  refine L_run (R_lenSl rfl slc39) rfl ?_
  refine L_run (R_move rfl) rfl ?_
  refine L_nil (N_then (C_block ?_))
  refine C_loop (fun m_ a_ w_ => ∃ (σ_ : Nat → Value) (i : Nat) (nn : Nat), a_ = Ac 30 σ_ [] [(0, .slice A l.length c), (1, .slice A2 ev.length c2), (4, .int .i64 0), (5, .int .i64 (nn : Int)), (8, .slice A l.length c), (9, .int .i64 (l.length : Int)), (10, .int .i64 (i : Int))] ∧ w.grownBy w_ none ∧ Sli t1 lo w.heap.size w_ A (fl encS l) ∧ Sli t2 lo2 w.heap.size w_ A2 (fl encEv ev) ∧ (i ≤ l.length) ∧ (nn = crN ((l.zip ev).take i)) ∧ l.length - i = m_) (l.length - 0) ?_ ?_
  · exact ⟨_, 0, 0, Ac_frg ⟨rfl, rfl, rfl, (agr rfl (by first | rfl | (congr 1; omega) | (congr 1; simp; done) | (congr 1; simp only [IntKind.wrap_u64, IntKind.wrap_i64, IntKind.wrap_u8]; omega) | (congr 1 <;> omega))), rfl, rfl, (agr rfl (by first | rfl | (congr 1; omega) | (congr 1; simp; done) | (congr 1; simp only [IntKind.wrap_u64, IntKind.wrap_i64, IntKind.wrap_u8]; omega) | (congr 1 <;> omega))), trivial⟩, hB, hS, hV, (Nat.zero_le _), rfl, rfl⟩
  · clear hB
    clear hS hV
    rintro m_ a_ w1 ⟨σ_, i, nn, rfl, hB, hS, hV, hi_, hcr, rfl⟩
    refine C_seq (C_reg rfl ?_)
    refine L_run (R_lss rfl rfl) rfl ?_
    refine L_nil (N_then (C_seq ?_))
    refine C_if rfl (fun h1 => ?_) (fun h1 => ?_)
    · refine C_skip (N_then (C_seq (C_block (C_seq (C_reg rfl ?_)))))
      have hli : i < l.length := by omega
      have hlj : i < ev.length := by omega
      have hnb : nn ≤ i := by rw [hcr]; unfold crN; exact Nat.le_trans (List.length_filter_le _ _) (by rw [List.length_take]; omega)
      refine L_run (R_move rfl) rfl ?_
      have hl1 : i < l.length := by first | omega | (simp; omega)
      refine T_index (xs := l) (i := i) EncS rfl rfl (by first | rfl | omega) slc39 hl1 hS rfl ?_
      intro g1 o1 ha1
      refine L_run (R_loadA (vs := [.int .i64 ((l[i]).p.kind), .int .i64 ((l[i]).p.n), .slice ((l[i]).oa) ((l[i]).p.ops.length) ((l[i]).oc), .slice ((l[i]).ka) ((l[i]).p.keep.length) ((l[i]).kc), .int .i64 ((l[i]).p.torn), .int .i64 ((l[i]).p.cut)]) rfl agg86 (At.pre ha1 rfl) rfl) rfl ?_
      refine L_alloc (cs := [.int .i64 0, .int .i64 0, .slice none 0 0, .slice none 0 0, .int .i64 0, .int .i64 0]) zer86 rfl rfl ?_
      intro g2 w2 eg1 hb1 hs1 hz1
      have ge1 : w.heap.size ≤ g2 := eg_ge hB eg1
      replace hB := gb_tr hB hs1
      replace hS := hS.gb hs1
      replace hV := hV.gb hs1
      replace ha1 := At.gb ha1 hs1 (by simp)
      refine L_run (R_assign rfl) rfl ?_
      refine L_stA (vs := [.int .i64 ((l[i]).p.kind), .int .i64 ((l[i]).p.n), .slice ((l[i]).oa) ((l[i]).p.ops.length) ((l[i]).oc), .slice ((l[i]).ka) ((l[i]).p.keep.length) ((l[i]).kc), .int .i64 ((l[i]).p.torn), .int .i64 ((l[i]).p.cut)]) rfl rfl rfl sz86 rfl hb1 rfl ?_
      intro w3 hb2 hs2 hz2
      replace hB := gb_trg hB hs2 ge1
      replace hS := hS.old hs2 ge1
      replace hV := hV.old hs2 ge1
      refine L_nil (N_then (C_seq (C_reg rfl ?_)))
      refine L_run (R_field (r := 0) rfl fld86_0 rfl) rfl ?_
      refine L_run (R_load1 rfl scl3 (hb2.cell (i := 0) rfl)) rfl ?_
      refine L_run (R_eql rfl rfl) rfl ?_
      refine L_run (R_move rfl) rfl ?_
      refine L_splitD (p := (l[i]).p.kind = 4) (fun h2 => ?_) (fun h2 => ?_)
      · refine L_yes rfl rfl rfl (decide_eq_true h2) ?_
        refine L_run (R_move rfl) rfl ?_
        refine L_yes rfl rfl rfl (decide_eq_true h2) ?_
        refine L_run (R_move rfl) rfl ?_
        refine L_yes rfl rfl rfl (decide_eq_true h2) ?_
        have hl2 : i < ev.length := by first | omega | (simp; omega)
        refine T_index (xs := ev) (i := i) EncEv rfl rfl (by first | rfl | omega) slc48 hl2 hV rfl ?_
        intro g3 o2 ha2
        refine L_yes rfl rfl rfl (decide_eq_true h2) ?_
        refine L_run (R_field rfl fld87_1 rfl) rfl ?_
        refine L_yes rfl rfl rfl (decide_eq_true h2) ?_
        refine L_run (R_load1 rfl scl42 (ha2 1 _ rfl)) rfl ?_
        refine L_yes rfl rfl rfl (decide_eq_true h2) ?_
        refine L_run (R_eql rfl rfl) rfl ?_
        refine L_run (R_pickT rfl (decide_eq_true h2) rfl) rfl ?_
        refine L_nil (N_then ?_)
        refine C_if rfl (fun h3 => ?_) (fun h3 => ?_)
        · refine C_reg rfl ?_
          refine L_run (R_move rfl) rfl ?_
          refine L_run (R_add64 rfl rfl (by omega)) rfl ?_
          refine L_run (R_assign rfl) rfl ?_
          refine L_nil (N_in (N_then (C_reg rfl ?_)))
          refine L_run (R_add64 rfl rfl (by omega)) rfl ?_
          refine L_run (R_move rfl) rfl ?_
          refine L_nil (N_then ?_)
          have hg_ := crN_go (l := l) (ev := ev) hli hlj
          rw [if_pos (by omega)] at hg_
          exact ⟨l.length - (i + 1), by omega, _, (i + 1), (nn + 1), Ac_frg ⟨rfl, rfl, rfl, (agr rfl (by first | rfl | (congr 1; omega) | (congr 1; simp; done) | (congr 1; simp only [IntKind.wrap_u64, IntKind.wrap_i64, IntKind.wrap_u8]; omega) | (congr 1 <;> omega))), rfl, rfl, (agr rfl (by first | rfl | (congr 1; omega) | (congr 1; simp; done) | (congr 1; simp only [IntKind.wrap_u64, IntKind.wrap_i64, IntKind.wrap_u8]; omega) | (congr 1 <;> omega))), trivial⟩, hB, hS, hV, (by omega), (by rw [hg_]; omega), rfl⟩
        · refine C_skip (N_in (N_then (C_reg rfl ?_)))
          refine L_run (R_add64 rfl rfl (by omega)) rfl ?_
          refine L_run (R_move rfl) rfl ?_
          refine L_nil (N_then ?_)
          have hg_ := crN_go (l := l) (ev := ev) hli hlj
          rw [if_neg (by omega)] at hg_
          exact ⟨l.length - (i + 1), by omega, _, (i + 1), nn, Ac_frg ⟨rfl, rfl, rfl, rfl, rfl, rfl, (agr rfl (by first | rfl | (congr 1; omega) | (congr 1; simp; done) | (congr 1; simp only [IntKind.wrap_u64, IntKind.wrap_i64, IntKind.wrap_u8]; omega) | (congr 1 <;> omega))), trivial⟩, hB, hS, hV, (by omega), (by rw [hg_]; omega), rfl⟩
      · refine L_no rfl rfl rfl (decide_eq_false h2) rfl ?_
        refine L_no rfl rfl rfl (decide_eq_false h2) rfl ?_
        refine L_no rfl rfl rfl (decide_eq_false h2) rfl ?_
        refine L_no rfl rfl rfl (decide_eq_false h2) rfl ?_
        refine L_no rfl rfl rfl (decide_eq_false h2) rfl ?_
        refine L_no rfl rfl rfl (decide_eq_false h2) rfl ?_
        refine L_run (R_pickF rfl (decide_eq_false h2) rfl) rfl ?_
        refine L_nil (N_then (C_condF rfl rfl (C_skip (N_in (N_then (C_reg rfl ?_))))))
        refine L_run (R_add64 rfl rfl (by omega)) rfl ?_
        refine L_run (R_move rfl) rfl ?_
        refine L_nil (N_then ?_)
        have hg_ := crN_go (l := l) (ev := ev) hli hlj
        rw [if_neg (by omega)] at hg_
        exact ⟨l.length - (i + 1), by omega, _, (i + 1), nn, Ac_frg ⟨rfl, rfl, rfl, rfl, rfl, rfl, (agr rfl (by first | rfl | (congr 1; omega) | (congr 1; simp; done) | (congr 1; simp only [IntKind.wrap_u64, IntKind.wrap_i64, IntKind.wrap_u8]; omega) | (congr 1 <;> omega))), trivial⟩, hB, hS, hV, (by omega), (by rw [hg_]; omega), rfl⟩
    · refine C_exit (X_then (X_then (X_hit (N_then (C_seq (C_reg rfl ?_))))))
      refine L_run (R_move rfl) rfl ?_
      refine L_run (R_assign rfl) rfl ?_
      refine L_nil (N_then (C_ret ?_))
      refine ret1 Try.results38 rfl ?_
      have et_ : (l.zip ev).take i = l.zip ev := List.take_of_length_le (by rw [List.length_zip]; omega)
      rw [et_] at hcr; exact ⟨hB, by rw [hcr]⟩

theorem lostF {w : World} {l : List StepD} {ev : List EvD} {A A2 : Option Addr} {c c2 : Nat} (hS0 : Sli 0 0 w.heap.size w A (fl encS l)) (hD0 : DeepS w.heap.size w l) (hV0 : Sli 0 0 w.heap.size w A2 (fl encEv ev)) (hW0 : DeepV w.heap.size w ev) (hf : FewSs l) (hev : ev.length ≤ 80) (hpr : ∀ x ∈ ev, x.prs.length ≤ 100) (hlc : l.length ≤ c) (hc : (Rb l ev).1 < (l.zip ev).length) :
    Runs Try.prog 17 #[.slice A l.length c, .slice A2 ev.length c2] w (fun v_ w' => w.grownBy w' none ∧ ∃ A' c', v_ = .slice A' (Rb l ev).2.2.length c' ∧ Sli 0 0 w'.heap.size w' A' (fl encZ (Rb l ev).2.2)) := by
  have hB := gb_refl w none
  have hS := hS0
  have hD := hD0
  have hV := hV0
  have hW := hW0
  have hz1 : (l.zip ev).length = min l.length ev.length := List.length_zip
  have hrl := Rb_lost (l := l) (ev := ev)
  have hf80 := hf.2
  refine enter Try.func17 Try.ntmps17 rfl rfl ?_
  refine C_seq (C_reg rfl ?_)
  refine L_run (R_assign rfl) rfl ?_
  refine L_nil (N_then (C_seq (C_reg rfl ?_)))
  refine L_run (R_build (pv := [(2, .bool true)]) (cs := [.slice none 0 0, .int .i64 0, .bool true, .slice none 0 0]) rfl (by kernel_rfl)) rfl ?_
  have hBq := hB
  have wq_ := hB.size
  have hS_q := hS
  have hD_q := hD
  have hV_q := hV
  have hW_q := hW
  refine L_box (cs := [.slice none 0 0, .int .i64 0, .bool true, .slice none 0 0]) rfl rfl rfl ?_
  intro g1 w1 eg1 hb1 hs1 hz1
  have ge1 : w.heap.size ≤ g1 := eg_ge hB eg1
  replace hB := gb_tr hB hs1
  replace hS := hS.gb hs1
  replace hD := hD.gb hs1
  replace hV := hV.gb hs1
  replace hW := hW.gb hs1
  refine L_run (R_assign rfl) rfl ?_
  refine L_nil (N_then (C_seq (C_reg rfl ?_)))
  have hBz := hs1
  have gbz : w.heap.size ≤ g1 := Nat.le_of_eq eg1.symm
  refine L_run (R_move rfl) rfl ?_
  refine L_run (R_move rfl) rfl ?_
  refine L_run (R_move rfl) rfl ?_
  refine L_call rfl cb35 (keepF (w := w) hc (show BkM w w1 g1 ⟨[], 0, true⟩ [] from ⟨none, 0, none, 0, hb1, .inl (own_nil _ _ _ _), own_nil _ _ _ _⟩) hBz gbz (Sli.any hS_q) hD_q.top (Sli.any hV_q) hW_q.top hf hev hpr) rfl ?_
  rintro _ w2 ⟨hsz, wz, bz, lz, yz, rfl, hz0, hz5, ⟨A_1, c_1, A_2, c_2, hb2, hrl1, ho1⟩, hy_, hLO⟩
  have hB := gb_tr hBq hsz
  have hS := hS0.gb hB
  have hD := hD0.gb hB
  have hV := hV0.gb hB
  have hW := hW0.gb hB
  have hRl : (Rb l ev).1 < l.length := by omega
  have hlz : lz.length ≤ 1000 := by
    have hcl_ : (Rb l ev).2.2.length ≤ 80 := by
      rw [hrl]; unfold crN; exact Nat.le_trans (List.length_filter_le _ _) (by rw [List.length_zip, List.length_take]; omega)
    rcases hLO with h_ | ⟨_, x_, h_⟩
    · rw [h_]; omega
    · rw [h_, List.length_append, List.length_cons, List.length_nil]; omega
  have hyk : (l[(Rb l ev).1]).p.kind = yz.p.kind := by rw [List.getElem?_eq_getElem hRl] at hy_; rw [Option.some.inj hy_]
  refine L_run (R_move rfl) rfl ?_
  refine L_run (R_extract rfl rfl) rfl ?_
  refine L_run (R_extract rfl rfl) rfl ?_
  refine L_run (R_assign rfl) rfl ?_
  refine L_run (R_assign rfl) rfl ?_
  refine L_nil (N_then (C_seq (C_seq ?_)))
  refine C_draw2 rfl mix ?_
  intro w3 hs3 hz2
  replace hB := gb_tr hB hs3
  replace hS := hS.gb hs3
  replace hD := hD.gb hs3
  replace hV := hV.gb hs3
  replace hW := hW.gb hs3
  replace hb2 := hb2.gb hs3
  replace ho1 := own_gb ho1 hs3
  have hl1 : ((Rb l ev).1) < l.length := by first | omega | (simp; omega)
  obtain ⟨g2, o1, r1, eA1, er1, ha1⟩ := Sli.place' (xs := l) (i := ((Rb l ev).1)) EncS hS hl1 rfl
  refine ⟨fun W_ => Blk W_ g1 92 [.slice A_1 bz.l.length c_1, .int .i64 bz.syn, .bool bz.has, .slice A_2 lz.length c_2] ∧ At W_ g2 r1 [.int .i64 ((l[((Rb l ev).1)]).p.kind), .int .i64 ((l[((Rb l ev).1)]).p.n), .slice ((l[((Rb l ev).1)]).oa) ((l[((Rb l ev).1)]).p.ops.length) ((l[((Rb l ev).1)]).oc), .slice ((l[((Rb l ev).1)]).ka) ((l[((Rb l ev).1)]).p.keep.length) ((l[((Rb l ev).1)]).kc), .int .i64 ((l[((Rb l ev).1)]).p.torn), .int .i64 ((l[((Rb l ev).1)]).p.cut)] ∧ True, [0, 1, 2, 3, 4, 5, 6, 7, 8, 9, 10, 11, 12, 13, 14, 15, 16, 17, 18, 19, 20, 21, 22, 23, 24, 25, 26, 27, 29, 31, 32], ?_⟩
  refine T_takeA (i := 0) rfl (by kernel_rfl) (by kernel_rfl) (by kernel_rfl) (by kernel_rfl) (Y_of (fun _ ⟨hb2, ha1, _⟩ => R_move rfl)) ⟨hb2, ha1, trivial⟩ rfl ?_
  refine T_takeA (i := 1) rfl (by kernel_rfl) (by kernel_rfl) (by kernel_rfl) (by kernel_rfl) (Y_of (fun _ ⟨hb2, ha1, _⟩ => R_eqv (R_geq rfl rfl) (v' := .bool true) ((congrArg Value.bool (decide_eq_true (by omega)))))) ⟨hb2, ha1, trivial⟩ rfl ?_
  refine T_takeA (i := 2) rfl (by kernel_rfl) (by kernel_rfl) (by kernel_rfl) (by kernel_rfl) (Y_of (fun _ ⟨hb2, ha1, _⟩ => R_move rfl)) ⟨hb2, ha1, trivial⟩ rfl ?_
  refine T_takeA (i := 3) rfl (by kernel_rfl) (by kernel_rfl) (by kernel_rfl) (by kernel_rfl) (Y_yes rfl rfl rfl rfl (fun _ ⟨hb2, ha1, _⟩ => R_move rfl)) ⟨hb2, ha1, trivial⟩ rfl ?_
  refine T_takeA (i := 4) rfl (by kernel_rfl) (by kernel_rfl) (by kernel_rfl) (by kernel_rfl) (Y_yes rfl rfl rfl rfl (fun _ ⟨hb2, ha1, _⟩ => R_eqv (R_neq rfl rfl) (v' := .bool true) ((congrArg Value.bool (decide_eq_true (by omega)))))) ⟨hb2, ha1, trivial⟩ rfl ?_
  refine T_takeA (i := 5) rfl (by kernel_rfl) (by kernel_rfl) (by kernel_rfl) (by kernel_rfl) (Y_of (fun _ ⟨hb2, ha1, _⟩ => R_pickT rfl rfl rfl)) ⟨hb2, ha1, trivial⟩ rfl ?_
  refine T_takeA (i := 6) rfl (by kernel_rfl) (by kernel_rfl) (by kernel_rfl) (by kernel_rfl) (Y_of (fun _ ⟨hb2, ha1, _⟩ => R_move rfl)) ⟨hb2, ha1, trivial⟩ rfl ?_
  refine T_takeA (i := 7) rfl (by kernel_rfl) (by kernel_rfl) (by kernel_rfl) (by kernel_rfl) (Y_yes rfl rfl rfl rfl (fun _ ⟨hb2, ha1, _⟩ => R_move rfl)) ⟨hb2, ha1, trivial⟩ rfl ?_
  refine T_takeA (i := 8) rfl (by kernel_rfl) (by kernel_rfl) (by kernel_rfl) (by kernel_rfl) (Y_yes rfl rfl rfl rfl (fun _ ⟨hb2, ha1, _⟩ => R_move rfl)) ⟨hb2, ha1, trivial⟩ rfl ?_
  refine T_takeA (i := 9) rfl (by kernel_rfl) (by kernel_rfl) (by kernel_rfl) (by kernel_rfl) (Y_yes rfl rfl rfl rfl (fun _ ⟨hb2, ha1, _⟩ => R_lenSl rfl slc39)) ⟨hb2, ha1, trivial⟩ rfl ?_
  refine T_takeA (i := 10) rfl (by kernel_rfl) (by kernel_rfl) (by kernel_rfl) (by kernel_rfl) (Y_yes rfl rfl rfl rfl (fun _ ⟨hb2, ha1, _⟩ => R_eqv (R_lss rfl rfl) (v' := .bool true) ((congrArg Value.bool (decide_eq_true (by omega)))))) ⟨hb2, ha1, trivial⟩ rfl ?_
  refine T_takeA (i := 11) rfl (by kernel_rfl) (by kernel_rfl) (by kernel_rfl) (by kernel_rfl) (Y_of (fun _ ⟨hb2, ha1, _⟩ => R_pickT rfl rfl rfl)) ⟨hb2, ha1, trivial⟩ rfl ?_
  refine T_takeA (i := 12) rfl (by kernel_rfl) (by kernel_rfl) (by kernel_rfl) (by kernel_rfl) (Y_of (fun _ ⟨hb2, ha1, _⟩ => R_move rfl)) ⟨hb2, ha1, trivial⟩ rfl ?_
  refine T_takeA (i := 13) rfl (by kernel_rfl) (by kernel_rfl) (by kernel_rfl) (by kernel_rfl) (Y_yes rfl rfl rfl rfl (fun _ ⟨hb2, ha1, _⟩ => R_move rfl)) ⟨hb2, ha1, trivial⟩ rfl ?_
  refine T_takeA (i := 14) rfl (by kernel_rfl) (by kernel_rfl) (by kernel_rfl) (by kernel_rfl) (Y_yes rfl rfl rfl rfl (fun _ ⟨hb2, ha1, _⟩ => R_move rfl)) ⟨hb2, ha1, trivial⟩ rfl ?_
  refine T_takeA (i := 15) rfl (by kernel_rfl) (by kernel_rfl) (by kernel_rfl) (by kernel_rfl) (Y_yes rfl rfl rfl rfl (fun _ ⟨hb2, ha1, _⟩ => R_indexE rfl rfl (by first | rfl | omega) slc39 hl1 eA1 er1)) ⟨hb2, ha1, trivial⟩ rfl ?_
  refine T_takeA (i := 16) rfl (by kernel_rfl) (by kernel_rfl) (by kernel_rfl) (by kernel_rfl) (Y_yes rfl rfl rfl rfl (fun _ ⟨hb2, ha1, _⟩ => R_field rfl fld86_0 rfl)) ⟨hb2, ha1, trivial⟩ rfl ?_
  refine T_takeA (i := 17) rfl (by kernel_rfl) (by kernel_rfl) (by kernel_rfl) (by kernel_rfl) (Y_yes rfl rfl rfl rfl (fun _ ⟨hb2, ha1, _⟩ => R_load1 rfl scl3 (ha1 0 _ rfl))) ⟨hb2, ha1, trivial⟩ rfl ?_
  refine T_takeA (i := 18) rfl (by kernel_rfl) (by kernel_rfl) (by kernel_rfl) (by kernel_rfl) (Y_yes rfl rfl rfl rfl (fun _ ⟨hb2, ha1, _⟩ => R_eql rfl rfl)) ⟨hb2, ha1, trivial⟩ rfl ?_
  refine T_takeA (i := 19) rfl (by kernel_rfl) (by kernel_rfl) (by kernel_rfl) (by kernel_rfl) (Y_of (fun _ ⟨hb2, ha1, _⟩ => R_pickT rfl rfl rfl)) ⟨hb2, ha1, trivial⟩ rfl ?_
  refine T_takeA (i := 20) rfl (by kernel_rfl) (by kernel_rfl) (by kernel_rfl) (by kernel_rfl) (Y_of (fun _ ⟨hb2, ha1, _⟩ => R_move rfl)) ⟨hb2, ha1, trivial⟩ rfl ?_
  by_cases h1 : (l[((Rb l ev).1)]).p.kind = 4
  · refine T_takeA (i := 21) rfl (by kernel_rfl) (by kernel_rfl) (by kernel_rfl) (by kernel_rfl) (Y_yes rfl rfl rfl (decide_eq_true h1) (fun _ ⟨hb2, ha1, _⟩ => R_move rfl)) ⟨hb2, ha1, trivial⟩ rfl ?_
    refine T_takeA (i := 22) rfl (by kernel_rfl) (by kernel_rfl) (by kernel_rfl) (by kernel_rfl) (Y_yes rfl rfl rfl (decide_eq_true h1) (fun _ ⟨hb2, ha1, _⟩ => R_nilck rfl)) ⟨hb2, ha1, trivial⟩ rfl ?_
    refine T_takeA (i := 23) rfl (by kernel_rfl) (by kernel_rfl) (by kernel_rfl) (by kernel_rfl) (Y_yes rfl rfl rfl (decide_eq_true h1) (fun _ ⟨hb2, ha1, _⟩ => R_field (r := 3) rfl fld92_3 rfl)) ⟨hb2, ha1, trivial⟩ rfl ?_
    refine T_takeA (i := 24) rfl (by kernel_rfl) (by kernel_rfl) (by kernel_rfl) (by kernel_rfl) (Y_yes rfl rfl rfl (decide_eq_true h1) (fun _ ⟨hb2, ha1, _⟩ => R_load1 rfl scl51 (hb2.cell (i := 3) rfl))) ⟨hb2, ha1, trivial⟩ rfl ?_
    refine T_takeA (i := 25) rfl (by kernel_rfl) (by kernel_rfl) (by kernel_rfl) (by kernel_rfl) (Y_yes rfl rfl rfl (decide_eq_true h1) (fun _ ⟨hb2, ha1, _⟩ => R_lenSl rfl slc51)) ⟨hb2, ha1, trivial⟩ rfl ?_
    refine T_takeA (i := 26) rfl (by kernel_rfl) (by kernel_rfl) (by kernel_rfl) (by kernel_rfl) (Y_yes rfl rfl rfl (decide_eq_true h1) (fun _ ⟨hb2, ha1, _⟩ => R_move rfl)) ⟨hb2, ha1, trivial⟩ rfl ?_
    refine T_takeA (i := 27) rfl (by kernel_rfl) (by kernel_rfl) (by kernel_rfl) (by kernel_rfl) (Y_yes rfl rfl rfl (decide_eq_true h1) (fun _ ⟨hb2, ha1, _⟩ => R_move rfl)) ⟨hb2, ha1, trivial⟩ rfl ?_
    refine T_takeA (i := 29) rfl (by kernel_rfl) (by kernel_rfl) (by kernel_rfl) (by kernel_rfl) (Y_yes rfl rfl rfl (decide_eq_true h1) (fun _ ⟨hb2, ha1, _⟩ => R_move rfl)) ⟨hb2, ha1, trivial⟩ rfl ?_
    refine T_all (rs := [28]) (by kernel_rfl) rfl (all1 (O_one rfl ?_))
    refine L_yes rfl rfl rfl (decide_eq_true h1) ?_
    refine T_slH (xs := l) (j := ((Rb l ev).1)) EncS rfl rfl (by first | rfl | omega) slc39 (by omega) hlc hS rfl ?_
    intro A_3 hS_1
    refine L_nil (N_then ⟨fun hN_ => ⟨hb2, ha1, trivial⟩, ?_⟩)
    refine T_all (rs := [30]) (by kernel_rfl) rfl (all1 (O_one rfl ?_))
    refine L_yes rfl rfl rfl (decide_eq_true h1) ?_
    refine L_call rfl cb38 (crashes_ok (l := l.take ((Rb l ev).1)) (ev := ev) hS_1 hV (by rw [List.length_take]; omega) (by rw [List.length_take]; omega)) rfl ?_
    rintro _ w4 ⟨hs4, rfl⟩
    replace hB := gb_tr hB hs4
    replace hS := hS.gb hs4
    replace hD := hD.gb hs4
    replace hV := hV.gb hs4
    replace hW := hW.gb hs4
    replace hb2 := hb2.gb hs4
    replace ho1 := own_gb ho1 hs4
    replace ha1 := At.gb ha1 hs4 (by simp)
    replace hS_1 := hS_1.gb hs4
    refine L_nil (N_then ⟨fun hN_ => ⟨hb2, ha1, trivial⟩, ?_⟩)
    refine T_takeA (i := 31) rfl (by kernel_rfl) (by kernel_rfl) (by kernel_rfl) (by kernel_rfl) (Y_yes rfl rfl rfl (decide_eq_true h1) (fun _ ⟨hb2, ha1, _⟩ => R_gtr rfl rfl)) ⟨hb2, ha1, trivial⟩ rfl ?_
    refine T_takeA (i := 32) rfl (by kernel_rfl) (by kernel_rfl) (by kernel_rfl) (by kernel_rfl) (Y_of (fun _ ⟨hb2, ha1, _⟩ => R_pickT rfl (decide_eq_true h1) rfl)) ⟨hb2, ha1, trivial⟩ rfl ?_
    refine T_done (by kernel_rfl) (CalmE.normal ?_)
    refine N_then ?_
    refine C_if rfl (fun h2 => ?_) (fun h2 => ?_)
    · refine C_seq ?_
      refine C_draw2 rfl mix ?_
      intro w5 hs5 hz3
      replace hB := gb_tr hB hs5
      replace hS := hS.gb hs5
      replace hD := hD.gb hs5
      replace hV := hV.gb hs5
      replace hW := hW.gb hs5
      replace hb2 := hb2.gb hs5
      replace ho1 := own_gb ho1 hs5
      replace ha1 := At.gb ha1 hs5 (by simp)
      replace hS_1 := hS_1.gb hs5
      refine ⟨fun W_ => Blk W_ g1 92 [.slice A_1 bz.l.length c_1, .int .i64 bz.syn, .bool bz.has, .slice A_2 lz.length c_2] ∧ True, [0, 1, 2, 3, 4, 5, 6, 7, 8, 9], ?_⟩
      refine T_takeA (i := 0) rfl (by kernel_rfl) (by kernel_rfl) (by kernel_rfl) (by kernel_rfl) (Y_of (fun _ ⟨hb2, _⟩ => R_move rfl)) ⟨hb2, trivial⟩ rfl ?_
      refine T_takeA (i := 1) rfl (by kernel_rfl) (by kernel_rfl) (by kernel_rfl) (by kernel_rfl) (Y_of (fun _ ⟨hb2, _⟩ => R_nilck rfl)) ⟨hb2, trivial⟩ rfl ?_
      refine T_takeA (i := 2) rfl (by kernel_rfl) (by kernel_rfl) (by kernel_rfl) (by kernel_rfl) (Y_of (fun _ ⟨hb2, _⟩ => R_field (r := 3) rfl fld92_3 rfl)) ⟨hb2, trivial⟩ rfl ?_
      refine T_takeA (i := 3) rfl (by kernel_rfl) (by kernel_rfl) (by kernel_rfl) (by kernel_rfl) (Y_of (fun _ ⟨hb2, _⟩ => R_load1 rfl scl51 (hb2.cell (i := 3) rfl))) ⟨hb2, trivial⟩ rfl ?_
      refine T_takeA (i := 4) rfl (by kernel_rfl) (by kernel_rfl) (by kernel_rfl) (by kernel_rfl) (Y_of (fun _ ⟨hb2, _⟩ => R_move rfl)) ⟨hb2, trivial⟩ rfl ?_
      refine T_takeA (i := 5) rfl (by kernel_rfl) (by kernel_rfl) (by kernel_rfl) (by kernel_rfl) (Y_of (fun _ ⟨hb2, _⟩ => R_nilck rfl)) ⟨hb2, trivial⟩ rfl ?_
      refine T_takeA (i := 6) rfl (by kernel_rfl) (by kernel_rfl) (by kernel_rfl) (by kernel_rfl) (Y_of (fun _ ⟨hb2, _⟩ => R_field (r := 3) rfl fld92_3 rfl)) ⟨hb2, trivial⟩ rfl ?_
      refine T_takeA (i := 7) rfl (by kernel_rfl) (by kernel_rfl) (by kernel_rfl) (by kernel_rfl) (Y_of (fun _ ⟨hb2, _⟩ => R_load1 rfl scl51 (hb2.cell (i := 3) rfl))) ⟨hb2, trivial⟩ rfl ?_
      refine T_takeA (i := 8) rfl (by kernel_rfl) (by kernel_rfl) (by kernel_rfl) (by kernel_rfl) (Y_of (fun _ ⟨hb2, _⟩ => R_lenSl rfl slc51)) ⟨hb2, trivial⟩ rfl ?_
      refine T_takeA (i := 9) rfl (by kernel_rfl) (by kernel_rfl) (by kernel_rfl) (by kernel_rfl) (Y_of (fun _ ⟨hb2, _⟩ => R_sub64 rfl rfl (by omega))) ⟨hb2, trivial⟩ rfl ?_
      refine T_all (rs := [10]) (by kernel_rfl) rfl (all1 (O_one rfl ?_))
      refine T_slH (xs := lz) (j := (lz.length - 1)) EncZ rfl rfl (by omega) slc51 (by omega) (own_cap ho1) (own_of ho1).2.2 rfl ?_
      intro A_4 hS_2
      refine L_nil (N_then ⟨fun hN_ => ⟨hb2, trivial⟩, ?_⟩)
      refine T_switch (S' := fun _ => True) (qs' := [11]) (by kernel_rfl) ?_
      refine T_takeA (i := 11) rfl (by kernel_rfl) (by kernel_rfl) (by kernel_rfl) (by kernel_rfl) (Y_of (fun _ _ => R_assign rfl)) trivial rfl ?_
      refine T_done (by kernel_rfl) (CalmE.normal ?_)
      refine N_then (C_ret (R_then ?_))
      refine ret1 Try.results17 rfl ?_
      have ex_ : lz.take (lz.length - 1) = (Rb l ev).2.2 := by
        rcases hLO with rfl | ⟨_, x_, rfl⟩
        · omega
        · simp
      have hs_ := Sli.any hS_2
      rw [ex_] at hs_ ⊢
      exact ⟨hB, _, _, rfl, hs_⟩
    · refine C_skip (N_then (C_seq (C_reg rfl ?_)))
      refine L_run (R_move rfl) rfl ?_
      refine L_run (R_nilck rfl) rfl ?_
      refine L_run (R_field (r := 3) rfl fld92_3 rfl) rfl ?_
      refine L_run (R_load1 rfl scl51 (hb2.cell (i := 3) rfl)) rfl ?_
      refine L_run (R_assign rfl) rfl ?_
      refine L_nil (N_then (C_ret ?_))
      refine ret1 Try.results17 rfl ?_
      have ex_ : lz = (Rb l ev).2.2 := by
        rcases hLO with h_ | ⟨hk_, x_, h_⟩
        · exact h_
        · exfalso; have hll_ := congrArg List.length h_; rw [List.length_append, List.length_cons, List.length_nil] at hll_; omega
      have hs_ := Sli.any (own_of ho1).2.2
      rw [ex_] at hs_ ⊢
      exact ⟨hB, _, _, rfl, hs_⟩
  · refine T_takeA (i := 21) rfl (by kernel_rfl) (by kernel_rfl) (by kernel_rfl) (by kernel_rfl) (Y_no rfl rfl rfl (decide_eq_false h1)) ⟨hb2, ha1, trivial⟩ rfl ?_
    refine T_takeA (i := 22) rfl (by kernel_rfl) (by kernel_rfl) (by kernel_rfl) (by kernel_rfl) (Y_no rfl rfl rfl (decide_eq_false h1)) ⟨hb2, ha1, trivial⟩ rfl ?_
    refine T_takeA (i := 23) rfl (by kernel_rfl) (by kernel_rfl) (by kernel_rfl) (by kernel_rfl) (Y_no rfl rfl rfl (decide_eq_false h1)) ⟨hb2, ha1, trivial⟩ rfl ?_
    refine T_takeA (i := 24) rfl (by kernel_rfl) (by kernel_rfl) (by kernel_rfl) (by kernel_rfl) (Y_no rfl rfl rfl (decide_eq_false h1)) ⟨hb2, ha1, trivial⟩ rfl ?_
    refine T_takeA (i := 25) rfl (by kernel_rfl) (by kernel_rfl) (by kernel_rfl) (by kernel_rfl) (Y_no rfl rfl rfl (decide_eq_false h1)) ⟨hb2, ha1, trivial⟩ rfl ?_
    refine T_takeA (i := 26) rfl (by kernel_rfl) (by kernel_rfl) (by kernel_rfl) (by kernel_rfl) (Y_no rfl rfl rfl (decide_eq_false h1)) ⟨hb2, ha1, trivial⟩ rfl ?_
    refine T_takeA (i := 27) rfl (by kernel_rfl) (by kernel_rfl) (by kernel_rfl) (by kernel_rfl) (Y_no rfl rfl rfl (decide_eq_false h1)) ⟨hb2, ha1, trivial⟩ rfl ?_
    refine T_takeA (i := 29) rfl (by kernel_rfl) (by kernel_rfl) (by kernel_rfl) (by kernel_rfl) (Y_no rfl rfl rfl (decide_eq_false h1)) ⟨hb2, ha1, trivial⟩ rfl ?_
    refine T_all (rs := [28]) (by kernel_rfl) rfl (all1 (O_one rfl ?_))
    refine L_no rfl rfl rfl (decide_eq_false h1) rfl ?_
    refine L_nil (N_then ⟨fun hN_ => ⟨hb2, ha1, trivial⟩, ?_⟩)
    refine T_all (rs := [30]) (by kernel_rfl) rfl (all1 (O_one rfl ?_))
    refine L_no rfl rfl rfl (decide_eq_false h1) rfl ?_
    refine L_nil (N_then ⟨fun hN_ => ⟨hb2, ha1, trivial⟩, ?_⟩)
    refine T_takeA (i := 31) rfl (by kernel_rfl) (by kernel_rfl) (by kernel_rfl) (by kernel_rfl) (Y_no rfl rfl rfl (decide_eq_false h1)) ⟨hb2, ha1, trivial⟩ rfl ?_
    refine T_takeA (i := 32) rfl (by kernel_rfl) (by kernel_rfl) (by kernel_rfl) (by kernel_rfl) (Y_of (fun _ ⟨hb2, ha1, _⟩ => R_pickF rfl (decide_eq_false h1) rfl)) ⟨hb2, ha1, trivial⟩ rfl ?_
    refine T_done (by kernel_rfl) (CalmE.normal ?_)
    refine N_then (C_condF rfl rfl (C_skip (N_then (C_seq (C_reg rfl ?_)))))
    refine L_run (R_move rfl) rfl ?_
    refine L_run (R_nilck rfl) rfl ?_
    refine L_run (R_field (r := 3) rfl fld92_3 rfl) rfl ?_
    refine L_run (R_load1 rfl scl51 (hb2.cell (i := 3) rfl)) rfl ?_
    refine L_run (R_assign rfl) rfl ?_
    refine L_nil (N_then (C_ret ?_))
    refine ret1 Try.results17 rfl ?_
    have ex_ : lz = (Rb l ev).2.2 := by
      rcases hLO with h_ | ⟨hk_, x_, h_⟩
      · exact h_
      · exfalso; have hll_ := congrArg List.length h_; rw [List.length_append, List.length_cons, List.length_nil] at hll_; omega
    have hs_ := Sli.any (own_of ho1).2.2
    rw [ex_] at hs_ ⊢
    exact ⟨hB, _, _, rfl, hs_⟩

theorem lostE {w : World} {l : List StepD} {ev : List EvD} {A A2 : Option Addr} {c c2 : Nat} (hS0 : Sli 0 0 w.heap.size w A (fl encS l)) (hD0 : DeepS w.heap.size w l) (hV0 : Sli 0 0 w.heap.size w A2 (fl encEv ev)) (hW0 : DeepV w.heap.size w ev) (hf : FewSs l) (hev : ev.length ≤ 80) (hpr : ∀ x ∈ ev, x.prs.length ≤ 100) (hlc : l.length ≤ c) (hc : (Rb l ev).1 = (l.zip ev).length) (hl : l.length = ev.length) :
    Runs Try.prog 17 #[.slice A l.length c, .slice A2 ev.length c2] w (fun v_ w' => w.grownBy w' none ∧ ∃ A' c', v_ = .slice A' (Rb l ev).2.2.length c' ∧ Sli 0 0 w'.heap.size w' A' (fl encZ (Rb l ev).2.2)) := by
  have hB := gb_refl w none
  have hS := hS0
  have hD := hD0
  have hV := hV0
  have hW := hW0
  have hz1 : (l.zip ev).length = min l.length ev.length := List.length_zip
  have hrl := Rb_lost (l := l) (ev := ev)
  have hf80 := hf.2
  refine enter Try.func17 Try.ntmps17 rfl rfl ?_
  refine C_seq (C_reg rfl ?_)
  refine L_run (R_assign rfl) rfl ?_
  refine L_nil (N_then (C_seq (C_reg rfl ?_)))
  refine L_run (R_build (pv := [(2, .bool true)]) (cs := [.slice none 0 0, .int .i64 0, .bool true, .slice none 0 0]) rfl (by kernel_rfl)) rfl ?_
  have hBq := hB
  have wq_ := hB.size
  have hS_q := hS
  have hD_q := hD
  have hV_q := hV
  have hW_q := hW
  refine L_box (cs := [.slice none 0 0, .int .i64 0, .bool true, .slice none 0 0]) rfl rfl rfl ?_
  intro g1 w1 eg1 hb1 hs1 hz1
  have ge1 : w.heap.size ≤ g1 := eg_ge hB eg1
  replace hB := gb_tr hB hs1
  replace hS := hS.gb hs1
  replace hD := hD.gb hs1
  replace hV := hV.gb hs1
  replace hW := hW.gb hs1
  refine L_run (R_assign rfl) rfl ?_
  refine L_nil (N_then (C_seq (C_reg rfl ?_)))
  have hBz := hs1
  have gbz : w.heap.size ≤ g1 := Nat.le_of_eq eg1.symm
  refine L_run (R_move rfl) rfl ?_
  refine L_run (R_move rfl) rfl ?_
  refine L_run (R_move rfl) rfl ?_
  refine L_call rfl cb35 (keepE (w := w) hc hl (show BkM w w1 g1 ⟨[], 0, true⟩ [] from ⟨none, 0, none, 0, hb1, .inl (own_nil _ _ _ _), own_nil _ _ _ _⟩) hBz gbz (Sli.any hS_q) hD_q.top (Sli.any hV_q) hW_q.top hf hev hpr) rfl ?_
  rintro _ w2 ⟨hsz, rfl, ⟨A_1, c_1, A_2, c_2, hb2, hrl1, ho1⟩⟩
  have hB := gb_tr hBq hsz
  have hS := hS0.gb hB
  have hD := hD0.gb hB
  have hV := hV0.gb hB
  have hW := hW0.gb hB
  refine L_run (R_move rfl) rfl ?_
  refine L_run (R_extract rfl rfl) rfl ?_
  refine L_run (R_extract rfl rfl) rfl ?_
  refine L_run (R_assign rfl) rfl ?_
  refine L_run (R_assign rfl) rfl ?_
  refine L_nil (N_then (C_seq (C_seq ?_)))
  refine C_draw2 rfl mix ?_
  intro w3 hs3 hz2
  replace hB := gb_tr hB hs3
  replace hS := hS.gb hs3
  replace hD := hD.gb hs3
  replace hV := hV.gb hs3
  replace hW := hW.gb hs3
  replace hb2 := hb2.gb hs3
  replace ho1 := own_gb ho1 hs3
  refine ⟨fun W_ => True, [0, 1, 2, 3, 4, 5, 6, 7, 8, 9, 10, 11, 12, 13, 14, 15, 16, 17, 18, 19, 20, 21, 22, 23, 24, 25, 26, 27, 29, 31, 32], ?_⟩
  refine T_takeA (i := 0) rfl (by kernel_rfl) (by kernel_rfl) (by kernel_rfl) (by kernel_rfl) (Y_of (fun _ _ => R_move rfl)) trivial rfl ?_
  refine T_takeA (i := 1) rfl (by kernel_rfl) (by kernel_rfl) (by kernel_rfl) (by kernel_rfl) (Y_of (fun _ _ => R_eqv (R_geq rfl rfl) (v' := .bool false) rfl)) trivial rfl ?_
  refine T_takeA (i := 2) rfl (by kernel_rfl) (by kernel_rfl) (by kernel_rfl) (by kernel_rfl) (Y_of (fun _ _ => R_move rfl)) trivial rfl ?_
  refine T_takeA (i := 3) rfl (by kernel_rfl) (by kernel_rfl) (by kernel_rfl) (by kernel_rfl) (Y_no rfl rfl rfl rfl) trivial rfl ?_
  refine T_takeA (i := 4) rfl (by kernel_rfl) (by kernel_rfl) (by kernel_rfl) (by kernel_rfl) (Y_no rfl rfl rfl rfl) trivial rfl ?_
  refine T_takeA (i := 5) rfl (by kernel_rfl) (by kernel_rfl) (by kernel_rfl) (by kernel_rfl) (Y_of (fun _ _ => R_pickF rfl rfl rfl)) trivial rfl ?_
  refine T_takeA (i := 6) rfl (by kernel_rfl) (by kernel_rfl) (by kernel_rfl) (by kernel_rfl) (Y_of (fun _ _ => R_move rfl)) trivial rfl ?_
  refine T_takeA (i := 7) rfl (by kernel_rfl) (by kernel_rfl) (by kernel_rfl) (by kernel_rfl) (Y_no rfl rfl rfl rfl) trivial rfl ?_
  refine T_takeA (i := 8) rfl (by kernel_rfl) (by kernel_rfl) (by kernel_rfl) (by kernel_rfl) (Y_no rfl rfl rfl rfl) trivial rfl ?_
  refine T_takeA (i := 9) rfl (by kernel_rfl) (by kernel_rfl) (by kernel_rfl) (by kernel_rfl) (Y_no rfl rfl rfl rfl) trivial rfl ?_
  refine T_takeA (i := 10) rfl (by kernel_rfl) (by kernel_rfl) (by kernel_rfl) (by kernel_rfl) (Y_no rfl rfl rfl rfl) trivial rfl ?_
  refine T_takeA (i := 11) rfl (by kernel_rfl) (by kernel_rfl) (by kernel_rfl) (by kernel_rfl) (Y_of (fun _ _ => R_pickF rfl rfl rfl)) trivial rfl ?_
  refine T_takeA (i := 12) rfl (by kernel_rfl) (by kernel_rfl) (by kernel_rfl) (by kernel_rfl) (Y_of (fun _ _ => R_move rfl)) trivial rfl ?_
  refine T_takeA (i := 13) rfl (by kernel_rfl) (by kernel_rfl) (by kernel_rfl) (by kernel_rfl) (Y_no rfl rfl rfl rfl) trivial rfl ?_
  refine T_takeA (i := 14) rfl (by kernel_rfl) (by kernel_rfl) (by kernel_rfl) (by kernel_rfl) (Y_no rfl rfl rfl rfl) trivial rfl ?_
  refine T_takeA (i := 15) rfl (by kernel_rfl) (by kernel_rfl) (by kernel_rfl) (by kernel_rfl) (Y_no rfl rfl rfl rfl) trivial rfl ?_
  refine T_takeA (i := 16) rfl (by kernel_rfl) (by kernel_rfl) (by kernel_rfl) (by kernel_rfl) (Y_no rfl rfl rfl rfl) trivial rfl ?_
  refine T_takeA (i := 17) rfl (by kernel_rfl) (by kernel_rfl) (by kernel_rfl) (by kernel_rfl) (Y_no rfl rfl rfl rfl) trivial rfl ?_
  refine T_takeA (i := 18) rfl (by kernel_rfl) (by kernel_rfl) (by kernel_rfl) (by kernel_rfl) (Y_no rfl rfl rfl rfl) trivial rfl ?_
  refine T_takeA (i := 19) rfl (by kernel_rfl) (by kernel_rfl) (by kernel_rfl) (by kernel_rfl) (Y_of (fun _ _ => R_pickF rfl rfl rfl)) trivial rfl ?_
  refine T_takeA (i := 20) rfl (by kernel_rfl) (by kernel_rfl) (by kernel_rfl) (by kernel_rfl) (Y_of (fun _ _ => R_move rfl)) trivial rfl ?_
  refine T_takeA (i := 21) rfl (by kernel_rfl) (by kernel_rfl) (by kernel_rfl) (by kernel_rfl) (Y_no rfl rfl rfl rfl) trivial rfl ?_
  refine T_takeA (i := 22) rfl (by kernel_rfl) (by kernel_rfl) (by kernel_rfl) (by kernel_rfl) (Y_no rfl rfl rfl rfl) trivial rfl ?_
  refine T_takeA (i := 23) rfl (by kernel_rfl) (by kernel_rfl) (by kernel_rfl) (by kernel_rfl) (Y_no rfl rfl rfl rfl) trivial rfl ?_
  refine T_takeA (i := 24) rfl (by kernel_rfl) (by kernel_rfl) (by kernel_rfl) (by kernel_rfl) (Y_no rfl rfl rfl rfl) trivial rfl ?_
  refine T_takeA (i := 25) rfl (by kernel_rfl) (by kernel_rfl) (by kernel_rfl) (by kernel_rfl) (Y_no rfl rfl rfl rfl) trivial rfl ?_
  refine T_takeA (i := 26) rfl (by kernel_rfl) (by kernel_rfl) (by kernel_rfl) (by kernel_rfl) (Y_no rfl rfl rfl rfl) trivial rfl ?_
  refine T_takeA (i := 27) rfl (by kernel_rfl) (by kernel_rfl) (by kernel_rfl) (by kernel_rfl) (Y_no rfl rfl rfl rfl) trivial rfl ?_
  refine T_takeA (i := 29) rfl (by kernel_rfl) (by kernel_rfl) (by kernel_rfl) (by kernel_rfl) (Y_no rfl rfl rfl rfl) trivial rfl ?_
  refine T_all (rs := [28]) (by kernel_rfl) rfl (all1 (O_one rfl ?_))
  refine L_no rfl rfl rfl rfl rfl ?_
  refine L_nil (N_then ⟨fun hN_ => trivial, ?_⟩)
  refine T_all (rs := [30]) (by kernel_rfl) rfl (all1 (O_one rfl ?_))
  refine L_no rfl rfl rfl rfl rfl ?_
  refine L_nil (N_then ⟨fun hN_ => trivial, ?_⟩)
  refine T_takeA (i := 31) rfl (by kernel_rfl) (by kernel_rfl) (by kernel_rfl) (by kernel_rfl) (Y_no rfl rfl rfl rfl) trivial rfl ?_
  refine T_takeA (i := 32) rfl (by kernel_rfl) (by kernel_rfl) (by kernel_rfl) (by kernel_rfl) (Y_of (fun _ _ => R_pickF rfl rfl rfl)) trivial rfl ?_
  refine T_done (by kernel_rfl) (CalmE.normal ?_)
  refine N_then (C_condF rfl rfl (C_skip (N_then (C_seq (C_reg rfl ?_)))))
  refine L_run (R_move rfl) rfl ?_
  refine L_run (R_nilck rfl) rfl ?_
  refine L_run (R_field (r := 3) rfl fld92_3 rfl) rfl ?_
  refine L_run (R_load1 rfl scl51 (hb2.cell (i := 3) rfl)) rfl ?_
  refine L_run (R_assign rfl) rfl ?_
  refine L_nil (N_then (C_ret ?_))
  refine ret1 Try.results17 rfl ?_
  exact ⟨hB, _, _, rfl, Sli.any (own_of ho1).2.2⟩

theorem lostL {w : World} {l : List StepD} {ev : List EvD} {A A2 : Option Addr} {c c2 : Nat} (hS0 : Sli 0 0 w.heap.size w A (fl encS l)) (hD0 : DeepS w.heap.size w l) (hV0 : Sli 0 0 w.heap.size w A2 (fl encEv ev)) (hW0 : DeepV w.heap.size w ev) (hf : FewSs l) (hev : ev.length ≤ 80) (hpr : ∀ x ∈ ev, x.prs.length ≤ 100) (hlc : l.length ≤ c) (hc : (Rb l ev).1 = (l.zip ev).length) (hl : l.length ≠ ev.length) :
    Runs Try.prog 17 #[.slice A l.length c, .slice A2 ev.length c2] w (fun v_ w' => w.grownBy w' none ∧ ∃ A' c', v_ = .slice A' (Rb l ev).2.2.length c' ∧ Sli 0 0 w'.heap.size w' A' (fl encZ (Rb l ev).2.2)) := by
  have hB := gb_refl w none
  have hS := hS0
  have hD := hD0
  have hV := hV0
  have hW := hW0
  have hz1 : (l.zip ev).length = min l.length ev.length := List.length_zip
  have hrl := Rb_lost (l := l) (ev := ev)
  have hf80 := hf.2
  refine enter Try.func17 Try.ntmps17 rfl rfl ?_
  refine C_seq (C_reg rfl ?_)
  refine L_run (R_assign rfl) rfl ?_
  refine L_nil (N_then (C_seq (C_reg rfl ?_)))
  refine L_run (R_build (pv := [(2, .bool true)]) (cs := [.slice none 0 0, .int .i64 0, .bool true, .slice none 0 0]) rfl (by kernel_rfl)) rfl ?_
  have hBq := hB
  have wq_ := hB.size
  have hS_q := hS
  have hD_q := hD
  have hV_q := hV
  have hW_q := hW
  refine L_box (cs := [.slice none 0 0, .int .i64 0, .bool true, .slice none 0 0]) rfl rfl rfl ?_
  intro g1 w1 eg1 hb1 hs1 hz1
  have ge1 : w.heap.size ≤ g1 := eg_ge hB eg1
  replace hB := gb_tr hB hs1
  replace hS := hS.gb hs1
  replace hD := hD.gb hs1
  replace hV := hV.gb hs1
  replace hW := hW.gb hs1
  refine L_run (R_assign rfl) rfl ?_
  refine L_nil (N_then (C_seq (C_reg rfl ?_)))
  have hBz := hs1
  have gbz : w.heap.size ≤ g1 := Nat.le_of_eq eg1.symm
  refine L_run (R_move rfl) rfl ?_
  refine L_run (R_move rfl) rfl ?_
  refine L_run (R_move rfl) rfl ?_
  refine L_call rfl cb35 (keepL (w := w) hc hl (show BkM w w1 g1 ⟨[], 0, true⟩ [] from ⟨none, 0, none, 0, hb1, .inl (own_nil _ _ _ _), own_nil _ _ _ _⟩) hBz gbz (Sli.any hS_q) hD_q.top (Sli.any hV_q) hW_q.top hf hev hpr) rfl ?_
  rintro _ w2 ⟨hsz, rfl, ⟨A_1, c_1, A_2, c_2, hb2, hrl1, ho1⟩⟩
  have hB := gb_tr hBq hsz
  have hS := hS0.gb hB
  have hD := hD0.gb hB
  have hV := hV0.gb hB
  have hW := hW0.gb hB
  refine L_run (R_move rfl) rfl ?_
  refine L_run (R_extract rfl rfl) rfl ?_
  refine L_run (R_extract rfl rfl) rfl ?_
  refine L_run (R_assign rfl) rfl ?_
  refine L_run (R_assign rfl) rfl ?_
  refine L_nil (N_then (C_seq (C_seq ?_)))
  refine C_draw2 rfl mix ?_
  intro w3 hs3 hz2
  replace hB := gb_tr hB hs3
  replace hS := hS.gb hs3
  replace hD := hD.gb hs3
  replace hV := hV.gb hs3
  replace hW := hW.gb hs3
  replace hb2 := hb2.gb hs3
  replace ho1 := own_gb ho1 hs3
  refine ⟨fun W_ => True, [0, 1, 2, 3, 4, 5, 6, 7, 8, 9, 10, 11, 12, 13, 14, 15, 16, 17, 18, 19, 20, 21, 22, 23, 24, 25, 26, 27, 29, 31, 32], ?_⟩
  refine T_takeA (i := 0) rfl (by kernel_rfl) (by kernel_rfl) (by kernel_rfl) (by kernel_rfl) (Y_of (fun _ _ => R_move rfl)) trivial rfl ?_
  refine T_takeA (i := 1) rfl (by kernel_rfl) (by kernel_rfl) (by kernel_rfl) (by kernel_rfl) (Y_of (fun _ _ => R_eqv (R_geq rfl rfl) (v' := .bool true) ((congrArg Value.bool (decide_eq_true (by omega)))))) trivial rfl ?_
  refine T_takeA (i := 2) rfl (by kernel_rfl) (by kernel_rfl) (by kernel_rfl) (by kernel_rfl) (Y_of (fun _ _ => R_move rfl)) trivial rfl ?_
  refine T_takeA (i := 3) rfl (by kernel_rfl) (by kernel_rfl) (by kernel_rfl) (by kernel_rfl) (Y_yes rfl rfl rfl rfl (fun _ _ => R_move rfl)) trivial rfl ?_
  refine T_takeA (i := 4) rfl (by kernel_rfl) (by kernel_rfl) (by kernel_rfl) (by kernel_rfl) (Y_yes rfl rfl rfl rfl (fun _ _ => R_eqv (R_neq rfl rfl) (v' := .bool false) rfl)) trivial rfl ?_
  refine T_takeA (i := 5) rfl (by kernel_rfl) (by kernel_rfl) (by kernel_rfl) (by kernel_rfl) (Y_of (fun _ _ => R_pickT rfl rfl rfl)) trivial rfl ?_
  refine T_takeA (i := 6) rfl (by kernel_rfl) (by kernel_rfl) (by kernel_rfl) (by kernel_rfl) (Y_of (fun _ _ => R_move rfl)) trivial rfl ?_
  refine T_takeA (i := 7) rfl (by kernel_rfl) (by kernel_rfl) (by kernel_rfl) (by kernel_rfl) (Y_no rfl rfl rfl rfl) trivial rfl ?_
  refine T_takeA (i := 8) rfl (by kernel_rfl) (by kernel_rfl) (by kernel_rfl) (by kernel_rfl) (Y_no rfl rfl rfl rfl) trivial rfl ?_
  refine T_takeA (i := 9) rfl (by kernel_rfl) (by kernel_rfl) (by kernel_rfl) (by kernel_rfl) (Y_no rfl rfl rfl rfl) trivial rfl ?_
  refine T_takeA (i := 10) rfl (by kernel_rfl) (by kernel_rfl) (by kernel_rfl) (by kernel_rfl) (Y_no rfl rfl rfl rfl) trivial rfl ?_
  refine T_takeA (i := 11) rfl (by kernel_rfl) (by kernel_rfl) (by kernel_rfl) (by kernel_rfl) (Y_of (fun _ _ => R_pickF rfl rfl rfl)) trivial rfl ?_
  refine T_takeA (i := 12) rfl (by kernel_rfl) (by kernel_rfl) (by kernel_rfl) (by kernel_rfl) (Y_of (fun _ _ => R_move rfl)) trivial rfl ?_
  refine T_takeA (i := 13) rfl (by kernel_rfl) (by kernel_rfl) (by kernel_rfl) (by kernel_rfl) (Y_no rfl rfl rfl rfl) trivial rfl ?_
  refine T_takeA (i := 14) rfl (by kernel_rfl) (by kernel_rfl) (by kernel_rfl) (by kernel_rfl) (Y_no rfl rfl rfl rfl) trivial rfl ?_
  refine T_takeA (i := 15) rfl (by kernel_rfl) (by kernel_rfl) (by kernel_rfl) (by kernel_rfl) (Y_no rfl rfl rfl rfl) trivial rfl ?_
  refine T_takeA (i := 16) rfl (by kernel_rfl) (by kernel_rfl) (by kernel_rfl) (by kernel_rfl) (Y_no rfl rfl rfl rfl) trivial rfl ?_
  refine T_takeA (i := 17) rfl (by kernel_rfl) (by kernel_rfl) (by kernel_rfl) (by kernel_rfl) (Y_no rfl rfl rfl rfl) trivial rfl ?_
  refine T_takeA (i := 18) rfl (by kernel_rfl) (by kernel_rfl) (by kernel_rfl) (by kernel_rfl) (Y_no rfl rfl rfl rfl) trivial rfl ?_
  refine T_takeA (i := 19) rfl (by kernel_rfl) (by kernel_rfl) (by kernel_rfl) (by kernel_rfl) (Y_of (fun _ _ => R_pickF rfl rfl rfl)) trivial rfl ?_
  refine T_takeA (i := 20) rfl (by kernel_rfl) (by kernel_rfl) (by kernel_rfl) (by kernel_rfl) (Y_of (fun _ _ => R_move rfl)) trivial rfl ?_
  refine T_takeA (i := 21) rfl (by kernel_rfl) (by kernel_rfl) (by kernel_rfl) (by kernel_rfl) (Y_no rfl rfl rfl rfl) trivial rfl ?_
  refine T_takeA (i := 22) rfl (by kernel_rfl) (by kernel_rfl) (by kernel_rfl) (by kernel_rfl) (Y_no rfl rfl rfl rfl) trivial rfl ?_
  refine T_takeA (i := 23) rfl (by kernel_rfl) (by kernel_rfl) (by kernel_rfl) (by kernel_rfl) (Y_no rfl rfl rfl rfl) trivial rfl ?_
  refine T_takeA (i := 24) rfl (by kernel_rfl) (by kernel_rfl) (by kernel_rfl) (by kernel_rfl) (Y_no rfl rfl rfl rfl) trivial rfl ?_
  refine T_takeA (i := 25) rfl (by kernel_rfl) (by kernel_rfl) (by kernel_rfl) (by kernel_rfl) (Y_no rfl rfl rfl rfl) trivial rfl ?_
  refine T_takeA (i := 26) rfl (by kernel_rfl) (by kernel_rfl) (by kernel_rfl) (by kernel_rfl) (Y_no rfl rfl rfl rfl) trivial rfl ?_
  refine T_takeA (i := 27) rfl (by kernel_rfl) (by kernel_rfl) (by kernel_rfl) (by kernel_rfl) (Y_no rfl rfl rfl rfl) trivial rfl ?_
  refine T_takeA (i := 29) rfl (by kernel_rfl) (by kernel_rfl) (by kernel_rfl) (by kernel_rfl) (Y_no rfl rfl rfl rfl) trivial rfl ?_
  refine T_all (rs := [28]) (by kernel_rfl) rfl (all1 (O_one rfl ?_))
  refine L_no rfl rfl rfl rfl rfl ?_
  refine L_nil (N_then ⟨fun hN_ => trivial, ?_⟩)
  refine T_all (rs := [30]) (by kernel_rfl) rfl (all1 (O_one rfl ?_))
  refine L_no rfl rfl rfl rfl rfl ?_
  refine L_nil (N_then ⟨fun hN_ => trivial, ?_⟩)
  refine T_takeA (i := 31) rfl (by kernel_rfl) (by kernel_rfl) (by kernel_rfl) (by kernel_rfl) (Y_no rfl rfl rfl rfl) trivial rfl ?_
  refine T_takeA (i := 32) rfl (by kernel_rfl) (by kernel_rfl) (by kernel_rfl) (by kernel_rfl) (Y_of (fun _ _ => R_pickF rfl rfl rfl)) trivial rfl ?_
  refine T_done (by kernel_rfl) (CalmE.normal ?_)
  refine N_then (C_condF rfl rfl (C_skip (N_then (C_seq (C_reg rfl ?_)))))
  refine L_run (R_move rfl) rfl ?_
  refine L_run (R_nilck rfl) rfl ?_
  refine L_run (R_field (r := 3) rfl fld92_3 rfl) rfl ?_
  refine L_run (R_load1 rfl scl51 (hb2.cell (i := 3) rfl)) rfl ?_
  refine L_run (R_assign rfl) rfl ?_
  refine L_nil (N_then (C_ret ?_))
  refine ret1 Try.results17 rfl ?_
  exact ⟨hB, _, _, rfl, Sli.any (own_of ho1).2.2⟩

theorem lost_ok {w : World} {l : List StepD} {ev : List EvD} {A A2 : Option Addr} {c c2 : Nat} (hS0 : Sli 0 0 w.heap.size w A (fl encS l)) (hD0 : DeepS w.heap.size w l) (hV0 : Sli 0 0 w.heap.size w A2 (fl encEv ev)) (hW0 : DeepV w.heap.size w ev) (hf : FewSs l) (hev : ev.length ≤ 80) (hpr : ∀ x ∈ ev, x.prs.length ≤ 100) (hlc : l.length ≤ c) : Runs Try.prog 17 #[.slice A l.length c, .slice A2 ev.length c2] w (fun v_ w' => w.grownBy w' none ∧ ∃ A' c', v_ = .slice A' (Rb l ev).2.2.length c' ∧ Sli 0 0 w'.heap.size w' A' (fl encZ (Rb l ev).2.2)) := by
  rcases Nat.lt_or_ge (Rb l ev).1 (l.zip ev).length with hc | hc
  · exact lostF hS0 hD0 hV0 hW0 hf hev hpr hlc hc
  · have hc' := Nat.le_antisymm Rb_le hc
    by_cases hl : l.length = ev.length
    · exact lostE hS0 hD0 hV0 hW0 hf hev hpr hlc hc' hl
    · exact lostL hS0 hD0 hV0 hW0 hf hev hpr hlc hc' hl
end Go.Proofs.Ytbmohojdlgedpaa
