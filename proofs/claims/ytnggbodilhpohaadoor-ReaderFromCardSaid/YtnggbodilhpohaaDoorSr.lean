/-
  Contracts of the reference of scans.
-/
import Derived.Test.YtnggbodilhpohaaDoorSq
namespace Go.Proofs.YtnggbodilhpohaaDoor
open Go.RowKit Gw Pl
set_option linter.unusedVariables false
set_option linter.unusedSimpArgs false
theorem agg31 : aggB Tryd.prog 31 4 = true := by kernel_rfl
theorem cb16 : callB Tryd.prog 16 = true := by kernel_rfl
theorem fld31_0 : fldB Tryd.prog 31 0 0 = true := by kernel_rfl
theorem fld31_1 : fldB Tryd.prog 31 1 1 = true := by kernel_rfl
theorem fld31_2 : fldB Tryd.prog 31 2 2 = true := by kernel_rfl
theorem fld31_3 : fldB Tryd.prog 31 3 3 = true := by kernel_rfl
theorem scl28 : sclB Tryd.prog 28 = true := by kernel_rfl
theorem scl29 : sclB Tryd.prog 29 = true := by kernel_rfl
theorem slc28 : slcB Tryd.prog 28 25 1 24 = true := by kernel_rfl
theorem slc29 : slcB Tryd.prog 29 3 1 8 = true := by kernel_rfl
theorem sz28 : szB Tryd.prog 28 1 = true := by kernel_rfl
theorem sz29 : szB Tryd.prog 29 1 = true := by kernel_rfl
theorem sz31 : szB Tryd.prog 31 4 = true := by kernel_rfl
theorem zer31 : (Tryd.prog.info? 31).bind (·.zero) = some (.agg #[.slice none 0 0, .slice none 0 0, .int .i64 0, .int .i64 0]) := by kernel_rfl
def encZ (n : Int) : List Value := [.int .i64 n]
theorem EncZ : Enc encZ 1 := ⟨fun _ => rfl, fun _ => rfl⟩
/-- Rows of bytes within a row, each in memory of its own kind. -/
def DeepY (t : Nat) (w : World) (ls : List Bys) : Prop := ∀ y ∈ ls, Sli t 0 w.heap.size w y.a (fl encB y.xs)
section
variable {t : Nat} {w w' : World} {ls : List Bys}
theorem DeepY.nil : DeepY t w [] := fun y hy => by cases hy
theorem DeepY.gb (h : DeepY t w ls) (hg : w.grownBy w' none) : DeepY t w' ls := fun y hy => sli_zero ((h y hy).gb hg)
theorem DeepY.other {g t' : Nat} {cs : List Value} (h : DeepY t w ls) (hb : Blk w g t' cs) (h0 : Nat.beq t 0 = false) (hne : Nat.beq t t' = false) (hg : w.grownBy w' (some g)) : DeepY t w' ls := fun y hy => sli_zero ((h y hy).other hb h0 hne hg)
theorem DeepY.otherO {base t' sz m : Nat} {v : Value} {us : List Value} (h : DeepY t w ls) (ho : w.ownsRow base t' sz v m us) (h0 : Nat.beq t 0 = false) (hne : Nat.beq t t' = false) (hg : w.grownBy w' v.ownBlock) : DeepY t w' ls := fun y hy => sli_zero ((h y hy).otherO ho h0 hne hg)
theorem DeepY.snoc {y : Bys} {lo hi : Nat} (h : DeepY t w ls) (h1 : Sli t lo hi w y.a (fl encB y.xs)) : DeepY t w (ls ++ [y]) := by
  intro z hz
  rcases List.mem_append.1 hz with hz | hz
  · exact h z hz
  · rw [List.mem_singleton] at hz
    subst hz
    exact sli_zero h1
theorem DeepY.get (h : DeepY t w ls) {i : Nat} (hi' : i < ls.length) : Sli t 0 w.heap.size w ls[i].a (fl encB ls[i].xs) := h _ (List.getElem_mem _)
end
/-- These records stand at these places. -/
def GoodR (ss : List Sx) (e : Nat) (R : List Bys) (Pl : List Int) : Prop := R.length = Pl.length ∧ ∀ (i : Nat) (y : Bys) (z : Int), R[i]? = some y → Pl[i]? = some z → 0 ≤ z ∧ z ≤ 832 ∧ ∃ en, fromR ss e z = some (y.xs, en)
theorem GoodR.nil {ss : List Sx} {e : Nat} : GoodR ss e [] [] := ⟨rfl, fun i y z h => by simp at h⟩
theorem GoodR.snoc {ss : List Sx} {e en f : Nat} {R : List Bys} {Pl : List Int} {y : Bys} (h : GoodR ss e R Pl) (hf : f ≤ 832) (hx : fromN e (flatB (bsOf ss) e 16) (flatO (bsOf ss) e 16) 833 f false [] = some (y.xs, en)) : GoodR ss e (R ++ [y]) (Pl ++ [(f : Int)]) := by
  refine ⟨by simp [h.1], ?_⟩
  intro i y' z h1 h2
  rcases Nat.lt_or_ge i R.length with hi | hi
  · rw [List.getElem?_append_left hi] at h1
    rw [List.getElem?_append_left (by rw [← h.1]; exact hi)] at h2
    exact h.2 i y' z h1 h2
  · rw [List.getElem?_append_right hi] at h1
    rw [List.getElem?_append_right (by rw [← h.1]; exact hi)] at h2
    have e1 : i - R.length = 0 := by
      rcases Nat.eq_zero_or_pos (i - R.length) with q | q
      · exact q
      · rw [List.getElem?_eq_none (by simp; omega)] at h1; cases h1
    rw [e1] at h1
    rw [← h.1, e1] at h2
    simp only [List.getElem?_cons_zero, Option.some.injEq] at h1 h2
    subst h1
    subst h2
    exact ⟨by omega, by omega, en, by rw [fromR_in hf]; exact hx⟩
theorem GoodR.get {ss : List Sx} {e i : Nat} {R : List Bys} {Pl : List Int} (h : GoodR ss e R Pl) (h1 : i < R.length) (h2 : i < Pl.length) : ∃ en, fromR ss e Pl[i] = some (R[i].xs, en) := (h.2 i _ _ (List.getElem?_eq_getElem h1) (List.getElem?_eq_getElem h2)).2.2
/-- What a scan has come to: the record that is open began here. -/
def OpenR (ss : List Sx) (e p f : Nat) (o : Bool) (bs : List UInt8) : Prop := if o then f ≤ 832 ∧ ∃ fu, 832 < beginN p + fu ∧ fromN e (flatB (bsOf ss) e 16) (flatO (bsOf ss) e 16) fu (beginN p) true bs = fromN e (flatB (bsOf ss) e 16) (flatO (bsOf ss) e 16) 833 f false [] else bs = []
theorem OpenR.at {ss : List Sx} {e p f : Nat} {o : Bool} {bs : List UInt8} (hp : p ≤ 832) (h : OpenR ss e p f o bs) : (if o = true then f else beginN p) ≤ 832 ∧ ∃ fu, 832 < beginN p + fu ∧ fromN e (flatB (bsOf ss) e 16) (flatO (bsOf ss) e 16) fu (beginN p) o bs = fromN e (flatB (bsOf ss) e 16) (flatO (bsOf ss) e 16) 833 (if o = true then f else beginN p) false [] := by
  have hb := beginN_le hp
  cases o
  · simp only [OpenR, Bool.false_eq_true, if_false] at h ⊢
    subst h
    exact ⟨hb.2, 833, by omega, rfl⟩
  · simp only [OpenR, if_true] at h ⊢
    exact h
theorem open_go {ss : List Sx} {e p f k n : Nat} {o : Bool} {bs d : List UInt8} (hp : p ≤ 832) (h : OpenR ss e p f o bs) (hacc : accN e (flatB (bsOf ss) e 16) (flatO (bsOf ss) e 16) (beginN p) = ((k, d), n)) (hn : 11 ≤ n) (hpn : beginN p + n ≤ 832)
    (h0 : (feedN o bs k d).2.2.2 = 0) (h1 : (feedN o bs k d).2.2.1 = false) : OpenR ss e (beginN p + n) (if o = true then f else beginN p) (feedN o bs k d).1.1 (feedN o bs k d).1.2 := by
  obtain ⟨h2, fu, h3, h4⟩ := h.at hp
  have h5 := from_go hacc hn (by omega) h4 h0 h1
  have hb := beginN_le hpn
  unfold OpenR
  rw [feedN_go h0 h1] at h5 ⊢
  exact ⟨h2, fu - 1, by omega, h5⟩
theorem open_fin {ss : List Sx} {e p f k n : Nat} {o : Bool} {bs d : List UInt8} (hp : p ≤ 832) (h : OpenR ss e p f o bs) (hacc : accN e (flatB (bsOf ss) e 16) (flatO (bsOf ss) e 16) (beginN p) = ((k, d), n)) (hn : 11 ≤ n) (hpn : beginN p + n ≤ 832)
    (h0 : (feedN o bs k d).2.2.2 = 0) (h1 : (feedN o bs k d).2.2.1 = true) : (if o = true then f else beginN p) ≤ 832 ∧ fromN e (flatB (bsOf ss) e 16) (flatO (bsOf ss) e 16) 833 (if o = true then f else beginN p) false [] = some ((feedN o bs k d).2.1, beginN p + n) ∧ OpenR ss e (beginN p + n) (if o = true then f else beginN p) (feedN o bs k d).1.1 (feedN o bs k d).1.2 := by
  obtain ⟨h2, fu, h3, h4⟩ := h.at hp
  refine ⟨h2, from_fin hacc hn (by omega) h4 h0 h1, ?_⟩
  have : (feedN o bs k d).1 = (false, []) := by
    unfold feedN at *
    repeat' split at *
    all_goals simp_all
  unfold OpenR
  rw [this]
  rfl
theorem rest_ok {w : World} {t1 lo hi : Nat} {A : Option Addr} {c n : Nat} {ss : List Sx} (hS : Sli t1 lo hi w A (fl encX ss)) :
    Runs Tryd.prog 16 #[.slice A ss.length c, .int .i64 (n : Int)] w (fun v w' => w.grownBy w' none ∧ ∃ b, v = .bool b) := by
  have hB := gb_refl w none
  replace hS := hS.top
  refine enter Tryd.func16 Tryd.ntmps16 rfl rfl ?_
  refine C_seq (C_reg rfl ?_)
  refine L_run (R_assign rfl) rfl ?_
  refine L_nil (N_then (C_seq (C_reg rfl ?_)))
  refine L_run (R_move rfl) rfl ?_
  refine L_call rfl cb29 (near7 (n := n)) rfl ?_
  rintro _ w1 ⟨hs1, rfl⟩
  replace hB := gb_tr hB hs1
  replace hS := hS.gb hs1
  refine L_run (R_assign rfl) rfl ?_
  refine L_nil (N_then (C_seq (C_seq (C_reg rfl ?_))))
  refine L_run (R_assign rfl) rfl ?_
  refine L_nil (N_then (C_block ?_))
  refine C_loop (fun m_ a_ w_ => ∃ (σ_ : Nat → Value) (i : Nat), a_ = Ac 49 σ_ [] [(0, .slice A ss.length c), (1, .int .i64 ((min n 832 : Nat) : Int)), (4, .bool false), (5, .int .i64 (i : Int))] ∧ w.grownBy w_ none ∧ Sli t1 lo w.heap.size w_ A (fl encX ss) ∧ (i ≤ 16) ∧ 16 - i = m_) (16 - 0) ?_ ?_
  · exact ⟨_, 0, Ac_frg ⟨rfl, rfl, rfl, (agr rfl (by first | rfl | (congr 1; omega) | (congr 1; simp; done) | (congr 1; simp only [IntKind.wrap_u64, IntKind.wrap_i64, IntKind.wrap_u8]; omega) | (congr 1 <;> omega))), trivial⟩, hB, hS, (by omega), rfl⟩
  · clear hB
    clear hS
    rintro m_ a_ w2 ⟨σ_, i, rfl, hB, hS, hi, rfl⟩
    refine C_seq (C_seq (C_reg rfl ?_))
    refine L_run (R_move rfl) rfl ?_
    refine L_run (R_move rfl) rfl ?_
    refine L_run (R_lenSl rfl slc23) rfl ?_
    refine L_run (R_lss rfl rfl) rfl ?_
    refine L_run (R_move rfl) rfl ?_
    refine L_splitD (p := (i : Int) < (ss.length : Int)) (fun h1 => ?_) (fun h1 => ?_)
    · refine L_yes rfl rfl rfl (decide_eq_true h1) ?_
      refine L_run (R_move rfl) rfl ?_
      refine L_yes rfl rfl rfl (decide_eq_true h1) ?_
      refine L_run (R_lss rfl rfl) rfl ?_
      refine L_run (R_pickT rfl (decide_eq_true h1) rfl) rfl ?_
      refine L_nil (N_then ?_)
      refine C_if rfl (fun h2 => ?_) (fun h2 => ?_)
      · refine C_skip (N_then (C_seq (C_block (C_seq (C_reg rfl ?_)))))
        refine L_run (R_assign rfl) rfl ?_
        refine L_nil (N_then (C_block ?_))
        refine C_loop (fun m_ a_ w_ => ∃ (σ_ : Nat → Value) (q : Nat), a_ = Ac 49 σ_ [] [(0, .slice A ss.length c), (1, .int .i64 ((min n 832 : Nat) : Int)), (4, .bool false), (5, .int .i64 (i : Int)), (6, .int .i64 (q : Int))] ∧ w.grownBy w_ none ∧ Sli t1 lo w.heap.size w_ A (fl encX ss) ∧ (q ≤ 64) ∧ 64 - q = m_) (64 - 0) ?_ ?_
        · exact ⟨_, 0, Ac_frg ⟨rfl, rfl, rfl, rfl, (agr rfl (by first | rfl | (congr 1; omega) | (congr 1; simp; done) | (congr 1; simp only [IntKind.wrap_u64, IntKind.wrap_i64, IntKind.wrap_u8]; omega) | (congr 1 <;> omega))), trivial⟩, hB, hS, (by omega), rfl⟩
        · clear hB
          clear hS
          rintro m_ a_ w3 ⟨σ_, q, rfl, hB, hS, hq, rfl⟩
          refine C_seq (C_seq (C_reg rfl ?_))
          refine L_run (R_move rfl) rfl ?_
          refine L_run (R_lss rfl rfl) rfl ?_
          refine L_nil (N_then ?_)
          refine C_if rfl (fun h3 => ?_) (fun h3 => ?_)
          · refine C_skip (N_then (C_seq (C_block (C_seq (C_reg rfl ?_)))))
            refine L_run (R_move rfl) rfl ?_
            refine L_run (R_move rfl) rfl ?_
            refine L_run (R_move rfl) rfl ?_
            have hl1 : i < ss.length := by first | omega | (simp; omega)
            refine T_index (xs := ss) (i := i) EncX rfl rfl (by first | rfl | omega) slc23 hl1 hS rfl ?_
            intro g1 o1 ha1
            replace ha1 : At w3 g1 o1 (fl encB ss[i].b) := ha1
            refine L_run (R_indexArr (i := q) (r := (o1 + q)) rfl rfl (by first | rfl | omega) arr70 (by omega) (by omega)) rfl ?_
            have hl2 : q < (ss[i].b).length := by rw [ss[i].h]; omega
            refine L_run (R_load1 rfl scl5 (ha1 q _ (fl_atB hl2))) rfl ?_
            refine L_run (R_neq rfl rfl) rfl ?_
            refine L_run (R_move rfl) rfl ?_
            refine L_splitD (p := ((ss[i].b)[q].toNat : Int) ≠ 0) (fun h4 => ?_) (fun h4 => ?_)
            · refine L_yes rfl rfl rfl (decide_eq_true h4) ?_
              refine L_run (R_move rfl) rfl ?_
              refine L_yes rfl rfl rfl (decide_eq_true h4) ?_
              refine L_run (R_mul64 rfl rfl (by omega)) rfl ?_
              refine L_yes rfl rfl rfl (decide_eq_true h4) ?_
              refine L_run (R_move rfl) rfl ?_
              refine L_yes rfl rfl rfl (decide_eq_true h4) ?_
              refine L_run (R_geq rfl rfl) rfl ?_
              refine L_yes rfl rfl rfl (decide_eq_true h4) ?_
              refine L_run (R_move rfl) rfl ?_
              refine L_splitD (p := ((min n 832 : Nat) : Int) ≤ (52 * (i : Int))) (fun h5 => ?_) (fun h5 => ?_)
              · refine L_no rfl rfl rfl (decide_eq_true h5) rfl ?_
                refine L_no rfl rfl rfl (decide_eq_true h5) rfl ?_
                refine L_no rfl rfl rfl (decide_eq_true h5) rfl ?_
                refine L_noU rfl rfl rfl rfl ?_
                refine L_noU rfl rfl rfl rfl ?_
                refine L_noU rfl rfl rfl rfl ?_
                refine L_noU rfl rfl rfl rfl ?_
                refine L_noU rfl rfl rfl rfl ?_
                refine L_noU rfl rfl rfl rfl ?_
                refine L_noU rfl rfl rfl rfl ?_
                refine L_no rfl rfl rfl (decide_eq_true h5) rfl ?_
                refine L_yes rfl rfl rfl (decide_eq_true h4) ?_
                refine L_run (R_pickT rfl (decide_eq_true h5) rfl) rfl ?_
                refine L_run (R_pickT rfl (decide_eq_true h4) rfl) rfl ?_
                refine L_nil (N_then (C_condT rfl rfl (C_seq (C_reg rfl ?_))))
                refine L_run (R_assign rfl) rfl ?_
                refine L_nil (N_then (C_ret (R_in (R_then (R_then (R_in (R_in (R_then (R_then (R_in (R_then ?_)))))))))))
                refine ret1 Tryd.results16 rfl ?_
                exact ⟨hB, _, rfl⟩
              · refine L_yes rfl rfl rfl (decide_eq_false h5) ?_
                refine L_run (R_move rfl) rfl ?_
                refine L_yes rfl rfl rfl (decide_eq_false h5) ?_
                refine L_run (R_geq rfl rfl) rfl ?_
                refine L_yes rfl rfl rfl (decide_eq_false h5) ?_
                refine L_run (R_move rfl) rfl ?_
                refine L_splitD (p := 12 ≤ (q : Int)) (fun h6 => ?_) (fun h6 => ?_)
                · refine L_yes rfl rfl rfl (decide_eq_true h6) ?_
                  refine L_run (R_move rfl) rfl ?_
                  refine L_yes rfl rfl rfl (decide_eq_true h6) ?_
                  refine L_run (R_mul64 rfl rfl (by omega)) rfl ?_
                  refine L_yes rfl rfl rfl (decide_eq_true h6) ?_
                  refine L_run (R_move rfl) rfl ?_
                  refine L_yes rfl rfl rfl (decide_eq_true h6) ?_
                  refine L_run (R_add64 rfl rfl (by omega)) rfl ?_
                  refine L_yes rfl rfl rfl (decide_eq_true h6) ?_
                  refine L_run (R_sub64 rfl rfl (by omega)) rfl ?_
                  refine L_yes rfl rfl rfl (decide_eq_true h6) ?_
                  refine L_run (R_move rfl) rfl ?_
                  refine L_yes rfl rfl rfl (decide_eq_true h6) ?_
                  refine L_run (R_geq rfl rfl) rfl ?_
                  refine L_yes rfl rfl rfl (decide_eq_false h5) ?_
                  refine L_run (R_pickT rfl (decide_eq_true h6) rfl) rfl ?_
                  refine L_yes rfl rfl rfl (decide_eq_true h4) ?_
                  refine L_run (R_pickF rfl (decide_eq_false h5) rfl) rfl ?_
                  refine L_run (R_pickT rfl (decide_eq_true h4) rfl) rfl ?_
                  refine L_nil (N_then ?_)
                  refine C_if rfl (fun h7 => ?_) (fun h7 => ?_)
                  · refine C_seq (C_reg rfl ?_)
                    refine L_run (R_assign rfl) rfl ?_
                    refine L_nil (N_then (C_ret (R_in (R_then (R_then (R_in (R_in (R_then (R_then (R_in (R_then ?_)))))))))))
                    refine ret1 Tryd.results16 rfl ?_
                    exact ⟨hB, _, rfl⟩
                  · refine C_skip (N_in (N_then (C_reg rfl ?_)))
                    refine L_run (R_move rfl) rfl ?_
                    refine L_run (R_add64 rfl rfl (by omega)) rfl ?_
                    refine L_run (R_assign rfl) rfl ?_
                    refine L_nil (N_then ?_)
                    exact ⟨64 - (q + 1), by omega, _, (q + 1), Ac_frg ⟨rfl, rfl, rfl, rfl, (agr rfl (by first | rfl | (congr 1; omega) | (congr 1; simp; done) | (congr 1; simp only [IntKind.wrap_u64, IntKind.wrap_i64, IntKind.wrap_u8]; omega) | (congr 1 <;> omega))), trivial⟩, hB, hS, (by omega), rfl⟩
                · refine L_no rfl rfl rfl (decide_eq_false h6) rfl ?_
                  refine L_no rfl rfl rfl (decide_eq_false h6) rfl ?_
                  refine L_no rfl rfl rfl (decide_eq_false h6) rfl ?_
                  refine L_no rfl rfl rfl (decide_eq_false h6) rfl ?_
                  refine L_no rfl rfl rfl (decide_eq_false h6) rfl ?_
                  refine L_no rfl rfl rfl (decide_eq_false h6) rfl ?_
                  refine L_no rfl rfl rfl (decide_eq_false h6) rfl ?_
                  refine L_yes rfl rfl rfl (decide_eq_false h5) ?_
                  refine L_run (R_pickF rfl (decide_eq_false h6) rfl) rfl ?_
                  refine L_yes rfl rfl rfl (decide_eq_true h4) ?_
                  refine L_run (R_pickF rfl (decide_eq_false h5) rfl) rfl ?_
                  refine L_run (R_pickT rfl (decide_eq_true h4) rfl) rfl ?_
                  refine L_nil (N_then (C_condF rfl rfl (C_skip (N_in (N_then (C_reg rfl ?_))))))
                  refine L_run (R_move rfl) rfl ?_
                  refine L_run (R_add64 rfl rfl (by omega)) rfl ?_
                  refine L_run (R_assign rfl) rfl ?_
                  refine L_nil (N_then ?_)
                  exact ⟨64 - (q + 1), by omega, _, (q + 1), Ac_frg ⟨rfl, rfl, rfl, rfl, (agr rfl (by first | rfl | (congr 1; omega) | (congr 1; simp; done) | (congr 1; simp only [IntKind.wrap_u64, IntKind.wrap_i64, IntKind.wrap_u8]; omega) | (congr 1 <;> omega))), trivial⟩, hB, hS, (by omega), rfl⟩
            · refine L_no rfl rfl rfl (decide_eq_false h4) rfl ?_
              refine L_no rfl rfl rfl (decide_eq_false h4) rfl ?_
              refine L_no rfl rfl rfl (decide_eq_false h4) rfl ?_
              refine L_no rfl rfl rfl (decide_eq_false h4) rfl ?_
              refine L_no rfl rfl rfl (decide_eq_false h4) rfl ?_
              refine L_noU rfl rfl rfl rfl ?_
              refine L_noU rfl rfl rfl rfl ?_
              refine L_noU rfl rfl rfl rfl ?_
              refine L_noU rfl rfl rfl rfl ?_
              refine L_noU rfl rfl rfl rfl ?_
              refine L_noU rfl rfl rfl rfl ?_
              refine L_noU rfl rfl rfl rfl ?_
              refine L_noU rfl rfl rfl rfl ?_
              refine L_noU rfl rfl rfl rfl ?_
              refine L_noU rfl rfl rfl rfl ?_
              refine L_noU rfl rfl rfl rfl ?_
              refine L_no rfl rfl rfl (decide_eq_false h4) rfl ?_
              refine L_run (R_pickF rfl (decide_eq_false h4) rfl) rfl ?_
              refine L_nil (N_then (C_condF rfl rfl (C_skip (N_in (N_then (C_reg rfl ?_))))))
              refine L_run (R_move rfl) rfl ?_
              refine L_run (R_add64 rfl rfl (by omega)) rfl ?_
              refine L_run (R_assign rfl) rfl ?_
              refine L_nil (N_then ?_)
              exact ⟨64 - (q + 1), by omega, _, (q + 1), Ac_frg ⟨rfl, rfl, rfl, rfl, (agr rfl (by first | rfl | (congr 1; omega) | (congr 1; simp; done) | (congr 1; simp only [IntKind.wrap_u64, IntKind.wrap_i64, IntKind.wrap_u8]; omega) | (congr 1 <;> omega))), trivial⟩, hB, hS, (by omega), rfl⟩
          · refine C_exit (X_then (X_then (X_hit (N_in (N_then (C_reg rfl ?_))))))
            refine L_run (R_move rfl) rfl ?_
            refine L_run (R_add64 rfl rfl (by omega)) rfl ?_
            refine L_run (R_assign rfl) rfl ?_
            refine L_nil (N_then ?_)
            exact ⟨16 - (i + 1), by omega, _, (i + 1), Ac_frg ⟨rfl, rfl, rfl, (agr rfl (by first | rfl | (congr 1; omega) | (congr 1; simp; done) | (congr 1; simp only [IntKind.wrap_u64, IntKind.wrap_i64, IntKind.wrap_u8]; omega) | (congr 1 <;> omega))), trivial⟩, hB, hS, (by omega), rfl⟩
      · refine C_exit (X_then (X_then (X_hit (N_then (C_seq (C_reg rfl ?_))))))
        refine L_run (R_assign rfl) rfl ?_
        refine L_nil (N_then (C_ret ?_))
        refine ret1 Tryd.results16 rfl ?_
        exact ⟨hB, _, rfl⟩
    · refine L_no rfl rfl rfl (decide_eq_false h1) rfl ?_
      refine L_no rfl rfl rfl (decide_eq_false h1) rfl ?_
      refine L_run (R_pickF rfl (decide_eq_false h1) rfl) rfl ?_
      refine L_nil (N_then (C_condF rfl rfl (C_exit (X_then (X_then (X_hit (N_then (C_seq (C_reg rfl ?_)))))))))
      refine L_run (R_assign rfl) rfl ?_
      refine L_nil (N_then (C_ret ?_))
      refine ret1 Tryd.results16 rfl ?_
      exact ⟨hB, _, rfl⟩

theorem scan_ok {w : World} {t1 lo hi : Nat} {A : Option Addr} {c e : Nat} {ss : List Sx} (hS : Sli t1 lo hi w A (fl encX ss)) (he : e < 18446744073709551616) :
    Runs Tryd.prog 7 #[.int .u64 (e : Int), .slice A ss.length c] w (fun v w' => w.grownBy w' none ∧ ∃ (R : List Bys) (Pl : List Int) (Ar : Option Addr) (cr : Nat) (Ap : Option Addr) (cp : Nat) (en kd : Int), v = .agg #[.slice Ar R.length cr, .slice Ap Pl.length cp, .int .i64 en, .int .i64 kd] ∧ World.ownsRow w' w.heap.size 25 1 (.slice Ar R.length cr) R.length (fl encY R) ∧ DeepY 5 w' R ∧ World.ownsRow w' w.heap.size 3 1 (.slice Ap Pl.length cp) Pl.length (fl encZ Pl) ∧ GoodR ss e R Pl ∧ R.length ≤ 832) := by
  have hB := gb_refl w none
  replace hS := hS.top
  refine enter Tryd.func7 Tryd.ntmps7 rfl rfl ?_
  refine C_seq (C_reg rfl ?_)
  refine L_alloc (cs := [.slice none 0 0, .slice none 0 0, .int .i64 0, .int .i64 0]) zer31 rfl rfl ?_
  intro g1 w1 eg1 hb1 hs1 hz1
  have ge1 : w.heap.size ≤ g1 := eg_ge hB eg1
  replace hB := gb_tr hB hs1
  replace hS := hS.gb hs1
  refine L_nil (N_then (C_seq (C_reg rfl ?_)))
  refine L_run (R_move rfl) rfl ?_
  refine L_run (R_move rfl) rfl ?_
  have ge2 : w.heap.size ≤ w1.heap.size := hB.size
  refine L_call rfl cb12 (flat16 (e := e) (ss := ss) hS (by first | omega | (simp; done) | (simp; omega))) rfl ?_
  rintro _ w2 ⟨hs2, A_1, c_1, A_2, c_2, rfl, ho1, ho2⟩
  replace hB := gb_tr hB hs2
  replace hS := hS.gb hs2
  replace hb1 := hb1.gb hs2
  have hlo1 : w1.heap.size ≤ w2.heap.size := hs2.size
  refine L_run (R_move rfl) rfl ?_
  refine L_run (R_extract rfl rfl) rfl ?_
  refine L_run (R_extract rfl rfl) rfl ?_
  refine L_run (R_assign rfl) rfl ?_
  refine L_run (R_assign rfl) rfl ?_
  refine L_nil (N_then (C_seq (C_reg rfl ?_)))
  refine L_run (R_build (pv := []) (cs := [.slice none 0 0, .slice none 0 0, .int .i64 0, .int .i64 0]) rfl (by kernel_rfl)) rfl ?_
  refine L_alloc (cs := [.slice none 0 0, .slice none 0 0, .int .i64 0, .int .i64 0]) zer31 rfl rfl ?_
  intro g2 w3 eg2 hb2 hs3 hz2
  have ge3 : w.heap.size ≤ g2 := eg_ge hB eg2
  have lt1 : g1 < g2 := lt_of_eg hb1.lt eg2
  replace hB := gb_tr hB hs3
  replace hS := hS.gb hs3
  replace hb1 := hb1.gb hs3
  replace ho1 := own_gb ho1 hs3
  replace ho2 := own_gb ho2 hs3
  replace hlo1 := Nat.le_trans hlo1 hs3.size
  refine L_stA (vs := [.slice none 0 0, .slice none 0 0, .int .i64 0, .int .i64 0]) rfl rfl rfl sz31 rfl hb2 rfl ?_
  intro w4 hb3 hs4 hz3
  replace hB := gb_trg hB hs4 ge3
  replace hS := hS.old hs4 ge3
  replace hb1 := hb1.grown hs4 (ne_lt lt1)
  replace ho1 := own_other ho1 hb2 rfl hs4
  replace ho2 := own_other ho2 hb2 rfl hs4
  replace hlo1 := Nat.le_trans hlo1 hs4.size
  refine L_nil (N_then (C_seq (C_reg rfl ?_)))
  refine L_run (R_build (pv := []) (cs := [.bool false, .slice none 0 0]) rfl (by kernel_rfl)) rfl ?_
  refine L_alloc (cs := [.bool false, .slice none 0 0]) zer51 rfl rfl ?_
  intro g3 w5 eg3 hb4 hs5 hz4
  have ge4 : w.heap.size ≤ g3 := eg_ge hB eg3
  have lt2 : g1 < g3 := lt_of_eg hb1.lt eg3
  have lt3 : g2 < g3 := lt_of_eg hb3.lt eg3
  replace hB := gb_tr hB hs5
  replace hS := hS.gb hs5
  replace hb1 := hb1.gb hs5
  replace ho1 := own_gb ho1 hs5
  replace ho2 := own_gb ho2 hs5
  replace hlo1 := Nat.le_trans hlo1 hs5.size
  replace hb3 := hb3.gb hs5
  refine L_stA (vs := [.bool false, .slice none 0 0]) rfl rfl rfl sz51 rfl hb4 rfl ?_
  intro w6 hb5 hs6 hz5
  replace hB := gb_trg hB hs6 ge4
  replace hS := hS.old hs6 ge4
  replace hb1 := hb1.grown hs6 (ne_lt lt2)
  replace ho1 := own_other ho1 hb4 rfl hs6
  replace ho2 := own_other ho2 hb4 rfl hs6
  replace hlo1 := Nat.le_trans hlo1 hs6.size
  replace hb3 := hb3.grown hs6 (ne_lt lt3)
  refine L_nil (N_then (C_seq (C_reg rfl ?_)))
  refine L_run (R_assign rfl) rfl ?_
  refine L_nil (N_then (C_seq (C_reg rfl ?_)))
  refine L_run (R_assign rfl) rfl ?_
  refine L_nil (N_then (C_seq (C_block ?_)))
  refine C_loop (fun m_ a_ w_ => ∃ (σ_ : Nat → Value) (p : Nat) (f : Nat) (o : Bool) (bs : List UInt8) (Aj : Option Addr) (cj : Nat) (R : List Bys) (Ar : Option Addr) (cr : Nat) (Pl : List Int) (Ap : Option Addr) (cp : Nat) (en : Nat), a_ = Ac 77 σ_ [] [(0, .int .u64 (e : Int)), (1, .slice A ss.length c), (4, .pointer (some ⟨g1, 0, none⟩)), (5, .slice A_1 ((flatB (bsOf ss) e 16).length) c_1), (6, .slice A_2 ((flatO (bsOf ss) e 16).length) c_2), (7, .pointer (some ⟨g2, 0, none⟩)), (8, .pointer (some ⟨g3, 0, none⟩)), (9, .int .i64 (p : Int)), (10, .int .i64 (f : Int))] ∧ w.grownBy w_ none ∧ Sli t1 lo w.heap.size w_ A (fl encX ss) ∧ Blk w_ g1 31 [.slice none 0 0, .slice none 0 0, .int .i64 0, .int .i64 0] ∧ World.ownsRow w_ w1.heap.size 5 1 (.slice A_1 (flatB (bsOf ss) e 16).length c_1) (flatB (bsOf ss) e 16).length (fl encB (flatB (bsOf ss) e 16)) ∧ World.ownsRow w_ w1.heap.size 4 1 (.slice A_2 (flatO (bsOf ss) e 16).length c_2) (flatO (bsOf ss) e 16).length (fl encO (flatO (bsOf ss) e 16)) ∧ w1.heap.size ≤ w_.heap.size ∧ Blk w_ g2 31 [.slice Ar R.length cr, .slice Ap Pl.length cp, .int .i64 ((en : Nat) : Int), .int .i64 0] ∧ Blk w_ g3 51 [.bool o, .slice Aj bs.length cj] ∧ World.ownsRow w_ w.heap.size 5 1 (.slice Aj bs.length cj) bs.length (fl encB bs) ∧ World.ownsRow w_ w.heap.size 25 1 (.slice Ar R.length cr) R.length (fl encY R) ∧ World.ownsRow w_ w.heap.size 3 1 (.slice Ap Pl.length cp) Pl.length (fl encZ Pl) ∧ DeepY 5 w_ R ∧ (p ≤ 832) ∧ (bs.length ≤ 512) ∧ (R.length ≤ p ∧ Pl.length ≤ p ∧ en ≤ 832) ∧ (OpenR ss e p f o bs) ∧ (GoodR ss e R Pl) ∧ 832 - p = m_) (832 - 0) ?_ ?_
  · exact ⟨_, 0, 0, false, [], none, 0, [], none, 0, [], none, 0, 0, Ac_frg ⟨rfl, rfl, rfl, rfl, rfl, rfl, rfl, (agr rfl (by first | rfl | (congr 1; omega) | (congr 1; simp; done) | (congr 1; simp only [IntKind.wrap_u64, IntKind.wrap_i64, IntKind.wrap_u8]; omega) | (congr 1 <;> omega))), (agr rfl (by first | rfl | (congr 1; omega) | (congr 1; simp; done) | (congr 1; simp only [IntKind.wrap_u64, IntKind.wrap_i64, IntKind.wrap_u8]; omega) | (congr 1 <;> omega))), trivial⟩, hB, hS, hb1, ho1, ho2, hlo1, hb3, hb5, (own_nil _ _ _ _), (own_nil _ _ _ _), (own_nil _ _ _ _), DeepY.nil, (by omega), (by decide), (by decide), rfl, GoodR.nil, rfl⟩
  · clear hB
    clear hS hb1 ho1 ho2 hlo1 hb3 hb5
    rintro m_ a_ w7 ⟨σ_, p, f, o, bs, Aj, cj, R, Ar, cr, Pl, Ap, cp, en, rfl, hB, hS, hb1, ho1, ho2, hlo1, hbr, hbj, ho, hoR, hoP, hDY, hp, hbs, hRl, hOp, hGo, rfl⟩
    refine C_block (C_seq (C_reg rfl ?_))
    refine L_run (R_move rfl) rfl ?_
    refine L_call rfl cb15 (begin7 (n := p) (by first | omega | (simp; done) | (simp; omega))) rfl ?_
    rintro _ w8 ⟨hs7, rfl⟩
    replace hB := gb_tr hB hs7
    replace hS := hS.gb hs7
    replace hb1 := hb1.gb hs7
    replace ho1 := own_gb ho1 hs7
    replace ho2 := own_gb ho2 hs7
    replace hlo1 := Nat.le_trans hlo1 hs7.size
    replace hbr := hbr.gb hs7
    replace hbj := hbj.gb hs7
    replace ho := own_gb ho hs7
    replace hoR := own_gb hoR hs7
    replace hoP := own_gb hoP hs7
    replace hDY := hDY.gb hs7
    refine L_run (R_assign rfl) rfl ?_
    refine L_nil (N_then (C_seq (C_reg rfl ?_)))
    refine L_run (R_move rfl) rfl ?_
    refine L_run (R_move rfl) rfl ?_
    refine L_run (R_move rfl) rfl ?_
    refine L_run (R_move rfl) rfl ?_
    have ge5 : w.heap.size ≤ w8.heap.size := hB.size
    refine L_call rfl cb13 (acc_ok (e := e) (body := flatB (bsOf ss) e 16) (oks := flatO (bsOf ss) e 16) (a := (beginN p)) (own_of ho1).2.2 (own_of ho2).2.2 flatB_n (own_cap ho1) (beginN_le (by assumption)).2) rfl ?_
    rintro _ w9 ⟨hs8, E1, A_3, c_3, rfl, ho3⟩
    replace hB := gb_tr hB hs8
    replace hS := hS.gb hs8
    replace hb1 := hb1.gb hs8
    replace ho1 := own_gb ho1 hs8
    replace ho2 := own_gb ho2 hs8
    replace hlo1 := Nat.le_trans hlo1 hs8.size
    replace hbr := hbr.gb hs8
    replace hbj := hbj.gb hs8
    replace ho := own_gb ho hs8
    replace hoR := own_gb hoR hs8
    replace hoP := own_gb hoP hs8
    replace hDY := hDY.gb hs8
    have hlo2 : w8.heap.size ≤ w9.heap.size := hs8.size
    refine L_run (R_move rfl) rfl ?_
    refine L_run (R_extract rfl rfl) rfl ?_
    refine L_run (R_extract rfl rfl) rfl ?_
    refine L_alloc (cs := [.int .i64 0, .int .u32 0, .slice none 0 0]) zer43 rfl rfl ?_
    intro g4 w10 eg4 hb6 hs9 hz6
    have ge6 : w.heap.size ≤ g4 := eg_ge hB eg4
    have lt4 : g1 < g4 := lt_of_eg hb1.lt eg4
    have lt5 : g2 < g4 := lt_of_eg hbr.lt eg4
    have lt6 : g3 < g4 := lt_of_eg hbj.lt eg4
    replace hB := gb_tr hB hs9
    replace hS := hS.gb hs9
    replace hb1 := hb1.gb hs9
    replace ho1 := own_gb ho1 hs9
    replace ho2 := own_gb ho2 hs9
    replace hlo1 := Nat.le_trans hlo1 hs9.size
    replace hbr := hbr.gb hs9
    replace hbj := hbj.gb hs9
    replace ho := own_gb ho hs9
    replace hoR := own_gb hoR hs9
    replace hoP := own_gb hoP hs9
    replace hDY := hDY.gb hs9
    replace ho3 := own_gb ho3 hs9
    replace hlo2 := Nat.le_trans hlo2 hs9.size
    refine L_stA (vs := [.int .i64 (((accN e (flatB (bsOf ss) e 16) (flatO (bsOf ss) e 16) (beginN p)).1.1 : Nat) : Int), .int .u32 E1, .slice A_3 (((accN e (flatB (bsOf ss) e 16) (flatO (bsOf ss) e 16) (beginN p)).1.2).length) c_3]) rfl rfl rfl sz43 rfl hb6 rfl ?_
    intro w11 hb7 hs10 hz7
    replace hB := gb_trg hB hs10 ge6
    replace hS := hS.old hs10 ge6
    replace hb1 := hb1.grown hs10 (ne_lt lt4)
    replace ho1 := own_other ho1 hb6 rfl hs10
    replace ho2 := own_other ho2 hb6 rfl hs10
    replace hlo1 := Nat.le_trans hlo1 hs10.size
    replace hbr := hbr.grown hs10 (ne_lt lt5)
    replace hbj := hbj.grown hs10 (ne_lt lt6)
    replace ho := own_other ho hb6 rfl hs10
    replace hoR := own_other hoR hb6 rfl hs10
    replace hoP := own_other hoP hb6 rfl hs10
    replace hDY := hDY.other hb6 rfl rfl hs10
    replace ho3 := own_other ho3 hb6 rfl hs10
    replace hlo2 := Nat.le_trans hlo2 hs10.size
    refine L_run (R_assign rfl) rfl ?_
    refine L_nil (N_then (C_seq (C_seq (C_reg rfl ?_))))
    refine L_run (R_move rfl) rfl ?_
    refine L_run (R_eql rfl rfl) rfl ?_
    refine L_nil (N_then ?_)
    refine C_if rfl (fun h1 => ?_) (fun h1 => ?_)
    · refine C_exit (X_then (X_miss rfl (X_then (X_hit (N_then (C_seq (C_reg rfl ?_)))))))
      refine L_run (R_field (r := 3) rfl fld31_3 rfl) rfl ?_
      refine L_st1 rfl rfl rfl sz3 hbr rfl ?_
      intro w12 hb8 hs11 hz8
      replace hB := gb_trg hB hs11 ge3
      replace hS := hS.old hs11 ge3
      replace hb1 := hb1.grown hs11 (ne_lt lt1)
      replace ho1 := own_other ho1 hbr rfl hs11
      replace ho2 := own_other ho2 hbr rfl hs11
      replace hlo1 := Nat.le_trans hlo1 hs11.size
      replace hbj := hbj.grown hs11 (ne_gt lt3)
      replace ho := own_other ho hbr rfl hs11
      replace hoR := own_other hoR hbr rfl hs11
      replace hoP := own_other hoP hbr rfl hs11
      replace hDY := hDY.other hbr rfl rfl hs11
      replace ho3 := own_other ho3 hbr rfl hs11
      replace hlo2 := Nat.le_trans hlo2 hs11.size
      replace hb7 := hb7.grown hs11 (ne_gt lt5)
      refine L_nil (N_then (C_seq (C_seq (C_reg rfl ?_))))
      refine L_run (R_move rfl) rfl ?_
      refine L_run (R_field (r := 2) rfl fld31_2 rfl) rfl ?_
      refine L_run (R_load1 rfl scl3 (hb8.cell (i := 2) rfl)) rfl ?_
      refine L_call rfl cb16 (rest_ok (ss := ss) (n := en) hS) rfl ?_
      rintro _ w13 ⟨hs12, b1, rfl⟩
      replace hB := gb_tr hB hs12
      replace hS := hS.gb hs12
      replace hb1 := hb1.gb hs12
      replace ho1 := own_gb ho1 hs12
      replace ho2 := own_gb ho2 hs12
      replace hlo1 := Nat.le_trans hlo1 hs12.size
      replace hb8 := hb8.gb hs12
      replace hbj := hbj.gb hs12
      replace ho := own_gb ho hs12
      replace hoR := own_gb hoR hs12
      replace hoP := own_gb hoP hs12
      replace hDY := hDY.gb hs12
      replace ho3 := own_gb ho3 hs12
      replace hlo2 := Nat.le_trans hlo2 hs12.size
      replace hb7 := hb7.gb hs12
      refine L_nil (N_then ?_)
      refine C_cond rfl (fun h2 => ?_) (fun h2 => ?_)
      · refine C_reg rfl ?_
        refine L_run (R_field (r := 3) rfl fld31_3 rfl) rfl ?_
        refine L_st1 rfl rfl rfl sz3 hb8 rfl ?_
        intro w14 hb9 hs13 hz9
        replace hB := gb_trg hB hs13 ge3
        replace hS := hS.old hs13 ge3
        replace hb1 := hb1.grown hs13 (ne_lt lt1)
        replace ho1 := own_other ho1 hb8 rfl hs13
        replace ho2 := own_other ho2 hb8 rfl hs13
        replace hlo1 := Nat.le_trans hlo1 hs13.size
        replace hbj := hbj.grown hs13 (ne_gt lt3)
        replace ho := own_other ho hb8 rfl hs13
        replace hoR := own_other hoR hb8 rfl hs13
        replace hoP := own_other hoP hb8 rfl hs13
        replace hDY := hDY.other hb8 rfl rfl hs13
        replace ho3 := own_other ho3 hb8 rfl hs13
        replace hlo2 := Nat.le_trans hlo2 hs13.size
        replace hb7 := hb7.grown hs13 (ne_gt lt5)
        refine L_nil (N_then (C_seq (C_reg rfl ?_)))
        refine L_run (R_loadA (vs := [.slice Ar R.length cr, .slice Ap Pl.length cp, .int .i64 ((en : Nat) : Int), .int .i64 1]) rfl agg31 (At.pre (hb9.at_ 0) rfl) rfl) rfl ?_
        refine L_stA (vs := [.slice Ar R.length cr, .slice Ap Pl.length cp, .int .i64 ((en : Nat) : Int), .int .i64 1]) rfl rfl rfl sz31 rfl hb1 rfl ?_
        intro w15 hb10 hs14 hz10
        replace hB := gb_trg hB hs14 ge1
        replace hS := hS.old hs14 ge1
        replace ho1 := own_other ho1 hb1 rfl hs14
        replace ho2 := own_other ho2 hb1 rfl hs14
        replace hlo1 := Nat.le_trans hlo1 hs14.size
        replace hb9 := hb9.grown hs14 (ne_gt lt1)
        replace hbj := hbj.grown hs14 (ne_gt lt2)
        replace ho := own_other ho hb1 rfl hs14
        replace hoR := own_other hoR hb1 rfl hs14
        replace hoP := own_other hoP hb1 rfl hs14
        replace hDY := hDY.other hb1 rfl rfl hs14
        replace ho3 := own_other ho3 hb1 rfl hs14
        replace hlo2 := Nat.le_trans hlo2 hs14.size
        replace hb7 := hb7.grown hs14 (ne_gt lt4)
        refine L_nil (N_then (C_ret ?_))
        refine retC (vs := [.slice Ar R.length cr, .slice Ap Pl.length cp, .int .i64 ((en : Nat) : Int), .int .i64 1]) Tryd.results7 rfl agg31 (At.pre (hb10.at_ 0) rfl) rfl  ?_
        exact ⟨hB, R, Pl, _, _, _, _, _, _, rfl, (own_lo hoR (Nat.le_refl _)), hDY, (own_lo hoP (Nat.le_refl _)), hGo, by omega⟩
      · refine C_skip (N_then (C_seq (C_reg rfl ?_)))
        refine L_run (R_loadA (vs := [.slice Ar R.length cr, .slice Ap Pl.length cp, .int .i64 ((en : Nat) : Int), .int .i64 2]) rfl agg31 (At.pre (hb8.at_ 0) rfl) rfl) rfl ?_
        refine L_stA (vs := [.slice Ar R.length cr, .slice Ap Pl.length cp, .int .i64 ((en : Nat) : Int), .int .i64 2]) rfl rfl rfl sz31 rfl hb1 rfl ?_
        intro w16 hb11 hs15 hz11
        replace hB := gb_trg hB hs15 ge1
        replace hS := hS.old hs15 ge1
        replace ho1 := own_other ho1 hb1 rfl hs15
        replace ho2 := own_other ho2 hb1 rfl hs15
        replace hlo1 := Nat.le_trans hlo1 hs15.size
        replace hb8 := hb8.grown hs15 (ne_gt lt1)
        replace hbj := hbj.grown hs15 (ne_gt lt2)
        replace ho := own_other ho hb1 rfl hs15
        replace hoR := own_other hoR hb1 rfl hs15
        replace hoP := own_other hoP hb1 rfl hs15
        replace hDY := hDY.other hb1 rfl rfl hs15
        replace ho3 := own_other ho3 hb1 rfl hs15
        replace hlo2 := Nat.le_trans hlo2 hs15.size
        replace hb7 := hb7.grown hs15 (ne_gt lt4)
        refine L_nil (N_then (C_ret ?_))
        refine retC (vs := [.slice Ar R.length cr, .slice Ap Pl.length cp, .int .i64 ((en : Nat) : Int), .int .i64 2]) Tryd.results7 rfl agg31 (At.pre (hb11.at_ 0) rfl) rfl  ?_
        exact ⟨hB, R, Pl, _, _, _, _, _, _, rfl, (own_lo hoR (Nat.le_refl _)), hDY, (own_lo hoP (Nat.le_refl _)), hGo, by omega⟩
    · refine C_skip (N_then (C_seq (C_seq (C_reg rfl ?_))))
      refine L_run (R_field (r := 0) rfl fld51_0 rfl) rfl ?_
      refine L_run (R_load1 rfl scl4 (hbj.cell (i := 0) rfl)) rfl ?_
      refine L_run (R_not rfl) rfl ?_
      refine L_nil (N_then ?_)
      refine C_cond rfl (fun h3 => ?_) (fun h3 => ?_)
      · refine C_reg rfl ?_
        refine L_run (R_move rfl) rfl ?_
        refine L_run (R_assign rfl) rfl ?_
        refine L_nil (N_then (C_seq (C_reg rfl ?_)))
        refine L_run (R_loadA (vs := [.bool o, .slice Aj bs.length cj]) rfl agg51 (At.pre (hbj.at_ 0) rfl) rfl) rfl ?_
        refine L_run (R_loadA (vs := [.int .i64 (((accN e (flatB (bsOf ss) e 16) (flatO (bsOf ss) e 16) (beginN p)).1.1 : Nat) : Int), .int .u32 E1, .slice A_3 (((accN e (flatB (bsOf ss) e 16) (flatO (bsOf ss) e 16) (beginN p)).1.2).length) c_3]) rfl agg43 (At.pre (hb7.at_ 0) rfl) rfl) rfl ?_
        have ge7 : w.heap.size ≤ w11.heap.size := hB.size
        refine L_call rfl cb14 (feed15_ok (o := o) (bs := bs) (d := (accN e (flatB (bsOf ss) e 16) (flatO (bsOf ss) e 16) (beginN p)).1.2) (k := ((accN e (flatB (bsOf ss) e 16) (flatO (bsOf ss) e 16) (beginN p)).1.1)) (own_of ho).2.2 (own_of ho3).2.2 (by omega) (by have h_ := acc_go (ss := ss) (e := e) (beginN_le hp).2 (by assumption); omega)) rfl ?_
        rintro _ w17 ⟨hs16, A_4, c_4, A_5, c_5, rfl, ho4, ho5⟩
        replace hB := gb_tr hB hs16
        replace hS := hS.gb hs16
        replace hb1 := hb1.gb hs16
        replace ho1 := own_gb ho1 hs16
        replace ho2 := own_gb ho2 hs16
        replace hlo1 := Nat.le_trans hlo1 hs16.size
        replace hbr := hbr.gb hs16
        replace hbj := hbj.gb hs16
        replace ho := own_gb ho hs16
        replace hoR := own_gb hoR hs16
        replace hoP := own_gb hoP hs16
        replace hDY := hDY.gb hs16
        replace ho3 := own_gb ho3 hs16
        replace hlo2 := Nat.le_trans hlo2 hs16.size
        replace hb7 := hb7.gb hs16
        have hlo3 : w11.heap.size ≤ w17.heap.size := hs16.size
        refine L_run (R_move rfl) rfl ?_
        refine L_run (R_extract rfl rfl) rfl ?_
        refine L_run (R_extract rfl rfl) rfl ?_
        refine L_run (R_extract rfl rfl) rfl ?_
        refine L_run (R_extract rfl rfl) rfl ?_
        refine L_alloc (cs := [.bool false, .slice none 0 0]) zer51 rfl rfl ?_
        intro g5 w18 eg5 hb12 hs17 hz12
        have ge8 : w.heap.size ≤ g5 := eg_ge hB eg5
        have lt7 : g1 < g5 := lt_of_eg hb1.lt eg5
        have lt8 : g2 < g5 := lt_of_eg hbr.lt eg5
        have lt9 : g3 < g5 := lt_of_eg hbj.lt eg5
        have lt10 : g4 < g5 := lt_of_eg hb7.lt eg5
        replace hB := gb_tr hB hs17
        replace hS := hS.gb hs17
        replace hb1 := hb1.gb hs17
        replace ho1 := own_gb ho1 hs17
        replace ho2 := own_gb ho2 hs17
        replace hlo1 := Nat.le_trans hlo1 hs17.size
        replace hbr := hbr.gb hs17
        replace hbj := hbj.gb hs17
        replace ho := own_gb ho hs17
        replace hoR := own_gb hoR hs17
        replace hoP := own_gb hoP hs17
        replace hDY := hDY.gb hs17
        replace ho3 := own_gb ho3 hs17
        replace hlo2 := Nat.le_trans hlo2 hs17.size
        replace hb7 := hb7.gb hs17
        replace ho4 := own_gb ho4 hs17
        replace ho5 := own_gb ho5 hs17
        replace hlo3 := Nat.le_trans hlo3 hs17.size
        refine L_stA (vs := [.bool ((feedN o bs ((accN e (flatB (bsOf ss) e 16) (flatO (bsOf ss) e 16) (beginN p)).1.1) ((accN e (flatB (bsOf ss) e 16) (flatO (bsOf ss) e 16) (beginN p)).1.2)).1.1), .slice A_4 (((feedN o bs ((accN e (flatB (bsOf ss) e 16) (flatO (bsOf ss) e 16) (beginN p)).1.1) ((accN e (flatB (bsOf ss) e 16) (flatO (bsOf ss) e 16) (beginN p)).1.2)).1.2).length) c_4]) rfl rfl rfl sz51 rfl hb12 rfl ?_
        intro w19 hb13 hs18 hz13
        replace hB := gb_trg hB hs18 ge8
        replace hS := hS.old hs18 ge8
        replace hb1 := hb1.grown hs18 (ne_lt lt7)
        replace ho1 := own_other ho1 hb12 rfl hs18
        replace ho2 := own_other ho2 hb12 rfl hs18
        replace hlo1 := Nat.le_trans hlo1 hs18.size
        replace hbr := hbr.grown hs18 (ne_lt lt8)
        replace hbj := hbj.grown hs18 (ne_lt lt9)
        replace ho := own_other ho hb12 rfl hs18
        replace hoR := own_other hoR hb12 rfl hs18
        replace hoP := own_other hoP hb12 rfl hs18
        replace hDY := hDY.other hb12 rfl rfl hs18
        replace ho3 := own_other ho3 hb12 rfl hs18
        replace hlo2 := Nat.le_trans hlo2 hs18.size
        replace hb7 := hb7.grown hs18 (ne_lt lt10)
        replace ho4 := own_other ho4 hb12 rfl hs18
        replace ho5 := own_other ho5 hb12 rfl hs18
        replace hlo3 := Nat.le_trans hlo3 hs18.size
        refine L_run (R_assign rfl) rfl ?_
        refine L_run (R_assign rfl) rfl ?_
        refine L_run (R_assign rfl) rfl ?_
        refine L_nil (N_then (C_seq (C_seq (C_reg rfl ?_))))
        refine L_run (R_move rfl) rfl ?_
        refine L_run (R_neq rfl rfl) rfl ?_
        refine L_nil (N_then ?_)
        refine C_if rfl (fun h4 => ?_) (fun h4 => ?_)
        · refine C_exit (X_then (X_miss rfl (X_then (X_hit (N_then (C_seq (C_reg rfl ?_)))))))
          refine L_run (R_field (r := 3) rfl fld31_3 rfl) rfl ?_
          refine L_st1 rfl rfl rfl sz3 hbr rfl ?_
          intro w20 hb14 hs19 hz14
          replace hB := gb_trg hB hs19 ge3
          replace hS := hS.old hs19 ge3
          replace hb1 := hb1.grown hs19 (ne_lt lt1)
          replace ho1 := own_other ho1 hbr rfl hs19
          replace ho2 := own_other ho2 hbr rfl hs19
          replace hlo1 := Nat.le_trans hlo1 hs19.size
          replace hbj := hbj.grown hs19 (ne_gt lt3)
          replace ho := own_other ho hbr rfl hs19
          replace hoR := own_other hoR hbr rfl hs19
          replace hoP := own_other hoP hbr rfl hs19
          replace hDY := hDY.other hbr rfl rfl hs19
          replace ho3 := own_other ho3 hbr rfl hs19
          replace hlo2 := Nat.le_trans hlo2 hs19.size
          replace hb7 := hb7.grown hs19 (ne_gt lt5)
          replace ho4 := own_other ho4 hbr rfl hs19
          replace ho5 := own_other ho5 hbr rfl hs19
          replace hlo3 := Nat.le_trans hlo3 hs19.size
          replace hb13 := hb13.grown hs19 (ne_gt lt8)
          refine L_nil (N_then (C_seq (C_seq (C_reg rfl ?_))))
          refine L_run (R_move rfl) rfl ?_
          refine L_run (R_field (r := 2) rfl fld31_2 rfl) rfl ?_
          refine L_run (R_load1 rfl scl3 (hb14.cell (i := 2) rfl)) rfl ?_
          refine L_call rfl cb16 (rest_ok (ss := ss) (n := en) hS) rfl ?_
          rintro _ w21 ⟨hs20, b2, rfl⟩
          replace hB := gb_tr hB hs20
          replace hS := hS.gb hs20
          replace hb1 := hb1.gb hs20
          replace ho1 := own_gb ho1 hs20
          replace ho2 := own_gb ho2 hs20
          replace hlo1 := Nat.le_trans hlo1 hs20.size
          replace hb14 := hb14.gb hs20
          replace hbj := hbj.gb hs20
          replace ho := own_gb ho hs20
          replace hoR := own_gb hoR hs20
          replace hoP := own_gb hoP hs20
          replace hDY := hDY.gb hs20
          replace ho3 := own_gb ho3 hs20
          replace hlo2 := Nat.le_trans hlo2 hs20.size
          replace hb7 := hb7.gb hs20
          replace ho4 := own_gb ho4 hs20
          replace ho5 := own_gb ho5 hs20
          replace hlo3 := Nat.le_trans hlo3 hs20.size
          replace hb13 := hb13.gb hs20
          refine L_nil (N_then ?_)
          refine C_cond rfl (fun h5 => ?_) (fun h5 => ?_)
          · refine C_reg rfl ?_
            refine L_run (R_field (r := 3) rfl fld31_3 rfl) rfl ?_
            refine L_st1 rfl rfl rfl sz3 hb14 rfl ?_
            intro w22 hb15 hs21 hz15
            replace hB := gb_trg hB hs21 ge3
            replace hS := hS.old hs21 ge3
            replace hb1 := hb1.grown hs21 (ne_lt lt1)
            replace ho1 := own_other ho1 hb14 rfl hs21
            replace ho2 := own_other ho2 hb14 rfl hs21
            replace hlo1 := Nat.le_trans hlo1 hs21.size
            replace hbj := hbj.grown hs21 (ne_gt lt3)
            replace ho := own_other ho hb14 rfl hs21
            replace hoR := own_other hoR hb14 rfl hs21
            replace hoP := own_other hoP hb14 rfl hs21
            replace hDY := hDY.other hb14 rfl rfl hs21
            replace ho3 := own_other ho3 hb14 rfl hs21
            replace hlo2 := Nat.le_trans hlo2 hs21.size
            replace hb7 := hb7.grown hs21 (ne_gt lt5)
            replace ho4 := own_other ho4 hb14 rfl hs21
            replace ho5 := own_other ho5 hb14 rfl hs21
            replace hlo3 := Nat.le_trans hlo3 hs21.size
            replace hb13 := hb13.grown hs21 (ne_gt lt8)
            refine L_nil (N_then (C_seq (C_reg rfl ?_)))
            refine L_run (R_loadA (vs := [.slice Ar R.length cr, .slice Ap Pl.length cp, .int .i64 ((en : Nat) : Int), .int .i64 1]) rfl agg31 (At.pre (hb15.at_ 0) rfl) rfl) rfl ?_
            refine L_stA (vs := [.slice Ar R.length cr, .slice Ap Pl.length cp, .int .i64 ((en : Nat) : Int), .int .i64 1]) rfl rfl rfl sz31 rfl hb1 rfl ?_
            intro w23 hb16 hs22 hz16
            replace hB := gb_trg hB hs22 ge1
            replace hS := hS.old hs22 ge1
            replace ho1 := own_other ho1 hb1 rfl hs22
            replace ho2 := own_other ho2 hb1 rfl hs22
            replace hlo1 := Nat.le_trans hlo1 hs22.size
            replace hb15 := hb15.grown hs22 (ne_gt lt1)
            replace hbj := hbj.grown hs22 (ne_gt lt2)
            replace ho := own_other ho hb1 rfl hs22
            replace hoR := own_other hoR hb1 rfl hs22
            replace hoP := own_other hoP hb1 rfl hs22
            replace hDY := hDY.other hb1 rfl rfl hs22
            replace ho3 := own_other ho3 hb1 rfl hs22
            replace hlo2 := Nat.le_trans hlo2 hs22.size
            replace hb7 := hb7.grown hs22 (ne_gt lt4)
            replace ho4 := own_other ho4 hb1 rfl hs22
            replace ho5 := own_other ho5 hb1 rfl hs22
            replace hlo3 := Nat.le_trans hlo3 hs22.size
            replace hb13 := hb13.grown hs22 (ne_gt lt7)
            refine L_nil (N_then (C_ret ?_))
            refine retC (vs := [.slice Ar R.length cr, .slice Ap Pl.length cp, .int .i64 ((en : Nat) : Int), .int .i64 1]) Tryd.results7 rfl agg31 (At.pre (hb16.at_ 0) rfl) rfl  ?_
            exact ⟨hB, R, Pl, _, _, _, _, _, _, rfl, (own_lo hoR (Nat.le_refl _)), hDY, (own_lo hoP (Nat.le_refl _)), hGo, by omega⟩
          · refine C_skip (N_then (C_seq (C_reg rfl ?_)))
            refine L_run (R_loadA (vs := [.slice Ar R.length cr, .slice Ap Pl.length cp, .int .i64 ((en : Nat) : Int), .int .i64 2]) rfl agg31 (At.pre (hb14.at_ 0) rfl) rfl) rfl ?_
            refine L_stA (vs := [.slice Ar R.length cr, .slice Ap Pl.length cp, .int .i64 ((en : Nat) : Int), .int .i64 2]) rfl rfl rfl sz31 rfl hb1 rfl ?_
            intro w24 hb17 hs23 hz17
            replace hB := gb_trg hB hs23 ge1
            replace hS := hS.old hs23 ge1
            replace ho1 := own_other ho1 hb1 rfl hs23
            replace ho2 := own_other ho2 hb1 rfl hs23
            replace hlo1 := Nat.le_trans hlo1 hs23.size
            replace hb14 := hb14.grown hs23 (ne_gt lt1)
            replace hbj := hbj.grown hs23 (ne_gt lt2)
            replace ho := own_other ho hb1 rfl hs23
            replace hoR := own_other hoR hb1 rfl hs23
            replace hoP := own_other hoP hb1 rfl hs23
            replace hDY := hDY.other hb1 rfl rfl hs23
            replace ho3 := own_other ho3 hb1 rfl hs23
            replace hlo2 := Nat.le_trans hlo2 hs23.size
            replace hb7 := hb7.grown hs23 (ne_gt lt4)
            replace ho4 := own_other ho4 hb1 rfl hs23
            replace ho5 := own_other ho5 hb1 rfl hs23
            replace hlo3 := Nat.le_trans hlo3 hs23.size
            replace hb13 := hb13.grown hs23 (ne_gt lt7)
            refine L_nil (N_then (C_ret ?_))
            refine retC (vs := [.slice Ar R.length cr, .slice Ap Pl.length cp, .int .i64 ((en : Nat) : Int), .int .i64 2]) Tryd.results7 rfl agg31 (At.pre (hb17.at_ 0) rfl) rfl  ?_
            exact ⟨hB, R, Pl, _, _, _, _, _, _, rfl, (own_lo hoR (Nat.le_refl _)), hDY, (own_lo hoP (Nat.le_refl _)), hGo, by omega⟩
        · refine C_skip (N_then (C_seq (C_reg rfl ?_)))
          refine L_run (R_loadA (vs := [.bool ((feedN o bs ((accN e (flatB (bsOf ss) e 16) (flatO (bsOf ss) e 16) (beginN p)).1.1) ((accN e (flatB (bsOf ss) e 16) (flatO (bsOf ss) e 16) (beginN p)).1.2)).1.1), .slice A_4 (((feedN o bs ((accN e (flatB (bsOf ss) e 16) (flatO (bsOf ss) e 16) (beginN p)).1.1) ((accN e (flatB (bsOf ss) e 16) (flatO (bsOf ss) e 16) (beginN p)).1.2)).1.2).length) c_4]) rfl agg51 (At.pre (hb13.at_ 0) rfl) rfl) rfl ?_
          refine L_stA (vs := [.bool ((feedN o bs ((accN e (flatB (bsOf ss) e 16) (flatO (bsOf ss) e 16) (beginN p)).1.1) ((accN e (flatB (bsOf ss) e 16) (flatO (bsOf ss) e 16) (beginN p)).1.2)).1.1), .slice A_4 (((feedN o bs ((accN e (flatB (bsOf ss) e 16) (flatO (bsOf ss) e 16) (beginN p)).1.1) ((accN e (flatB (bsOf ss) e 16) (flatO (bsOf ss) e 16) (beginN p)).1.2)).1.2).length) c_4]) rfl rfl rfl sz51 rfl hbj rfl ?_
          intro w25 hb18 hs24 hz18
          replace hB := gb_trg hB hs24 ge4
          replace hS := hS.old hs24 ge4
          replace hb1 := hb1.grown hs24 (ne_lt lt2)
          replace ho1 := own_other ho1 hbj rfl hs24
          replace ho2 := own_other ho2 hbj rfl hs24
          replace hlo1 := Nat.le_trans hlo1 hs24.size
          replace hbr := hbr.grown hs24 (ne_lt lt3)
          replace ho := own_other ho hbj rfl hs24
          replace hoR := own_other hoR hbj rfl hs24
          replace hoP := own_other hoP hbj rfl hs24
          replace hDY := hDY.other hbj rfl rfl hs24
          replace ho3 := own_other ho3 hbj rfl hs24
          replace hlo2 := Nat.le_trans hlo2 hs24.size
          replace hb7 := hb7.grown hs24 (ne_gt lt6)
          replace ho4 := own_other ho4 hbj rfl hs24
          replace ho5 := own_other ho5 hbj rfl hs24
          replace hlo3 := Nat.le_trans hlo3 hs24.size
          replace hb13 := hb13.grown hs24 (ne_gt lt9)
          refine L_nil (N_then (C_seq (C_reg rfl ?_)))
          refine L_run (R_move rfl) rfl ?_
          refine L_run (R_move rfl) rfl ?_
          refine L_run (R_eqv (R_add64 rfl rfl (by first | omega | have h_ := acc_go (ss := ss) (e := e) (beginN_le hp).2 (by assumption); omega)) (v' := .int .i64 ((beginN p + (accN e (flatB (bsOf ss) e 16) (flatO (bsOf ss) e 16) (beginN p)).2 : Nat) : Int)) (congrArg _ (by omega))) rfl ?_
          refine L_run (R_assign rfl) rfl ?_
          refine L_nil (N_then (C_seq (C_reg rfl ?_)))
          refine L_run (R_move rfl) rfl ?_
          refine L_nil (N_then ?_)
          refine C_cond rfl (fun h6 => ?_) (fun h6 => ?_)
          · refine C_seq (C_reg rfl ?_)
            refine L_run (R_field (r := 0) rfl fld31_0 rfl) rfl ?_
            refine L_run (R_load1 rfl scl28 (hbr.cell (i := 0) rfl)) rfl ?_
            refine L_run (R_move rfl) rfl ?_
            refine L_buildSlice (pv := [(0, .slice A_5 (((feedN o bs ((accN e (flatB (bsOf ss) e 16) (flatO (bsOf ss) e 16) (beginN p)).1.1) ((accN e (flatB (bsOf ss) e 16) (flatO (bsOf ss) e 16) (beginN p)).1.2)).2.1).length) c_5)]) (cs := [.slice A_5 (((feedN o bs ((accN e (flatB (bsOf ss) e 16) (flatO (bsOf ss) e 16) (beginN p)).1.1) ((accN e (flatB (bsOf ss) e 16) (flatO (bsOf ss) e 16) (beginN p)).1.2)).2.1).length) c_5]) slc28 zer25 rfl rfl (by kernel_rfl) rfl ?_
            intro g6 w26 eg6 hb19 hs25 hz19
            have ge9 : w.heap.size ≤ g6 := eg_ge hB eg6
            have lt11 : g1 < g6 := lt_of_eg hb1.lt eg6
            have lt12 : g2 < g6 := lt_of_eg hbr.lt eg6
            have lt13 : g3 < g6 := lt_of_eg hb18.lt eg6
            have lt14 : g4 < g6 := lt_of_eg hb7.lt eg6
            have lt15 : g5 < g6 := lt_of_eg hb13.lt eg6
            have hap1 : ∀ k_, (Value.slice Ar R.length cr).ownBlock = some k_ → k_ ≠ g6 := fun k_ hk => by have h_ := (World.ownsRow.lt hoR k_ hk).2; omega
            replace hB := gb_tr hB hs25
            replace hS := hS.gb hs25
            replace hb1 := hb1.gb hs25
            replace ho1 := own_gb ho1 hs25
            replace ho2 := own_gb ho2 hs25
            replace hlo1 := Nat.le_trans hlo1 hs25.size
            replace hbr := hbr.gb hs25
            replace hb18 := hb18.gb hs25
            replace ho := own_gb ho hs25
            replace hoR := own_gb hoR hs25
            replace hoP := own_gb hoP hs25
            replace hDY := hDY.gb hs25
            replace ho3 := own_gb ho3 hs25
            replace hlo2 := Nat.le_trans hlo2 hs25.size
            replace hb7 := hb7.gb hs25
            replace ho4 := own_gb ho4 hs25
            replace ho5 := own_gb ho5 hs25
            replace hlo3 := Nat.le_trans hlo3 hs25.size
            replace hb13 := hb13.gb hs25
            refine T_append (xs := R) (ys := [(⟨A_5, c_5, ((feedN o bs ((accN e (flatB (bsOf ss) e 16) (flatO (bsOf ss) e 16) (beginN p)).1.1) ((accN e (flatB (bsOf ss) e 16) (flatO (bsOf ss) e 16) (beginN p)).1.2)).2.1)⟩ : Bys)]) EncY slc28 rfl rfl hoR (Blk.sli (m := 0) hb19) (by first | omega | (simp; omega)) (by have := hB.size; omega) rfl ?_
            intro A_6 c_6 w27 ho6 hs26 hat1
            replace hB := gb_tro hB hoR hs26 (Nat.le_refl _)
            replace hS := hS.grown hs26 (fun k hk => .inr (Nat.le_trans (Nat.le_refl _) (World.ownsRow.lt hoR k hk).1))
            replace hb1 := blk_own hb1 hoR rfl hs26
            replace ho1 := ho1.kept hs26 (own_type_ne' ho1 hoR rfl)
            replace ho2 := ho2.kept hs26 (own_type_ne' ho2 hoR rfl)
            replace hlo1 := Nat.le_trans hlo1 hs26.size
            replace hbr := blk_own hbr hoR rfl hs26
            replace hb18 := blk_own hb18 hoR rfl hs26
            replace ho := ho.kept hs26 (own_type_ne' ho hoR rfl)
            replace hoP := hoP.kept hs26 (own_type_ne' hoP hoR rfl)
            replace hDY := hDY.otherO hoR rfl rfl hs26
            replace ho3 := ho3.kept hs26 (own_type_ne' ho3 hoR rfl)
            replace hlo2 := Nat.le_trans hlo2 hs26.size
            replace hb7 := blk_own hb7 hoR rfl hs26
            replace ho4 := ho4.kept hs26 (own_type_ne' ho4 hoR rfl)
            replace ho5 := ho5.kept hs26 (own_type_ne' ho5 hoR rfl)
            replace hlo3 := Nat.le_trans hlo3 hs26.size
            replace hb13 := blk_own hb13 hoR rfl hs26
            refine L_run (R_field (r := 0) rfl fld31_0 rfl) rfl ?_
            refine L_st1 rfl rfl rfl sz28 hbr rfl ?_
            intro w28 hb20 hs27 hz20
            replace hB := gb_trg hB hs27 ge3
            replace hS := hS.old hs27 ge3
            replace hb1 := hb1.grown hs27 (ne_lt lt1)
            replace ho1 := own_other ho1 hbr rfl hs27
            replace ho2 := own_other ho2 hbr rfl hs27
            replace hlo1 := Nat.le_trans hlo1 hs27.size
            replace hb18 := hb18.grown hs27 (ne_gt lt3)
            replace ho := own_other ho hbr rfl hs27
            replace hoP := own_other hoP hbr rfl hs27
            replace hDY := hDY.other hbr rfl rfl hs27
            replace ho3 := own_other ho3 hbr rfl hs27
            replace hlo2 := Nat.le_trans hlo2 hs27.size
            replace hb7 := hb7.grown hs27 (ne_gt lt5)
            replace ho4 := own_other ho4 hbr rfl hs27
            replace ho5 := own_other ho5 hbr rfl hs27
            replace hlo3 := Nat.le_trans hlo3 hs27.size
            replace hb13 := hb13.grown hs27 (ne_gt lt8)
            replace ho6 := own_other ho6 hbr rfl hs27
            refine L_nil (N_then (C_seq (C_reg rfl ?_)))
            refine L_run (R_field (r := 1) rfl fld31_1 rfl) rfl ?_
            refine L_run (R_load1 rfl scl29 (hb20.cell (i := 1) rfl)) rfl ?_
            refine L_run (R_move rfl) rfl ?_
            refine L_buildSlice (pv := [(0, .int .i64 ((beginN p : Nat) : Int))]) (cs := [.int .i64 ((beginN p : Nat) : Int)]) slc29 zer3 rfl rfl (by kernel_rfl) rfl ?_
            intro g7 w29 eg7 hb21 hs28 hz21
            have ge10 : w.heap.size ≤ g7 := eg_ge hB eg7
            have lt16 : g1 < g7 := lt_of_eg hb1.lt eg7
            have lt17 : g2 < g7 := lt_of_eg hb20.lt eg7
            have lt18 : g3 < g7 := lt_of_eg hb18.lt eg7
            have lt19 : g4 < g7 := lt_of_eg hb7.lt eg7
            have lt20 : g5 < g7 := lt_of_eg hb13.lt eg7
            have hap2 : ∀ k_, (Value.slice Ap Pl.length cp).ownBlock = some k_ → k_ ≠ g7 := fun k_ hk => by have h_ := (World.ownsRow.lt hoP k_ hk).2; omega
            replace hB := gb_tr hB hs28
            replace hS := hS.gb hs28
            replace hb1 := hb1.gb hs28
            replace ho1 := own_gb ho1 hs28
            replace ho2 := own_gb ho2 hs28
            replace hlo1 := Nat.le_trans hlo1 hs28.size
            replace hb20 := hb20.gb hs28
            replace hb18 := hb18.gb hs28
            replace ho := own_gb ho hs28
            replace hoP := own_gb hoP hs28
            replace hDY := hDY.gb hs28
            replace ho3 := own_gb ho3 hs28
            replace hlo2 := Nat.le_trans hlo2 hs28.size
            replace hb7 := hb7.gb hs28
            replace ho4 := own_gb ho4 hs28
            replace ho5 := own_gb ho5 hs28
            replace hlo3 := Nat.le_trans hlo3 hs28.size
            replace hb13 := hb13.gb hs28
            replace ho6 := own_gb ho6 hs28
            refine T_append (xs := Pl) (ys := [((beginN p : Nat) : Int)]) EncZ slc29 rfl rfl hoP (Blk.sli (m := 0) hb21) (by first | omega | (simp; omega)) (by have := hB.size; omega) rfl ?_
            intro A_7 c_7 w30 ho7 hs29 hat2
            replace hB := gb_tro hB hoP hs29 (Nat.le_refl _)
            replace hS := hS.grown hs29 (fun k hk => .inr (Nat.le_trans (Nat.le_refl _) (World.ownsRow.lt hoP k hk).1))
            replace hb1 := blk_own hb1 hoP rfl hs29
            replace ho1 := ho1.kept hs29 (own_type_ne' ho1 hoP rfl)
            replace ho2 := ho2.kept hs29 (own_type_ne' ho2 hoP rfl)
            replace hlo1 := Nat.le_trans hlo1 hs29.size
            replace hb20 := blk_own hb20 hoP rfl hs29
            replace hb18 := blk_own hb18 hoP rfl hs29
            replace ho := ho.kept hs29 (own_type_ne' ho hoP rfl)
            replace hDY := hDY.otherO hoP rfl rfl hs29
            replace ho3 := ho3.kept hs29 (own_type_ne' ho3 hoP rfl)
            replace hlo2 := Nat.le_trans hlo2 hs29.size
            replace hb7 := blk_own hb7 hoP rfl hs29
            replace ho4 := ho4.kept hs29 (own_type_ne' ho4 hoP rfl)
            replace ho5 := ho5.kept hs29 (own_type_ne' ho5 hoP rfl)
            replace hlo3 := Nat.le_trans hlo3 hs29.size
            replace hb13 := blk_own hb13 hoP rfl hs29
            replace ho6 := ho6.kept hs29 (own_type_ne' ho6 hoP rfl)
            refine L_run (R_field (r := 1) rfl fld31_1 rfl) rfl ?_
            refine L_st1 rfl rfl rfl sz29 hb20 rfl ?_
            intro w31 hb22 hs30 hz22
            replace hB := gb_trg hB hs30 ge3
            replace hS := hS.old hs30 ge3
            replace hb1 := hb1.grown hs30 (ne_lt lt1)
            replace ho1 := own_other ho1 hb20 rfl hs30
            replace ho2 := own_other ho2 hb20 rfl hs30
            replace hlo1 := Nat.le_trans hlo1 hs30.size
            replace hb18 := hb18.grown hs30 (ne_gt lt3)
            replace ho := own_other ho hb20 rfl hs30
            replace hDY := hDY.other hb20 rfl rfl hs30
            replace ho3 := own_other ho3 hb20 rfl hs30
            replace hlo2 := Nat.le_trans hlo2 hs30.size
            replace hb7 := hb7.grown hs30 (ne_gt lt5)
            replace ho4 := own_other ho4 hb20 rfl hs30
            replace ho5 := own_other ho5 hb20 rfl hs30
            replace hlo3 := Nat.le_trans hlo3 hs30.size
            replace hb13 := hb13.grown hs30 (ne_gt lt8)
            replace ho6 := own_other ho6 hb20 rfl hs30
            replace ho7 := own_other ho7 hb20 rfl hs30
            refine L_nil (N_then (C_reg rfl ?_))
            refine L_run (R_move rfl) rfl ?_
            refine L_run (R_field (r := 2) rfl fld31_2 rfl) rfl ?_
            refine L_st1 rfl rfl rfl sz3 hb22 rfl ?_
            intro w32 hb23 hs31 hz23
            replace hB := gb_trg hB hs31 ge3
            replace hS := hS.old hs31 ge3
            replace hb1 := hb1.grown hs31 (ne_lt lt1)
            replace ho1 := own_other ho1 hb22 rfl hs31
            replace ho2 := own_other ho2 hb22 rfl hs31
            replace hlo1 := Nat.le_trans hlo1 hs31.size
            replace hb18 := hb18.grown hs31 (ne_gt lt3)
            replace ho := own_other ho hb22 rfl hs31
            replace hDY := hDY.other hb22 rfl rfl hs31
            replace ho3 := own_other ho3 hb22 rfl hs31
            replace hlo2 := Nat.le_trans hlo2 hs31.size
            replace hb7 := hb7.grown hs31 (ne_gt lt5)
            replace ho4 := own_other ho4 hb22 rfl hs31
            replace ho5 := own_other ho5 hb22 rfl hs31
            replace hlo3 := Nat.le_trans hlo3 hs31.size
            replace hb13 := hb13.grown hs31 (ne_gt lt8)
            replace ho6 := own_other ho6 hb22 rfl hs31
            replace ho7 := own_other ho7 hb22 rfl hs31
            refine L_nil (N_in (N_then ?_))
            have hgo := acc_go (beginN_le hp).2 h1
            have hbn := beginN_le hp
            have hif : (if o = true then f else beginN p) = beginN p := by have h_ : o = false := (by simpa using h3); rw [h_]; rfl
            have hfn := open_fin (k := (accN e (flatB (bsOf ss) e 16) (flatO (bsOf ss) e 16) (beginN p)).1.1) (d := (accN e (flatB (bsOf ss) e 16) (flatO (bsOf ss) e 16) (beginN p)).1.2) hp hOp rfl hgo.1 hgo.2.1 (Decidable.not_not.1 h4) h6
            rw [hif] at hfn
            exact ⟨832 - (beginN p + (accN e (flatB (bsOf ss) e 16) (flatO (bsOf ss) e 16) (beginN p)).2), by omega, _, (beginN p + (accN e (flatB (bsOf ss) e 16) (flatO (bsOf ss) e 16) (beginN p)).2), (beginN p), ((feedN o bs ((accN e (flatB (bsOf ss) e 16) (flatO (bsOf ss) e 16) (beginN p)).1.1) ((accN e (flatB (bsOf ss) e 16) (flatO (bsOf ss) e 16) (beginN p)).1.2)).1.1), (feedN o bs ((accN e (flatB (bsOf ss) e 16) (flatO (bsOf ss) e 16) (beginN p)).1.1) ((accN e (flatB (bsOf ss) e 16) (flatO (bsOf ss) e 16) (beginN p)).1.2)).1.2, A_4, c_4, R ++ ([(⟨A_5, c_5, ((feedN o bs ((accN e (flatB (bsOf ss) e 16) (flatO (bsOf ss) e 16) (beginN p)).1.1) ((accN e (flatB (bsOf ss) e 16) (flatO (bsOf ss) e 16) (beginN p)).1.2)).2.1)⟩ : Bys)]), A_6, c_6, Pl ++ ([((beginN p : Nat) : Int)]), A_7, c_7, (beginN p + (accN e (flatB (bsOf ss) e 16) (flatO (bsOf ss) e 16) (beginN p)).2), Ac_frg ⟨rfl, rfl, rfl, rfl, rfl, rfl, rfl, (agr rfl (by first | rfl | (congr 1; omega) | (congr 1; simp; done) | (congr 1; simp only [IntKind.wrap_u64, IntKind.wrap_i64, IntKind.wrap_u8]; omega) | (congr 1 <;> omega))), (agr rfl (by first | rfl | (congr 1; omega) | (congr 1; simp; done) | (congr 1; simp only [IntKind.wrap_u64, IntKind.wrap_i64, IntKind.wrap_u8]; omega) | (congr 1 <;> omega))), trivial⟩, hB, hS, hb1, ho1, ho2, hlo1, hb23, hb18, (own_lo ho4 ge7), (own_lo ho6 (Nat.le_refl _)), (own_lo ho7 (Nat.le_refl _)), (hDY.snoc (own_of ho5).2.2), hgo.2.1, feedN_len.1, (by simp only [List.length_append, List.length_cons, List.length_nil]; omega), hfn.2.2, (hGo.snoc hfn.1 hfn.2.1), rfl⟩
          · refine C_skip (N_in (N_then ?_))
            have hgo := acc_go (beginN_le hp).2 h1
            have hbn := beginN_le hp
            have hif : (if o = true then f else beginN p) = beginN p := by have h_ : o = false := (by simpa using h3); rw [h_]; rfl
            have hop := open_go (k := (accN e (flatB (bsOf ss) e 16) (flatO (bsOf ss) e 16) (beginN p)).1.1) (d := (accN e (flatB (bsOf ss) e 16) (flatO (bsOf ss) e 16) (beginN p)).1.2) hp hOp rfl hgo.1 hgo.2.1 (Decidable.not_not.1 h4) h6
            rw [hif] at hop
            exact ⟨832 - (beginN p + (accN e (flatB (bsOf ss) e 16) (flatO (bsOf ss) e 16) (beginN p)).2), by omega, _, (beginN p + (accN e (flatB (bsOf ss) e 16) (flatO (bsOf ss) e 16) (beginN p)).2), (beginN p), ((feedN o bs ((accN e (flatB (bsOf ss) e 16) (flatO (bsOf ss) e 16) (beginN p)).1.1) ((accN e (flatB (bsOf ss) e 16) (flatO (bsOf ss) e 16) (beginN p)).1.2)).1.1), (feedN o bs ((accN e (flatB (bsOf ss) e 16) (flatO (bsOf ss) e 16) (beginN p)).1.1) ((accN e (flatB (bsOf ss) e 16) (flatO (bsOf ss) e 16) (beginN p)).1.2)).1.2, A_4, c_4, R, Ar, cr, Pl, Ap, cp, en, Ac_frg ⟨rfl, rfl, rfl, rfl, rfl, rfl, rfl, (agr rfl (by first | rfl | (congr 1; omega) | (congr 1; simp; done) | (congr 1; simp only [IntKind.wrap_u64, IntKind.wrap_i64, IntKind.wrap_u8]; omega) | (congr 1 <;> omega))), (agr rfl (by first | rfl | (congr 1; omega) | (congr 1; simp; done) | (congr 1; simp only [IntKind.wrap_u64, IntKind.wrap_i64, IntKind.wrap_u8]; omega) | (congr 1 <;> omega))), trivial⟩, hB, hS, hb1, ho1, ho2, hlo1, hbr, hb18, (own_lo ho4 ge7), (own_lo hoR (Nat.le_refl _)), (own_lo hoP (Nat.le_refl _)), hDY, hgo.2.1, feedN_len.1, (by omega), hop, hGo, rfl⟩
      · refine C_skip (N_then (C_seq (C_reg rfl ?_)))
        refine L_run (R_loadA (vs := [.bool o, .slice Aj bs.length cj]) rfl agg51 (At.pre (hbj.at_ 0) rfl) rfl) rfl ?_
        refine L_run (R_loadA (vs := [.int .i64 (((accN e (flatB (bsOf ss) e 16) (flatO (bsOf ss) e 16) (beginN p)).1.1 : Nat) : Int), .int .u32 E1, .slice A_3 (((accN e (flatB (bsOf ss) e 16) (flatO (bsOf ss) e 16) (beginN p)).1.2).length) c_3]) rfl agg43 (At.pre (hb7.at_ 0) rfl) rfl) rfl ?_
        have ge11 : w.heap.size ≤ w11.heap.size := hB.size
        refine L_call rfl cb14 (feed15_ok (o := o) (bs := bs) (d := (accN e (flatB (bsOf ss) e 16) (flatO (bsOf ss) e 16) (beginN p)).1.2) (k := ((accN e (flatB (bsOf ss) e 16) (flatO (bsOf ss) e 16) (beginN p)).1.1)) (own_of ho).2.2 (own_of ho3).2.2 (by omega) (by have h_ := acc_go (ss := ss) (e := e) (beginN_le hp).2 (by assumption); omega)) rfl ?_
        rintro _ w33 ⟨hs32, A_8, c_8, A_9, c_9, rfl, ho8, ho9⟩
        replace hB := gb_tr hB hs32
        replace hS := hS.gb hs32
        replace hb1 := hb1.gb hs32
        replace ho1 := own_gb ho1 hs32
        replace ho2 := own_gb ho2 hs32
        replace hlo1 := Nat.le_trans hlo1 hs32.size
        replace hbr := hbr.gb hs32
        replace hbj := hbj.gb hs32
        replace ho := own_gb ho hs32
        replace hoR := own_gb hoR hs32
        replace hoP := own_gb hoP hs32
        replace hDY := hDY.gb hs32
        replace ho3 := own_gb ho3 hs32
        replace hlo2 := Nat.le_trans hlo2 hs32.size
        replace hb7 := hb7.gb hs32
        have hlo4 : w11.heap.size ≤ w33.heap.size := hs32.size
        refine L_run (R_move rfl) rfl ?_
        refine L_run (R_extract rfl rfl) rfl ?_
        refine L_run (R_extract rfl rfl) rfl ?_
        refine L_run (R_extract rfl rfl) rfl ?_
        refine L_run (R_extract rfl rfl) rfl ?_
        refine L_alloc (cs := [.bool false, .slice none 0 0]) zer51 rfl rfl ?_
        intro g8 w34 eg8 hb24 hs33 hz24
        have ge12 : w.heap.size ≤ g8 := eg_ge hB eg8
        have lt21 : g1 < g8 := lt_of_eg hb1.lt eg8
        have lt22 : g2 < g8 := lt_of_eg hbr.lt eg8
        have lt23 : g3 < g8 := lt_of_eg hbj.lt eg8
        have lt24 : g4 < g8 := lt_of_eg hb7.lt eg8
        replace hB := gb_tr hB hs33
        replace hS := hS.gb hs33
        replace hb1 := hb1.gb hs33
        replace ho1 := own_gb ho1 hs33
        replace ho2 := own_gb ho2 hs33
        replace hlo1 := Nat.le_trans hlo1 hs33.size
        replace hbr := hbr.gb hs33
        replace hbj := hbj.gb hs33
        replace ho := own_gb ho hs33
        replace hoR := own_gb hoR hs33
        replace hoP := own_gb hoP hs33
        replace hDY := hDY.gb hs33
        replace ho3 := own_gb ho3 hs33
        replace hlo2 := Nat.le_trans hlo2 hs33.size
        replace hb7 := hb7.gb hs33
        replace ho8 := own_gb ho8 hs33
        replace ho9 := own_gb ho9 hs33
        replace hlo4 := Nat.le_trans hlo4 hs33.size
        refine L_stA (vs := [.bool ((feedN o bs ((accN e (flatB (bsOf ss) e 16) (flatO (bsOf ss) e 16) (beginN p)).1.1) ((accN e (flatB (bsOf ss) e 16) (flatO (bsOf ss) e 16) (beginN p)).1.2)).1.1), .slice A_8 (((feedN o bs ((accN e (flatB (bsOf ss) e 16) (flatO (bsOf ss) e 16) (beginN p)).1.1) ((accN e (flatB (bsOf ss) e 16) (flatO (bsOf ss) e 16) (beginN p)).1.2)).1.2).length) c_8]) rfl rfl rfl sz51 rfl hb24 rfl ?_
        intro w35 hb25 hs34 hz25
        replace hB := gb_trg hB hs34 ge12
        replace hS := hS.old hs34 ge12
        replace hb1 := hb1.grown hs34 (ne_lt lt21)
        replace ho1 := own_other ho1 hb24 rfl hs34
        replace ho2 := own_other ho2 hb24 rfl hs34
        replace hlo1 := Nat.le_trans hlo1 hs34.size
        replace hbr := hbr.grown hs34 (ne_lt lt22)
        replace hbj := hbj.grown hs34 (ne_lt lt23)
        replace ho := own_other ho hb24 rfl hs34
        replace hoR := own_other hoR hb24 rfl hs34
        replace hoP := own_other hoP hb24 rfl hs34
        replace hDY := hDY.other hb24 rfl rfl hs34
        replace ho3 := own_other ho3 hb24 rfl hs34
        replace hlo2 := Nat.le_trans hlo2 hs34.size
        replace hb7 := hb7.grown hs34 (ne_lt lt24)
        replace ho8 := own_other ho8 hb24 rfl hs34
        replace ho9 := own_other ho9 hb24 rfl hs34
        replace hlo4 := Nat.le_trans hlo4 hs34.size
        refine L_run (R_assign rfl) rfl ?_
        refine L_run (R_assign rfl) rfl ?_
        refine L_run (R_assign rfl) rfl ?_
        refine L_nil (N_then (C_seq (C_seq (C_reg rfl ?_))))
        refine L_run (R_move rfl) rfl ?_
        refine L_run (R_neq rfl rfl) rfl ?_
        refine L_nil (N_then ?_)
        refine C_if rfl (fun h7 => ?_) (fun h7 => ?_)
        · refine C_exit (X_then (X_miss rfl (X_then (X_hit (N_then (C_seq (C_reg rfl ?_)))))))
          refine L_run (R_field (r := 3) rfl fld31_3 rfl) rfl ?_
          refine L_st1 rfl rfl rfl sz3 hbr rfl ?_
          intro w36 hb26 hs35 hz26
          replace hB := gb_trg hB hs35 ge3
          replace hS := hS.old hs35 ge3
          replace hb1 := hb1.grown hs35 (ne_lt lt1)
          replace ho1 := own_other ho1 hbr rfl hs35
          replace ho2 := own_other ho2 hbr rfl hs35
          replace hlo1 := Nat.le_trans hlo1 hs35.size
          replace hbj := hbj.grown hs35 (ne_gt lt3)
          replace ho := own_other ho hbr rfl hs35
          replace hoR := own_other hoR hbr rfl hs35
          replace hoP := own_other hoP hbr rfl hs35
          replace hDY := hDY.other hbr rfl rfl hs35
          replace ho3 := own_other ho3 hbr rfl hs35
          replace hlo2 := Nat.le_trans hlo2 hs35.size
          replace hb7 := hb7.grown hs35 (ne_gt lt5)
          replace ho8 := own_other ho8 hbr rfl hs35
          replace ho9 := own_other ho9 hbr rfl hs35
          replace hlo4 := Nat.le_trans hlo4 hs35.size
          replace hb25 := hb25.grown hs35 (ne_gt lt22)
          refine L_nil (N_then (C_seq (C_seq (C_reg rfl ?_))))
          refine L_run (R_move rfl) rfl ?_
          refine L_run (R_field (r := 2) rfl fld31_2 rfl) rfl ?_
          refine L_run (R_load1 rfl scl3 (hb26.cell (i := 2) rfl)) rfl ?_
          refine L_call rfl cb16 (rest_ok (ss := ss) (n := en) hS) rfl ?_
          rintro _ w37 ⟨hs36, b3, rfl⟩
          replace hB := gb_tr hB hs36
          replace hS := hS.gb hs36
          replace hb1 := hb1.gb hs36
          replace ho1 := own_gb ho1 hs36
          replace ho2 := own_gb ho2 hs36
          replace hlo1 := Nat.le_trans hlo1 hs36.size
          replace hb26 := hb26.gb hs36
          replace hbj := hbj.gb hs36
          replace ho := own_gb ho hs36
          replace hoR := own_gb hoR hs36
          replace hoP := own_gb hoP hs36
          replace hDY := hDY.gb hs36
          replace ho3 := own_gb ho3 hs36
          replace hlo2 := Nat.le_trans hlo2 hs36.size
          replace hb7 := hb7.gb hs36
          replace ho8 := own_gb ho8 hs36
          replace ho9 := own_gb ho9 hs36
          replace hlo4 := Nat.le_trans hlo4 hs36.size
          replace hb25 := hb25.gb hs36
          refine L_nil (N_then ?_)
          refine C_cond rfl (fun h8 => ?_) (fun h8 => ?_)
          · refine C_reg rfl ?_
            refine L_run (R_field (r := 3) rfl fld31_3 rfl) rfl ?_
            refine L_st1 rfl rfl rfl sz3 hb26 rfl ?_
            intro w38 hb27 hs37 hz27
            replace hB := gb_trg hB hs37 ge3
            replace hS := hS.old hs37 ge3
            replace hb1 := hb1.grown hs37 (ne_lt lt1)
            replace ho1 := own_other ho1 hb26 rfl hs37
            replace ho2 := own_other ho2 hb26 rfl hs37
            replace hlo1 := Nat.le_trans hlo1 hs37.size
            replace hbj := hbj.grown hs37 (ne_gt lt3)
            replace ho := own_other ho hb26 rfl hs37
            replace hoR := own_other hoR hb26 rfl hs37
            replace hoP := own_other hoP hb26 rfl hs37
            replace hDY := hDY.other hb26 rfl rfl hs37
            replace ho3 := own_other ho3 hb26 rfl hs37
            replace hlo2 := Nat.le_trans hlo2 hs37.size
            replace hb7 := hb7.grown hs37 (ne_gt lt5)
            replace ho8 := own_other ho8 hb26 rfl hs37
            replace ho9 := own_other ho9 hb26 rfl hs37
            replace hlo4 := Nat.le_trans hlo4 hs37.size
            replace hb25 := hb25.grown hs37 (ne_gt lt22)
            refine L_nil (N_then (C_seq (C_reg rfl ?_)))
            refine L_run (R_loadA (vs := [.slice Ar R.length cr, .slice Ap Pl.length cp, .int .i64 ((en : Nat) : Int), .int .i64 1]) rfl agg31 (At.pre (hb27.at_ 0) rfl) rfl) rfl ?_
            refine L_stA (vs := [.slice Ar R.length cr, .slice Ap Pl.length cp, .int .i64 ((en : Nat) : Int), .int .i64 1]) rfl rfl rfl sz31 rfl hb1 rfl ?_
            intro w39 hb28 hs38 hz28
            replace hB := gb_trg hB hs38 ge1
            replace hS := hS.old hs38 ge1
            replace ho1 := own_other ho1 hb1 rfl hs38
            replace ho2 := own_other ho2 hb1 rfl hs38
            replace hlo1 := Nat.le_trans hlo1 hs38.size
            replace hb27 := hb27.grown hs38 (ne_gt lt1)
            replace hbj := hbj.grown hs38 (ne_gt lt2)
            replace ho := own_other ho hb1 rfl hs38
            replace hoR := own_other hoR hb1 rfl hs38
            replace hoP := own_other hoP hb1 rfl hs38
            replace hDY := hDY.other hb1 rfl rfl hs38
            replace ho3 := own_other ho3 hb1 rfl hs38
            replace hlo2 := Nat.le_trans hlo2 hs38.size
            replace hb7 := hb7.grown hs38 (ne_gt lt4)
            replace ho8 := own_other ho8 hb1 rfl hs38
            replace ho9 := own_other ho9 hb1 rfl hs38
            replace hlo4 := Nat.le_trans hlo4 hs38.size
            replace hb25 := hb25.grown hs38 (ne_gt lt21)
            refine L_nil (N_then (C_ret ?_))
            refine retC (vs := [.slice Ar R.length cr, .slice Ap Pl.length cp, .int .i64 ((en : Nat) : Int), .int .i64 1]) Tryd.results7 rfl agg31 (At.pre (hb28.at_ 0) rfl) rfl  ?_
            exact ⟨hB, R, Pl, _, _, _, _, _, _, rfl, (own_lo hoR (Nat.le_refl _)), hDY, (own_lo hoP (Nat.le_refl _)), hGo, by omega⟩
          · refine C_skip (N_then (C_seq (C_reg rfl ?_)))
            refine L_run (R_loadA (vs := [.slice Ar R.length cr, .slice Ap Pl.length cp, .int .i64 ((en : Nat) : Int), .int .i64 2]) rfl agg31 (At.pre (hb26.at_ 0) rfl) rfl) rfl ?_
            refine L_stA (vs := [.slice Ar R.length cr, .slice Ap Pl.length cp, .int .i64 ((en : Nat) : Int), .int .i64 2]) rfl rfl rfl sz31 rfl hb1 rfl ?_
            intro w40 hb29 hs39 hz29
            replace hB := gb_trg hB hs39 ge1
            replace hS := hS.old hs39 ge1
            replace ho1 := own_other ho1 hb1 rfl hs39
            replace ho2 := own_other ho2 hb1 rfl hs39
            replace hlo1 := Nat.le_trans hlo1 hs39.size
            replace hb26 := hb26.grown hs39 (ne_gt lt1)
            replace hbj := hbj.grown hs39 (ne_gt lt2)
            replace ho := own_other ho hb1 rfl hs39
            replace hoR := own_other hoR hb1 rfl hs39
            replace hoP := own_other hoP hb1 rfl hs39
            replace hDY := hDY.other hb1 rfl rfl hs39
            replace ho3 := own_other ho3 hb1 rfl hs39
            replace hlo2 := Nat.le_trans hlo2 hs39.size
            replace hb7 := hb7.grown hs39 (ne_gt lt4)
            replace ho8 := own_other ho8 hb1 rfl hs39
            replace ho9 := own_other ho9 hb1 rfl hs39
            replace hlo4 := Nat.le_trans hlo4 hs39.size
            replace hb25 := hb25.grown hs39 (ne_gt lt21)
            refine L_nil (N_then (C_ret ?_))
            refine retC (vs := [.slice Ar R.length cr, .slice Ap Pl.length cp, .int .i64 ((en : Nat) : Int), .int .i64 2]) Tryd.results7 rfl agg31 (At.pre (hb29.at_ 0) rfl) rfl  ?_
            exact ⟨hB, R, Pl, _, _, _, _, _, _, rfl, (own_lo hoR (Nat.le_refl _)), hDY, (own_lo hoP (Nat.le_refl _)), hGo, by omega⟩
        · refine C_skip (N_then (C_seq (C_reg rfl ?_)))
          refine L_run (R_loadA (vs := [.bool ((feedN o bs ((accN e (flatB (bsOf ss) e 16) (flatO (bsOf ss) e 16) (beginN p)).1.1) ((accN e (flatB (bsOf ss) e 16) (flatO (bsOf ss) e 16) (beginN p)).1.2)).1.1), .slice A_8 (((feedN o bs ((accN e (flatB (bsOf ss) e 16) (flatO (bsOf ss) e 16) (beginN p)).1.1) ((accN e (flatB (bsOf ss) e 16) (flatO (bsOf ss) e 16) (beginN p)).1.2)).1.2).length) c_8]) rfl agg51 (At.pre (hb25.at_ 0) rfl) rfl) rfl ?_
          refine L_stA (vs := [.bool ((feedN o bs ((accN e (flatB (bsOf ss) e 16) (flatO (bsOf ss) e 16) (beginN p)).1.1) ((accN e (flatB (bsOf ss) e 16) (flatO (bsOf ss) e 16) (beginN p)).1.2)).1.1), .slice A_8 (((feedN o bs ((accN e (flatB (bsOf ss) e 16) (flatO (bsOf ss) e 16) (beginN p)).1.1) ((accN e (flatB (bsOf ss) e 16) (flatO (bsOf ss) e 16) (beginN p)).1.2)).1.2).length) c_8]) rfl rfl rfl sz51 rfl hbj rfl ?_
          intro w41 hb30 hs40 hz30
          replace hB := gb_trg hB hs40 ge4
          replace hS := hS.old hs40 ge4
          replace hb1 := hb1.grown hs40 (ne_lt lt2)
          replace ho1 := own_other ho1 hbj rfl hs40
          replace ho2 := own_other ho2 hbj rfl hs40
          replace hlo1 := Nat.le_trans hlo1 hs40.size
          replace hbr := hbr.grown hs40 (ne_lt lt3)
          replace ho := own_other ho hbj rfl hs40
          replace hoR := own_other hoR hbj rfl hs40
          replace hoP := own_other hoP hbj rfl hs40
          replace hDY := hDY.other hbj rfl rfl hs40
          replace ho3 := own_other ho3 hbj rfl hs40
          replace hlo2 := Nat.le_trans hlo2 hs40.size
          replace hb7 := hb7.grown hs40 (ne_gt lt6)
          replace ho8 := own_other ho8 hbj rfl hs40
          replace ho9 := own_other ho9 hbj rfl hs40
          replace hlo4 := Nat.le_trans hlo4 hs40.size
          replace hb25 := hb25.grown hs40 (ne_gt lt23)
          refine L_nil (N_then (C_seq (C_reg rfl ?_)))
          refine L_run (R_move rfl) rfl ?_
          refine L_run (R_move rfl) rfl ?_
          refine L_run (R_eqv (R_add64 rfl rfl (by first | omega | have h_ := acc_go (ss := ss) (e := e) (beginN_le hp).2 (by assumption); omega)) (v' := .int .i64 ((beginN p + (accN e (flatB (bsOf ss) e 16) (flatO (bsOf ss) e 16) (beginN p)).2 : Nat) : Int)) (congrArg _ (by omega))) rfl ?_
          refine L_run (R_assign rfl) rfl ?_
          refine L_nil (N_then (C_seq (C_reg rfl ?_)))
          refine L_run (R_move rfl) rfl ?_
          refine L_nil (N_then ?_)
          refine C_cond rfl (fun h9 => ?_) (fun h9 => ?_)
          · refine C_seq (C_reg rfl ?_)
            refine L_run (R_field (r := 0) rfl fld31_0 rfl) rfl ?_
            refine L_run (R_load1 rfl scl28 (hbr.cell (i := 0) rfl)) rfl ?_
            refine L_run (R_move rfl) rfl ?_
            refine L_buildSlice (pv := [(0, .slice A_9 (((feedN o bs ((accN e (flatB (bsOf ss) e 16) (flatO (bsOf ss) e 16) (beginN p)).1.1) ((accN e (flatB (bsOf ss) e 16) (flatO (bsOf ss) e 16) (beginN p)).1.2)).2.1).length) c_9)]) (cs := [.slice A_9 (((feedN o bs ((accN e (flatB (bsOf ss) e 16) (flatO (bsOf ss) e 16) (beginN p)).1.1) ((accN e (flatB (bsOf ss) e 16) (flatO (bsOf ss) e 16) (beginN p)).1.2)).2.1).length) c_9]) slc28 zer25 rfl rfl (by kernel_rfl) rfl ?_
            intro g9 w42 eg9 hb31 hs41 hz31
            have ge13 : w.heap.size ≤ g9 := eg_ge hB eg9
            have lt25 : g1 < g9 := lt_of_eg hb1.lt eg9
            have lt26 : g2 < g9 := lt_of_eg hbr.lt eg9
            have lt27 : g3 < g9 := lt_of_eg hb30.lt eg9
            have lt28 : g4 < g9 := lt_of_eg hb7.lt eg9
            have lt29 : g8 < g9 := lt_of_eg hb25.lt eg9
            have hap3 : ∀ k_, (Value.slice Ar R.length cr).ownBlock = some k_ → k_ ≠ g9 := fun k_ hk => by have h_ := (World.ownsRow.lt hoR k_ hk).2; omega
            replace hB := gb_tr hB hs41
            replace hS := hS.gb hs41
            replace hb1 := hb1.gb hs41
            replace ho1 := own_gb ho1 hs41
            replace ho2 := own_gb ho2 hs41
            replace hlo1 := Nat.le_trans hlo1 hs41.size
            replace hbr := hbr.gb hs41
            replace hb30 := hb30.gb hs41
            replace ho := own_gb ho hs41
            replace hoR := own_gb hoR hs41
            replace hoP := own_gb hoP hs41
            replace hDY := hDY.gb hs41
            replace ho3 := own_gb ho3 hs41
            replace hlo2 := Nat.le_trans hlo2 hs41.size
            replace hb7 := hb7.gb hs41
            replace ho8 := own_gb ho8 hs41
            replace ho9 := own_gb ho9 hs41
            replace hlo4 := Nat.le_trans hlo4 hs41.size
            replace hb25 := hb25.gb hs41
            refine T_append (xs := R) (ys := [(⟨A_9, c_9, ((feedN o bs ((accN e (flatB (bsOf ss) e 16) (flatO (bsOf ss) e 16) (beginN p)).1.1) ((accN e (flatB (bsOf ss) e 16) (flatO (bsOf ss) e 16) (beginN p)).1.2)).2.1)⟩ : Bys)]) EncY slc28 rfl rfl hoR (Blk.sli (m := 0) hb31) (by first | omega | (simp; omega)) (by have := hB.size; omega) rfl ?_
            intro A_10 c_10 w43 ho10 hs42 hat3
            replace hB := gb_tro hB hoR hs42 (Nat.le_refl _)
            replace hS := hS.grown hs42 (fun k hk => .inr (Nat.le_trans (Nat.le_refl _) (World.ownsRow.lt hoR k hk).1))
            replace hb1 := blk_own hb1 hoR rfl hs42
            replace ho1 := ho1.kept hs42 (own_type_ne' ho1 hoR rfl)
            replace ho2 := ho2.kept hs42 (own_type_ne' ho2 hoR rfl)
            replace hlo1 := Nat.le_trans hlo1 hs42.size
            replace hbr := blk_own hbr hoR rfl hs42
            replace hb30 := blk_own hb30 hoR rfl hs42
            replace ho := ho.kept hs42 (own_type_ne' ho hoR rfl)
            replace hoP := hoP.kept hs42 (own_type_ne' hoP hoR rfl)
            replace hDY := hDY.otherO hoR rfl rfl hs42
            replace ho3 := ho3.kept hs42 (own_type_ne' ho3 hoR rfl)
            replace hlo2 := Nat.le_trans hlo2 hs42.size
            replace hb7 := blk_own hb7 hoR rfl hs42
            replace ho8 := ho8.kept hs42 (own_type_ne' ho8 hoR rfl)
            replace ho9 := ho9.kept hs42 (own_type_ne' ho9 hoR rfl)
            replace hlo4 := Nat.le_trans hlo4 hs42.size
            replace hb25 := blk_own hb25 hoR rfl hs42
            refine L_run (R_field (r := 0) rfl fld31_0 rfl) rfl ?_
            refine L_st1 rfl rfl rfl sz28 hbr rfl ?_
            intro w44 hb32 hs43 hz32
            replace hB := gb_trg hB hs43 ge3
            replace hS := hS.old hs43 ge3
            replace hb1 := hb1.grown hs43 (ne_lt lt1)
            replace ho1 := own_other ho1 hbr rfl hs43
            replace ho2 := own_other ho2 hbr rfl hs43
            replace hlo1 := Nat.le_trans hlo1 hs43.size
            replace hb30 := hb30.grown hs43 (ne_gt lt3)
            replace ho := own_other ho hbr rfl hs43
            replace hoP := own_other hoP hbr rfl hs43
            replace hDY := hDY.other hbr rfl rfl hs43
            replace ho3 := own_other ho3 hbr rfl hs43
            replace hlo2 := Nat.le_trans hlo2 hs43.size
            replace hb7 := hb7.grown hs43 (ne_gt lt5)
            replace ho8 := own_other ho8 hbr rfl hs43
            replace ho9 := own_other ho9 hbr rfl hs43
            replace hlo4 := Nat.le_trans hlo4 hs43.size
            replace hb25 := hb25.grown hs43 (ne_gt lt22)
            replace ho10 := own_other ho10 hbr rfl hs43
            refine L_nil (N_then (C_seq (C_reg rfl ?_)))
            refine L_run (R_field (r := 1) rfl fld31_1 rfl) rfl ?_
            refine L_run (R_load1 rfl scl29 (hb32.cell (i := 1) rfl)) rfl ?_
            refine L_run (R_move rfl) rfl ?_
            refine L_buildSlice (pv := [(0, .int .i64 (f : Int))]) (cs := [.int .i64 (f : Int)]) slc29 zer3 rfl rfl (by kernel_rfl) rfl ?_
            intro g10 w45 eg10 hb33 hs44 hz33
            have ge14 : w.heap.size ≤ g10 := eg_ge hB eg10
            have lt30 : g1 < g10 := lt_of_eg hb1.lt eg10
            have lt31 : g2 < g10 := lt_of_eg hb32.lt eg10
            have lt32 : g3 < g10 := lt_of_eg hb30.lt eg10
            have lt33 : g4 < g10 := lt_of_eg hb7.lt eg10
            have lt34 : g8 < g10 := lt_of_eg hb25.lt eg10
            have hap4 : ∀ k_, (Value.slice Ap Pl.length cp).ownBlock = some k_ → k_ ≠ g10 := fun k_ hk => by have h_ := (World.ownsRow.lt hoP k_ hk).2; omega
            replace hB := gb_tr hB hs44
            replace hS := hS.gb hs44
            replace hb1 := hb1.gb hs44
            replace ho1 := own_gb ho1 hs44
            replace ho2 := own_gb ho2 hs44
            replace hlo1 := Nat.le_trans hlo1 hs44.size
            replace hb32 := hb32.gb hs44
            replace hb30 := hb30.gb hs44
            replace ho := own_gb ho hs44
            replace hoP := own_gb hoP hs44
            replace hDY := hDY.gb hs44
            replace ho3 := own_gb ho3 hs44
            replace hlo2 := Nat.le_trans hlo2 hs44.size
            replace hb7 := hb7.gb hs44
            replace ho8 := own_gb ho8 hs44
            replace ho9 := own_gb ho9 hs44
            replace hlo4 := Nat.le_trans hlo4 hs44.size
            replace hb25 := hb25.gb hs44
            replace ho10 := own_gb ho10 hs44
            refine T_append (xs := Pl) (ys := [(f : Int)]) EncZ slc29 rfl rfl hoP (Blk.sli (m := 0) hb33) (by first | omega | (simp; omega)) (by have := hB.size; omega) rfl ?_
            intro A_11 c_11 w46 ho11 hs45 hat4
            replace hB := gb_tro hB hoP hs45 (Nat.le_refl _)
            replace hS := hS.grown hs45 (fun k hk => .inr (Nat.le_trans (Nat.le_refl _) (World.ownsRow.lt hoP k hk).1))
            replace hb1 := blk_own hb1 hoP rfl hs45
            replace ho1 := ho1.kept hs45 (own_type_ne' ho1 hoP rfl)
            replace ho2 := ho2.kept hs45 (own_type_ne' ho2 hoP rfl)
            replace hlo1 := Nat.le_trans hlo1 hs45.size
            replace hb32 := blk_own hb32 hoP rfl hs45
            replace hb30 := blk_own hb30 hoP rfl hs45
            replace ho := ho.kept hs45 (own_type_ne' ho hoP rfl)
            replace hDY := hDY.otherO hoP rfl rfl hs45
            replace ho3 := ho3.kept hs45 (own_type_ne' ho3 hoP rfl)
            replace hlo2 := Nat.le_trans hlo2 hs45.size
            replace hb7 := blk_own hb7 hoP rfl hs45
            replace ho8 := ho8.kept hs45 (own_type_ne' ho8 hoP rfl)
            replace ho9 := ho9.kept hs45 (own_type_ne' ho9 hoP rfl)
            replace hlo4 := Nat.le_trans hlo4 hs45.size
            replace hb25 := blk_own hb25 hoP rfl hs45
            replace ho10 := ho10.kept hs45 (own_type_ne' ho10 hoP rfl)
            refine L_run (R_field (r := 1) rfl fld31_1 rfl) rfl ?_
            refine L_st1 rfl rfl rfl sz29 hb32 rfl ?_
            intro w47 hb34 hs46 hz34
            replace hB := gb_trg hB hs46 ge3
            replace hS := hS.old hs46 ge3
            replace hb1 := hb1.grown hs46 (ne_lt lt1)
            replace ho1 := own_other ho1 hb32 rfl hs46
            replace ho2 := own_other ho2 hb32 rfl hs46
            replace hlo1 := Nat.le_trans hlo1 hs46.size
            replace hb30 := hb30.grown hs46 (ne_gt lt3)
            replace ho := own_other ho hb32 rfl hs46
            replace hDY := hDY.other hb32 rfl rfl hs46
            replace ho3 := own_other ho3 hb32 rfl hs46
            replace hlo2 := Nat.le_trans hlo2 hs46.size
            replace hb7 := hb7.grown hs46 (ne_gt lt5)
            replace ho8 := own_other ho8 hb32 rfl hs46
            replace ho9 := own_other ho9 hb32 rfl hs46
            replace hlo4 := Nat.le_trans hlo4 hs46.size
            replace hb25 := hb25.grown hs46 (ne_gt lt22)
            replace ho10 := own_other ho10 hb32 rfl hs46
            replace ho11 := own_other ho11 hb32 rfl hs46
            refine L_nil (N_then (C_reg rfl ?_))
            refine L_run (R_move rfl) rfl ?_
            refine L_run (R_field (r := 2) rfl fld31_2 rfl) rfl ?_
            refine L_st1 rfl rfl rfl sz3 hb34 rfl ?_
            intro w48 hb35 hs47 hz35
            replace hB := gb_trg hB hs47 ge3
            replace hS := hS.old hs47 ge3
            replace hb1 := hb1.grown hs47 (ne_lt lt1)
            replace ho1 := own_other ho1 hb34 rfl hs47
            replace ho2 := own_other ho2 hb34 rfl hs47
            replace hlo1 := Nat.le_trans hlo1 hs47.size
            replace hb30 := hb30.grown hs47 (ne_gt lt3)
            replace ho := own_other ho hb34 rfl hs47
            replace hDY := hDY.other hb34 rfl rfl hs47
            replace ho3 := own_other ho3 hb34 rfl hs47
            replace hlo2 := Nat.le_trans hlo2 hs47.size
            replace hb7 := hb7.grown hs47 (ne_gt lt5)
            replace ho8 := own_other ho8 hb34 rfl hs47
            replace ho9 := own_other ho9 hb34 rfl hs47
            replace hlo4 := Nat.le_trans hlo4 hs47.size
            replace hb25 := hb25.grown hs47 (ne_gt lt22)
            replace ho10 := own_other ho10 hb34 rfl hs47
            replace ho11 := own_other ho11 hb34 rfl hs47
            refine L_nil (N_in (N_then ?_))
            have hgo := acc_go (beginN_le hp).2 h1
            have hbn := beginN_le hp
            have hif : (if o = true then f else beginN p) = f := by have h_ : o = true := (by simpa using h3); rw [h_]; rfl
            have hfn := open_fin (k := (accN e (flatB (bsOf ss) e 16) (flatO (bsOf ss) e 16) (beginN p)).1.1) (d := (accN e (flatB (bsOf ss) e 16) (flatO (bsOf ss) e 16) (beginN p)).1.2) hp hOp rfl hgo.1 hgo.2.1 (Decidable.not_not.1 h7) h9
            rw [hif] at hfn
            exact ⟨832 - (beginN p + (accN e (flatB (bsOf ss) e 16) (flatO (bsOf ss) e 16) (beginN p)).2), by omega, _, (beginN p + (accN e (flatB (bsOf ss) e 16) (flatO (bsOf ss) e 16) (beginN p)).2), f, ((feedN o bs ((accN e (flatB (bsOf ss) e 16) (flatO (bsOf ss) e 16) (beginN p)).1.1) ((accN e (flatB (bsOf ss) e 16) (flatO (bsOf ss) e 16) (beginN p)).1.2)).1.1), (feedN o bs ((accN e (flatB (bsOf ss) e 16) (flatO (bsOf ss) e 16) (beginN p)).1.1) ((accN e (flatB (bsOf ss) e 16) (flatO (bsOf ss) e 16) (beginN p)).1.2)).1.2, A_8, c_8, R ++ ([(⟨A_9, c_9, ((feedN o bs ((accN e (flatB (bsOf ss) e 16) (flatO (bsOf ss) e 16) (beginN p)).1.1) ((accN e (flatB (bsOf ss) e 16) (flatO (bsOf ss) e 16) (beginN p)).1.2)).2.1)⟩ : Bys)]), A_10, c_10, Pl ++ ([(f : Int)]), A_11, c_11, (beginN p + (accN e (flatB (bsOf ss) e 16) (flatO (bsOf ss) e 16) (beginN p)).2), Ac_frg ⟨rfl, rfl, rfl, rfl, rfl, rfl, rfl, (agr rfl (by first | rfl | (congr 1; omega) | (congr 1; simp; done) | (congr 1; simp only [IntKind.wrap_u64, IntKind.wrap_i64, IntKind.wrap_u8]; omega) | (congr 1 <;> omega))), rfl, trivial⟩, hB, hS, hb1, ho1, ho2, hlo1, hb35, hb30, (own_lo ho8 ge11), (own_lo ho10 (Nat.le_refl _)), (own_lo ho11 (Nat.le_refl _)), (hDY.snoc (own_of ho9).2.2), hgo.2.1, feedN_len.1, (by simp only [List.length_append, List.length_cons, List.length_nil]; omega), hfn.2.2, (hGo.snoc hfn.1 hfn.2.1), rfl⟩
          · refine C_skip (N_in (N_then ?_))
            have hgo := acc_go (beginN_le hp).2 h1
            have hbn := beginN_le hp
            have hif : (if o = true then f else beginN p) = f := by have h_ : o = true := (by simpa using h3); rw [h_]; rfl
            have hop := open_go (k := (accN e (flatB (bsOf ss) e 16) (flatO (bsOf ss) e 16) (beginN p)).1.1) (d := (accN e (flatB (bsOf ss) e 16) (flatO (bsOf ss) e 16) (beginN p)).1.2) hp hOp rfl hgo.1 hgo.2.1 (Decidable.not_not.1 h7) h9
            rw [hif] at hop
            exact ⟨832 - (beginN p + (accN e (flatB (bsOf ss) e 16) (flatO (bsOf ss) e 16) (beginN p)).2), by omega, _, (beginN p + (accN e (flatB (bsOf ss) e 16) (flatO (bsOf ss) e 16) (beginN p)).2), f, ((feedN o bs ((accN e (flatB (bsOf ss) e 16) (flatO (bsOf ss) e 16) (beginN p)).1.1) ((accN e (flatB (bsOf ss) e 16) (flatO (bsOf ss) e 16) (beginN p)).1.2)).1.1), (feedN o bs ((accN e (flatB (bsOf ss) e 16) (flatO (bsOf ss) e 16) (beginN p)).1.1) ((accN e (flatB (bsOf ss) e 16) (flatO (bsOf ss) e 16) (beginN p)).1.2)).1.2, A_8, c_8, R, Ar, cr, Pl, Ap, cp, en, Ac_frg ⟨rfl, rfl, rfl, rfl, rfl, rfl, rfl, (agr rfl (by first | rfl | (congr 1; omega) | (congr 1; simp; done) | (congr 1; simp only [IntKind.wrap_u64, IntKind.wrap_i64, IntKind.wrap_u8]; omega) | (congr 1 <;> omega))), rfl, trivial⟩, hB, hS, hb1, ho1, ho2, hlo1, hbr, hb30, (own_lo ho8 ge11), (own_lo hoR (Nat.le_refl _)), (own_lo hoP (Nat.le_refl _)), hDY, hgo.2.1, feedN_len.1, (by omega), hop, hGo, rfl⟩

end Go.Proofs.YtnggbodilhpohaaDoor
