/-
  An evaluator for closed calls, fourth part: the operations that make or turn memory. It holds of every program.
-/
import Derived.Test.YtbmohojdlgedpaaEc
import Derived.Laws.OwnMore
namespace Go.Proofs.Ytbmohojdlgedpaa.Ev
open Go.RowKit Gw
set_option linter.unusedVariables false
set_option linter.unusedSimpArgs false
/-- how deep the memory's map may go -/
def dp : Nat := 20
/-! ### a value reckoned out ahead of its use: nothing else -/
section
variable {α : Type}
def fN (m : Nat) (k : Nat → α) : α := match m with | 0 => k 0 | p + 1 => k (Nat.succ p)
def fI (n : Int) (k : Int → α) : α := match n with | .ofNat m => fN m fun m => k (.ofNat m) | .negSucc m => fN m fun m => k (.negSucc m)
def fU : List UInt8 → (List UInt8 → α) → α
  | [], k => k []
  | c :: r, k => fU r fun r => k (c :: r)
def fS (s : ByteArray) (k : ByteArray → α) : α := match s with | ⟨⟨l⟩⟩ => fU l fun l => k ⟨⟨l⟩⟩
def fV (v : Value) (k : Value → α) : α := match v with
  | .int kd n => fI n fun n => k (.int kd n)
  | .bool b => (match b with | true => k (.bool true) | false => k (.bool false))
  | .string s => fS s fun s => k (.string s)
  | v => k v
def fCap (c : Cap) (k : Cap → α) : α := match c with | .k c => fN c fun c => k (.k c) | .u d => fN d fun d => k (.u d)
def fB (x : B) (k : B → α) : α := match x with
  | .k v => fV v fun v => k (.k v)
  | .p b o => fN b fun b => fN o fun o => k (.p b o)
  | .s b o n c => fN b fun b => fN o fun o => fN n fun n => fCap c fun c => k (.s b o n c)
  | .m b => fN b fun b => k (.m b)
  | .y b => fN b fun b => k (.y b)
  | .z b o o' e => fN b fun b => fN o fun o => fN o' fun o' => fN e fun e => k (.z b o o' e)
def fC (x : C) (k : C → α) : α := match x with | .b x => fB x fun x => k (.b x) | .f f fs cs => k (.f f fs cs)
def fL : List C → (List C → α) → α
  | [], k => k []
  | c :: r, k => fC c fun c => fL r fun r => k (c :: r)
def fV1 (x : V1) (k : V1 → α) : α := match x with | .c x => fC x fun x => k (.c x) | .a l => fL l fun l => k (.a l)
def fT : List V1 → (List V1 → α) → α
  | [], k => k []
  | c :: r, k => fV1 c fun c => fT r fun r => k (c :: r)
def fV2 (x : V2) (k : V2 → α) : α := match x with | .v x => fV1 x fun x => k (.v x) | .t l => fT l fun l => k (.t l)
def fMB (x : MB) (k : MB → α) : α := match x with | .cells t cs md => fL cs fun cs => k (.cells t cs md) | x => k x
theorem fN_eq (m : Nat) (k : Nat → α) : fN m k = k m := by cases m <;> rfl
theorem fI_eq (n : Int) (k : Int → α) : fI n k = k n := by cases n <;> simp [fI, fN_eq]
theorem fU_eq : ∀ (l : List UInt8) (k : List UInt8 → α), fU l k = k l
  | [], _ => rfl
  | c :: r, k => by simp [fU, fU_eq r]
theorem fS_eq (s : ByteArray) (k : ByteArray → α) : fS s k = k s := by obtain ⟨⟨l⟩⟩ := s; simp [fS, fU_eq]
theorem fV_eq (v : Value) (k : Value → α) : fV v k = k v := by
  unfold fV
  split
  · rw [fI_eq]
  · split <;> rfl
  · rw [fS_eq]
  · rfl
theorem fCap_eq (c : Cap) (k : Cap → α) : fCap c k = k c := by cases c <;> simp [fCap, fN_eq]
theorem fB_eq (x : B) (k : B → α) : fB x k = k x := by cases x <;> simp [fB, fN_eq, fV_eq, fCap_eq]
theorem fC_eq (x : C) (k : C → α) : fC x k = k x := by cases x <;> simp [fC, fB_eq]
theorem fL_eq : ∀ (l : List C) (k : List C → α), fL l k = k l
  | [], _ => rfl
  | c :: r, k => by simp [fL, fC_eq, fL_eq r]
theorem fV1_eq (x : V1) (k : V1 → α) : fV1 x k = k x := by cases x <;> simp [fV1, fC_eq, fL_eq]
theorem fT_eq : ∀ (l : List V1) (k : List V1 → α), fT l k = k l
  | [], _ => rfl
  | c :: r, k => by simp [fT, fV1_eq, fT_eq r]
theorem fV2_eq (x : V2) (k : V2 → α) : fV2 x k = k x := by cases x <;> simp [fV2, fV1_eq, fT_eq]
theorem fMB_eq (x : MB) (k : MB → α) : fMB x k = k x := by
  unfold fMB
  split
  · rw [fL_eq]
  · rfl
end
def newB (st : St) (mb : MB) : Option St := fMB mb fun mb => fN st.next fun nx => match Tr.set dp st.mem nx (some mb) with | some t => some ⟨t, Nat.succ nx⟩ | none => none
def putB (st : St) (b : Nat) (mb : MB) : Option St := fMB mb fun mb => match Tr.set dp st.mem b (some mb) with | some t => some ⟨t, st.next⟩ | none => none
theorem newB_def (st : St) (mb : MB) : newB st mb = match Tr.set dp st.mem st.next (some mb) with | some t => some ⟨t, st.next + 1⟩ | none => none := by
  unfold newB
  rw [fMB_eq, fN_eq]
theorem putB_def (st : St) (b : Nat) (mb : MB) : putB st b mb = match Tr.set dp st.mem b (some mb) with | some t => some ⟨t, st.next⟩ | none => none := by
  unfold putB
  rw [fMB_eq]
def delB (st : St) (b : Nat) : Option St := match Tr.set dp st.mem b none with | some t => some ⟨t, st.next⟩ | none => none
def oneB : B → Bool
  | .k v => v.oneCell'
  | _ => true
def oneC : C → Bool
  | .b x => oneB x
  | .f _ _ _ => true
section
variable {P : Program} {ρ : Rho} {gl : Gl} {n : Nat} {fr : Fr} {l : Sl} {w0 : Wd} {w w' : World} {st st' : St}
theorem oneC_ok {x : C} {v : Value} (h : oneC x = true) (r : RC ρ x v) : v.oneCell' = true := by
  cases x with
  | b y =>
    cases y with
    | k u => obtain rfl : v = u := r; exact h
    | p b o => obtain ⟨g, _, _, rfl⟩ := r; rfl
    | s b o n c => obtain ⟨g, _, _, _, _, rfl⟩ := RB.sl r; rfl
    | m b => obtain ⟨g, _, _, rfl⟩ := r; rfl
    | y b => obtain ⟨g, _, _, rfl⟩ := r; rfl
    | z b o o' e => obtain ⟨g, _, _, _, rfl⟩ := r; rfl
  | f a b c => obtain ⟨_, _, _, _, rfl⟩ := r; rfl
theorem oneC_all : ∀ {cs : List C} {vs : List Value}, cs.all oneC = true → A2 (RC ρ) cs vs → ∀ v ∈ vs, v.oneCell' = true
  | [], [], _, _, v, hv => by cases hv
  | c :: cs, u :: us, h, r, v, hv => by
    simp only [List.all_cons, Bool.and_eq_true] at h
    rcases List.mem_cons.1 hv with rfl | hv
    · exact oneC_ok h.1 r.1
    · exact oneC_all h.2 r.2 v hv
  | [], _ :: _, _, r, _, _ => r.elim
  | _ :: _, [], _, r, _, _ => r.elim
theorem delB_get {b b' : Nat} {mb : MB} (h : delB st b = some st') (e : st'.mem.get b' = some mb) : st.mem.get b' = some mb ∧ b' ≠ b := by
  unfold delB at h
  split at h
  · rename_i t hs
    obtain rfl := Option.some.inj h
    have e' : t.get b' = some mb := e
    rw [Tr.get_set _ _ _ _ _ hs] at e'
    by_cases hb : b' = b
    · rw [if_pos hb] at e'; cases e'
    · rw [if_neg hb] at e'; exact ⟨e', hb⟩
  · cases h
theorem newB_ok {mb : MB} {g c : Nat} (hM : MR w0 ρ st w) (h : newB st mb = some st') (hg : w.grownBy w' none) (hge : w.heap.size ≤ g) (hm : Holds (ext ρ st.next (g, c)) w' g c mb) :
    MR w0 (ext ρ st.next (g, c)) st' w' := by
  rw [newB_def] at h
  split at h
  · rename_i t ht; obtain rfl := Option.some.inj h; exact hM.new hg hge hm ht
  · cases h
theorem putB_ok {b g c : Nat} {mb mb' : MB} (hM : MR w0 ρ st w) (h : putB st b mb' = some st') (e : st.mem.get b = some mb) (hr : mb.ro = false) (hb : ρ b = some (g, c)) (hg : w.grownBy w' (some g)) (hm : Holds ρ w' g c mb') : MR w0 ρ st' w' := by
  rw [putB_def] at h
  split at h
  · rename_i t ht; obtain rfl := Option.some.inj h; exact hM.put e hr hb hg hm ht
  · cases h
theorem delB_ok {b : Nat} (hM : MR w0 ρ st w) (h : delB st b = some st') : MR w0 ρ st' w := by
  unfold delB at h
  split at h
  · rename_i t ht; obtain rfl := Option.some.inj h; exact hM.drop ht
  · cases h
/-- A new whole row. -/
theorem row_ok {e : TypeId} {cs : List C} {vs : List Value} (hM : MR w0 ρ st w) (h : newB st (.cells e cs 0) = some st') (r : A2 (RC ρ) cs vs) :
    Le ρ (ext ρ st.next (w.heap.size, 0)) ∧ MR w0 (ext ρ st.next (w.heap.size, 0)) st' (w.alloc (.cells vs.toArray e)) := by
  have hle := hM.ext_le (w.heap.size, 0)
  refine ⟨hle, newB_ok hM h (gb_alloc w _) (Nat.le_refl _) ⟨vs, [], ((0, 0), e), ?_, r.mono fun _ _ => RC.mono hle, fun _ => rfl, fun h => absurd h (by decide), fun _ => rfl⟩⟩
  rw [List.append_nil]
  exact blk_new w e vs
/-- After an effect: a value, and the memory. -/
def Ok2 (P : Program) (w0 : Wd) (ρ : Rho) (w : World) (s : Sem Next) (x : V2) (st' : St) : Prop :=
  ∃ v w' ρ', s.run P w = .ok (.value v) w' ∧ Le ρ ρ' ∧ MR w0 ρ' st' w' ∧ R2 ρ' x v
def Ok3 (P : Program) (w0 : Wd) (ρ : Rho) (w : World) (s : Sem Next) (st' : St) : Prop :=
  ∃ w', s.run P w = .ok .skip w' ∧ MR w0 ρ st' w'

/-! ### parts laid into a row -/
def splice (cs : List C) (off : Nat) (c : List C) : List C := cs.take off ++ c ++ cs.drop (off + c.length)
def fillA (place : Nat → Option (Nat × Nat)) : List C → List (Nat × V1) → Option (List C)
  | cs, [] => some cs
  | cs, (i, v) :: r => match place i with
    | some (off, size) => bif Nat.beq (cel v).length size && Nat.ble (off + (cel v).length) cs.length then fillA place (splice cs off (cel v)) r else none
    | none => none
theorem setAll : ∀ (c : List Value) (off j : Nat) (cs : Array Value), off + j + c.length ≤ cs.size →
    (c.zipIdx j).foldl (fun cs (x : Value × Nat) => cs.setIfInBounds (off + x.2) x.1) cs = (cs.toList.take (off + j) ++ c ++ cs.toList.drop (off + j + c.length)).toArray
  | [], off, j, cs, _ => by simp
  | v :: c, off, j, cs, h => by
    simp only [List.zipIdx_cons, List.foldl_cons]
    rw [setAll c off (j + 1) _ (by simp at h ⊢; omega)]
    have e := list_seg_step cs.toList (off + j) v c (by simp at h ⊢; omega)
    simp only [Array.toList_setIfInBounds]
    rw [Nat.add_assoc off j 1] at *
    simp only [Nat.add_assoc, List.length_cons] at e ⊢
    congr 1
theorem a2_splice {cs : List C} {vs : List Value} {c : List C} {u : List Value} {off : Nat} (h : A2 (RC ρ) cs vs) (h' : A2 (RC ρ) c u) : A2 (RC ρ) (splice cs off c) (vs.take off ++ u ++ vs.drop (off + u.length)) := by
  unfold splice
  rw [h'.len]
  exact ((h.take off).app h').app (h.drop _)
theorem fillA_ok {place : Nat → Option (Nat × Nat)} : ∀ {ps : List (Nat × V1)} {pv : List (Nat × Value)} {cs cs' : List C} {vs : List Value}, A2 (fun (a : Nat × V1) (b : Nat × Value) => b.1 = a.1 ∧ R1 ρ a.2 b.2) ps pv → A2 (RC ρ) cs vs → fillA place cs ps = some cs' →
    ∃ vs', Instr.fill place vs.toArray pv = some vs'.toArray ∧ A2 (RC ρ) cs' vs'
  | [], [], cs, cs', vs, _, hc, h => by obtain rfl := Option.some.inj h; exact ⟨vs, rfl, hc⟩
  | (i, x) :: ps, (j, v) :: pv, cs, cs', vs, hp, hc, h => by
    obtain ⟨⟨rfl, hv⟩, hp⟩ := hp
    simp only [fillA] at h
    split at h
    · rename_i off size hpl
      cases hb : (Nat.beq (cel x).length size && Nat.ble (off + (cel x).length) cs.length) with
      | false => rw [hb] at h; cases h
      | true =>
        rw [hb] at h
        simp only [Bool.and_eq_true] at hb
        have h1 : (cel x).length = size := Nat.eq_of_beq_eq_true hb.1
        have h2 : off + (cel x).length ≤ cs.length := Nat.le_of_ble_eq_true hb.2
        have hcel := cel_A2 hv
        have e1 : v.cells.size = (cel x).length := by rw [hcel.len]; simp
        obtain ⟨vs', h3, h4⟩ := fillA_ok hp (a2_splice (off := off) hc hcel) h
        refine ⟨vs', ?_, h4⟩
        rw [← h3]
        simp only [Instr.fill, hpl]
        rw [if_neg (by simp [e1, h1, hc.len ▸ h2]; rw [← hc.len]; omega)]
        congr 1
        rw [← Array.foldl_toList, Array.toList_zipIdx]
        have := setAll v.cells.toList off 0 vs.toArray (by simp [e1]; rw [← hc.len]; exact h2)
        simpa using this
    · cases h
  | [], _ :: _, _, _, _, h, _, _ => h.elim
  | _ :: _, [], _, _, _, h, _, _ => h.elim
def evPs (gl : Gl) (n : Nat) (fr : Fr) : List (Nat × Operand) → Option (List (Nat × V1))
  | [] => some []
  | (i, x) :: r => match evO gl n fr x, evPs gl n fr r with | some (.v a), some ps => some ((i, a) :: ps) | _, _ => none
theorem evPs_ev (hG : GL ρ gl) (hF : FR ρ n fr l) : ∀ {xs : List (Nat × Operand)} {ps : List (Nat × V1)}, evPs gl n fr xs = some ps → ∃ vs, evP n l xs = some vs ∧ A2 (fun (a : Nat × V1) (b : Nat × Value) => b.1 = a.1 ∧ R1 ρ a.2 b.2) ps vs
  | [], ps, h => by obtain rfl := Option.some.inj h; exact ⟨[], rfl, trivial⟩
  | (i, x) :: r, ps, h => by
    simp only [evPs] at h
    split at h
    · rename_i a ps' h1 h2
      obtain rfl := Option.some.inj h
      obtain ⟨v, e1, r1⟩ := evO_ev hG hF h1
      obtain ⟨vs, e2, r2⟩ := evPs_ev hG hF h2
      exact ⟨(i, v) :: vs, by simp [evP, e1, e2], ⟨rfl, r1⟩, r2⟩
    · cases h
def kcells (v : Value) : List C := v.cells.toList.map fun u => .b (.k u)
theorem kcells_ok (v : Value) : A2 (RC ρ) (kcells v) v.cells.toList := A2_k _
def zcells (P : Program) (t : TypeId) : Option Value := (P.info? t).bind (·.zero)
end
end Go.Proofs.Ytbmohojdlgedpaa.Ev
