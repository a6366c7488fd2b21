/-
  The library's strings.Join, strings.Split and strings.Builder at this program: what they answer.
-/
import Derived.Test.YtkjgjejkfjhcjaaDoorGc
import Derived.Test.YtkjgjejkfjhcjaaDoorRows
import Derived.Test.YtkjgjejkfjhcjaaDoorProg
namespace Go.Proofs.YtkjgjejkfjhcjaaDoor
open Go.Shelf Go.RowKit Gw Pl
set_option linter.unusedVariables false
def lays156_ren : Go.Shelf.Ren := ⟨fun | 156 => 25 | 165 => 53 | 166 => 26 | 169 => 27 | 240 => 54 | 241 => 76 | 276 => 77 | 277 => 98 | n => n, fun | 31 => 59 | 9 => 9 | 3 => 3 | 4 => 4 | 0 => 0 | 20 => 20 | 72 => 64 | 76 => 67 | 70 => 62 | 37 => 34 | 75 => 66 | 127 => 102 | 164 => 122 | 5 => 5 | 80 => 69 | n => n, fun | n => n⟩
theorem lays156 : Go.Proofs.Lays.n156 Tryd.prog lays156_ren := {
  mixed := by kernel_rfl
  f156 := Tryd.func25.trans (congrArg some (by kernel_rfl))
  f165 := Tryd.func53.trans (congrArg some (by kernel_rfl))
  f166 := Tryd.func26.trans (congrArg some (by kernel_rfl))
  f169 := Tryd.func27.trans (congrArg some (by kernel_rfl))
  f240 := Tryd.func54.trans (congrArg some (by kernel_rfl))
  f241 := Tryd.func76.trans (congrArg some (by kernel_rfl))
  f276 := Tryd.func77.trans (congrArg some (by kernel_rfl))
  f277 := Tryd.func98.trans (congrArg some (by kernel_rfl))
  t0 := Tryd.underlying0
  a0 := Tryd.isAgg0
  z0 := Tryd.sizeOf0
  v0 := Tryd.zeroValue0
  t3 := Tryd.underlying3
  a3 := Tryd.isAgg3
  z3 := Tryd.sizeOf3
  v3 := Tryd.zeroValue3
  t4 := Tryd.underlying4
  a4 := Tryd.isAgg4
  z4 := Tryd.sizeOf4
  v4 := Tryd.zeroValue4
  t9 := Tryd.underlying9
  a9 := Tryd.isAgg9
  z9 := Tryd.sizeOf9
  v9 := Tryd.zeroValue9
  t20 := Tryd.underlying20
  a20 := Tryd.isAgg20
  z20 := Tryd.sizeOf20
  v20 := Tryd.zeroValue20
  t31 := Tryd.underlying59
  a31 := Tryd.isAgg59
  z31 := Tryd.sizeOf59
  v31 := Tryd.zeroValue59
  t37 := Tryd.underlying34
  a37 := Tryd.isAgg34
  z37 := Tryd.sizeOf34
  v37 := Tryd.zeroValue34
  t70 := Tryd.underlying62
  a70 := Tryd.isAgg62
  z70 := Tryd.sizeOf62
  v70 := Tryd.zeroValue62
  t72 := Tryd.underlying64
  a72 := Tryd.isAgg64
  z72 := Tryd.sizeOf64
  v72 := Tryd.zeroValue64
  t75 := Tryd.underlying66
  a75 := Tryd.isAgg66
  z75 := Tryd.sizeOf66
  v75 := Tryd.zeroValue66
  t76 := Tryd.underlying67
  a76 := Tryd.isAgg67
  z76 := Tryd.sizeOf67
  v76 := Tryd.zeroValue67
  t127 := Tryd.underlying102
  a127 := Tryd.isAgg102
  z127 := Tryd.sizeOf102
  v127 := Tryd.zeroValue102
  t164 := Tryd.underlying122
  a164 := Tryd.isAgg122
  z164 := Tryd.sizeOf122
  v164 := Tryd.zeroValue122 }
theorem Builder_Extra_156 : Builder.Extra Tryd.prog lays156_ren := {
  sizeBuilder := by kernel_rfl
  liesBuilder := by kernel_rfl
  t5 := Tryd.underlying5
  a5 := Tryd.isAgg5
  z5 := Tryd.sizeOf5
  v5 := Tryd.zeroValue5
  infoByte := by kernel_rfl
  cellsByte := by kernel_rfl
  sizeByte := by kernel_rfl
  neB5 := by decide }
def lays146_ren : Go.Shelf.Ren := ⟨fun | 146 => 30 | 221 => 55 | 268 => 78 | 138 => 79 | 143 => 80 | 195 => 99 | 197 => 100 | 218 => 101 | 219 => 102 | 260 => 110 | 217 => 111 | 225 => 112 | 224 => 113 | 267 => 114 | 266 => 116 | 314 => 117 | n => n, fun | 9 => 9 | 31 => 59 | 3 => 3 | 4 => 4 | 0 => 0 | 105 => 138 | 21 => 21 | 5 => 5 | 46 => 143 | 119 => 149 | 139 => 152 | 138 => 151 | 146 => 153 | 51 => 75 | n => n, fun | 1 => 0 | 3 => 1 | 4 => 2 | n => n⟩
theorem lays146 : Go.Proofs.Lays.n146 Tryd.prog lays146_ren := {
  mixed := by kernel_rfl
  f138 := Tryd.func79.trans (congrArg some (by kernel_rfl))
  f143 := Tryd.func80.trans (congrArg some (by kernel_rfl))
  f146 := Tryd.func30.trans (congrArg some (by kernel_rfl))
  f195 := Tryd.func99.trans (congrArg some (by kernel_rfl))
  f197 := Tryd.func100.trans (congrArg some (by kernel_rfl))
  f217 := Tryd.func111.trans (congrArg some (by kernel_rfl))
  f218 := Tryd.func101.trans (congrArg some (by kernel_rfl))
  f219 := Tryd.func102.trans (congrArg some (by kernel_rfl))
  f221 := Tryd.func55.trans (congrArg some (by kernel_rfl))
  f224 := Tryd.func113.trans (congrArg some (by kernel_rfl))
  f225 := Tryd.func112.trans (congrArg some (by kernel_rfl))
  f260 := Tryd.func110.trans (congrArg some (by kernel_rfl))
  f266 := Tryd.func116.trans (congrArg some (by kernel_rfl))
  f267 := Tryd.func114.trans (congrArg some (by kernel_rfl))
  f268 := Tryd.func78.trans (congrArg some (by kernel_rfl))
  f314 := Tryd.func117.trans (congrArg some (by kernel_rfl))
  t0 := Tryd.underlying0
  a0 := Tryd.isAgg0
  z0 := Tryd.sizeOf0
  v0 := Tryd.zeroValue0
  t3 := Tryd.underlying3
  a3 := Tryd.isAgg3
  z3 := Tryd.sizeOf3
  v3 := Tryd.zeroValue3
  t4 := Tryd.underlying4
  a4 := Tryd.isAgg4
  z4 := Tryd.sizeOf4
  v4 := Tryd.zeroValue4
  t5 := Tryd.underlying5
  a5 := Tryd.isAgg5
  z5 := Tryd.sizeOf5
  v5 := Tryd.zeroValue5
  t9 := Tryd.underlying9
  a9 := Tryd.isAgg9
  z9 := Tryd.sizeOf9
  v9 := Tryd.zeroValue9
  t21 := Tryd.underlying21
  a21 := Tryd.isAgg21
  z21 := Tryd.sizeOf21
  v21 := Tryd.zeroValue21
  t31 := Tryd.underlying59
  a31 := Tryd.isAgg59
  z31 := Tryd.sizeOf59
  v31 := Tryd.zeroValue59
  t46 := Tryd.underlying143
  a46 := Tryd.isAgg143
  z46 := Tryd.sizeOf143
  v46 := Tryd.zeroValue143
  t51 := Tryd.underlying75
  a51 := Tryd.isAgg75
  z51 := Tryd.sizeOf75
  v51 := Tryd.zeroValue75
  t105 := Tryd.underlying138
  a105 := Tryd.isAgg138
  z105 := Tryd.sizeOf138
  v105 := Tryd.zeroValue138
  t119 := Tryd.underlying149
  a119 := Tryd.isAgg149
  z119 := Tryd.sizeOf149
  t138 := Tryd.underlying151
  a138 := Tryd.isAgg151
  z138 := Tryd.sizeOf151
  v138 := Tryd.zeroValue151
  t139 := Tryd.underlying152
  a139 := Tryd.isAgg152
  z139 := Tryd.sizeOf152
  v139 := Tryd.zeroValue152
  t146 := Tryd.underlying153
  a146 := Tryd.isAgg153
  z146 := Tryd.sizeOf153
  v146 := Tryd.zeroValue153
  g1 := by kernel_rfl
  g3 := by kernel_rfl
  g4 := by kernel_rfl }
theorem join_ok {w : World} {t lo hi c : Nat} {A : Option Addr} {xs : List (List UInt8)} {sep : List UInt8} (hS : Sli t lo hi w A (fl encW xs)) (hc : xs.length ≤ c)
    (hN : xs.length ≤ 1000000) (hl : (Go.Lib.join xs sep).length ≤ 140737488355328) :
    Runs Tryd.prog 25 #[.slice A xs.length c, .string ⟨sep.toArray⟩] w fun v w' => w.grownBy w' none ∧ v = .string ⟨(Go.Lib.join xs sep).toArray⟩ :=
  join_run lays156 Builder_Extra_156 hS hc (by omega) hl
theorem split_ok {w : World} {s : List UInt8} (hs : s.length < 4294967281) :
    Runs Tryd.prog 30 #[.string ⟨s.toArray⟩, .string ⟨#[10]⟩] w fun v w' => w.grownBy w' none ∧ ∃ A, v = .slice A (pcs s).length (pcs s).length ∧ Sli 9 w.heap.size w'.heap.size w' A (fl encW (pcs s)) :=
  split_run lays146 (by kernel_rfl) hs
/-- A builder that holds these bytes. -/
def BldF (w : World) (B b : Nat) (l : List UInt8) : Prop := B ≤ w.heap.size ∧ Go.Lib.IsBuilder 64 5 B b (Go.Lib.byteCells l) w
theorem Gw.Sli.below {t lo hi B : Nat} {w w' : World} {A : Option Addr} {vs : List Value} (h : Sli t lo hi w A vs) (hh : hi ≤ B) (hb : Below B w w') : Sli t lo hi w' A vs := by
  rcases h with h | ⟨g, off, c, fr, hA, h1, h2, ⟨t', h3, ht⟩, h4⟩
  · exact .inl h
  · exact .inr ⟨g, off, c, fr, hA, h1, h2, ⟨t', (hb.block g (by omega)).trans h3, ht⟩, h4⟩
theorem BldF.gb {w w' : World} {B b : Nat} {l : List UInt8} (h : BldF w B b l) (hg : w.grownBy w' none) : BldF w' B b l := by
  obtain ⟨h0, h⟩ := h
  refine ⟨Nat.le_trans h0 hg.size, ?_⟩
  have key : ∀ {p : Value}, Go.Lib.BuilderAt 64 5 B b p (Go.Lib.byteCells l) w → Go.Lib.BuilderAt 64 5 B b p (Go.Lib.byteCells l) w' := by
    rintro p ⟨hB, v, hb, ho, hne⟩
    exact ⟨hB, v, (hg.block b (Array.getElem?_eq_some_iff.1 hb).1 (by simp)).trans hb, ho.kept hg (by cases v.ownBlock <;> simp), hne⟩
  exact h.elim (fun x => .inl (key x)) (fun x => .inr (key x))
theorem BldF.other {w w' : World} {B b g t' : Nat} {cs : List Value} {l : List UInt8} (h : BldF w B b l) (hb : Blk w g t' cs) (h1 : Nat.beq 5 t' = false) (h2 : Nat.beq 64 t' = false) (hg : w.grownBy w' (some g)) : BldF w' B b l := by
  obtain ⟨h0, h⟩ := h
  refine ⟨Nat.le_trans h0 hg.size, ?_⟩
  have key : ∀ {p : Value}, Go.Lib.BuilderAt 64 5 B b p (Go.Lib.byteCells l) w → Go.Lib.BuilderAt 64 5 B b p (Go.Lib.byteCells l) w' := by
    rintro p ⟨hB, v, hc, ho, hne⟩
    have hbg : b ≠ g := fun e => by
      subst e
      have h3 := hc.symm.trans hb
      injection h3 with h3
      injection h3 with _ h4
      exact Nat.ne_of_beq_eq_false h2 h4
    exact ⟨hB, v, (hg.block b (Array.getElem?_eq_some_iff.1 hc).1 (fun e => hbg (Option.some.inj e))).trans hc, own_other ho hb h1 hg, hne⟩
  exact h.elim (fun x => .inl (key x)) (fun x => .inr (key x))
theorem BldF.fresh {w : World} {b : Nat} (B : Nat) (hb : Blk w b 64 [.pointer none, .slice none 0 0]) (hB : B ≤ b) (hw : B ≤ w.heap.size) : BldF w B b [] :=
  ⟨hw, .inl ⟨hB, _, hb, World.ownsRow_nil w B 5 1, by simp [Value.ownBlock]⟩⟩
theorem bcells_app {l x : List UInt8} : Go.Lib.byteCells l ++ Go.Lib.strCells ⟨x.toArray⟩ = Go.Lib.byteCells (l ++ x) := by
  simp [Go.Lib.byteCells, Go.Lib.strCells, List.map_append]
theorem wstr_ok {w : World} {B b : Nat} {l x : List UInt8} (h : BldF w B b l) (hl : l.length + x.length ≤ 140737488355328) :
    Runs Tryd.prog 26 #[.pointer (some ⟨b, 0, none⟩), .string ⟨x.toArray⟩] w fun v w' => Below B w w' ∧ v = .tuple #[.int .i64 (x.length : Int), .nilIface] ∧ BldF w' B b (l ++ x) := by
  have hz : (⟨x.toArray⟩ : ByteArray).size = x.length := by simp [ByteArray.size]
  refine (Any.Builder_WriteString { lays156 with } Builder_Extra_156 B b _ ⟨x.toArray⟩ w h.2 (by rw [hz]; simpa [Go.Lib.byteCells] using hl) h.1).mono fun e w' ⟨he, hb, hw⟩ => ?_
  subst he
  refine ⟨hw, by rw [hz], Nat.le_trans h.1 hw.size, .inr ?_⟩
  rw [← bcells_app]
  exact hb
theorem bstr_ok {w : World} {B b : Nat} {l : List UInt8} (h : BldF w B b l) :
    Runs Tryd.prog 27 #[.pointer (some ⟨b, 0, none⟩)] w fun v w' => Below B w w' ∧ v = .string ⟨l.toArray⟩ :=
  (Any.Builder_String_any { lays156 with } Builder_Extra_156 B b l w h.2 h.1).mono fun e w' ⟨he, hw⟩ => by subst he; exact ⟨hw, rfl⟩
end Go.Proofs.YtkjgjejkfjhcjaaDoor
