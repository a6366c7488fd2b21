/-
  A global that is laid as a table of numbers, as a block of the memory. It holds of every program.
-/
import Derived.Test.YtbpjdcpfphnccaaDoorGw
import Derived.LaidMore
import Derived.OpenShut
namespace Go.Proofs.YtbpjdcpfphnccaaDoor.Ev
open Go.RowKit Gw
set_option linter.unusedVariables false
set_option linter.unusedSimpArgs false
theorem table_at {P : Program} {W : World} {nm : String} {G t te : Nat} {ks : List Int} (hg : P.globalNamed nm = some G) (ht : (P.globals[G]?).map (·.type) = some t) (hu : P.underlying t = some (.array ks.length te)) (he : P.underlying te = some (.int .u32)) (hc : P.cellsOf te = 1) (hct : P.cellsOf t = ks.length)
    (h : laidMetH P [(nm, .agg (ks.map fun k => .lit (.int .u32 k)))] W) : ∃ T fz, W.heap[G]? = some (.cells (ks.map (Value.int .u32)).toArray T fz) := by
  rw [MakeChecks.laidMetH_plain _ _ _ (by simp [DataW.handleName?])] at h
  obtain ⟨ps, ⟨g0, t0, cs0, f0, p0, q0, hg0, ht0, hv0, hd0, _, _⟩, _, _⟩ := h
  obtain rfl := Option.some.inj (hg.symm.trans hg0)
  obtain rfl := Option.some.inj (ht.symm.trans ht0)
  obtain ⟨xs, m, rfl, hx, hlen, hn, hel⟩ := DataW.trod_array hu hd0
  have hx1 : ks.map (fun k => (DataW.lit (.int .u32 k) : DataW Unit)) = xs.map (·.1) := by
    have := (Prod.mk.inj hx).1
    injection this
  have hcs : cs0.toList = ks.map (Value.int .u32) := by
    apply List.ext_getElem?
    intro i
    by_cases hi : i < ks.length
    · have h1 := hel i hi
      rw [hc, Nat.mul_one] at h1
      have hxi : xs[i]? = some xs[i] := List.getElem?_eq_getElem (by omega)
      rw [hxi] at h1
      obtain ⟨k, e1, e2, _⟩ := DataW.trod_int he h1
      have h2 : (xs.map (·.1))[i]? = some (.lit (.int .u32 k)) := by rw [List.getElem?_map, hxi, e2]; rfl
      rw [← hx1, List.getElem?_map] at h2
      have h3 : ks[i]? = some k := by
        cases hk : ks[i]? with
        | none => rw [hk] at h2; cases h2
        | some k' =>
          rw [hk] at h2
          simp at h2
          rw [h2]
      rw [List.getElem?_map, h3]
      have h4 := congrArg (fun l : List Value => l[0]?) e1
      simp only [List.getElem?_take, List.getElem?_drop] at h4
      simpa using h4
    · rw [List.getElem?_eq_none (by rw [hlen, hct]; omega), List.getElem?_eq_none (by simp; omega)]
  unfold World.var? at hv0
  rw [hg] at hv0
  simp only [Option.bind_some] at hv0
  split at hv0
  · rename_i cs T fz hh
    obtain rfl := Option.some.inj hv0
    refine ⟨T, fz, ?_⟩
    rw [hh, ← hcs]
  · cases hv0
end Go.Proofs.YtbpjdcpfphnccaaDoor.Ev
