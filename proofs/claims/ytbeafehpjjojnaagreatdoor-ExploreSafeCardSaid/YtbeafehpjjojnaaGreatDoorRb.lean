/-
  The sum of a row of bytes, as the evaluator may use it.
-/
import Derived.Test.YtbeafehpjjojnaaGreatDoorRa
import Derived.Test.YtbeafehpjjojnaaGreatDoorEp
namespace Go.Proofs.YtbeafehpjjojnaaGreatDoor.Ev
open Go.RowKit Gw
set_option linter.unusedVariables false
set_option linter.unusedSimpArgs false
def tblC : List C := Gw.tblV.map fun v => .b (.k v)
def tblB (st : St) : Bool := match st.mem.get 0 with | some (.cells _ cs _) => cL (cs.take 16) tblC | _ => false
def ovC : Rec := fun f xs st => bif Nat.beq f 270 then
    match xs with
    | [vK (.int .u32 (.ofNat s)), vS b o n c] => match st.mem.get b with
      | some (.cells _ cs _) => match sub cs o n with
        | some r => match u8L r with
          | some bs => bif Nat.blt s 4294967296 && Nat.ble n 1000000 && tblB st then some (vK (.int .u32 (.ofNat (Pl.moreN s bs))), st) else none
          | none => none
        | none => none
      | _ => none
    | _ => none
  else none
theorem tblB_ok {w0 : Wd} {ρ : Rho} {st : St} {w : World} (hG : GL ρ [(0, 0)]) (hM : MR w0 ρ st w) (h : tblB st = true) : Tbw w := by
  unfold tblB at h
  split at h
  · rename_i T cs md hm
    obtain ⟨c0, hc⟩ := hG 0 0 rfl
    obtain ⟨g, c, q1, _, vs, vs', fz, q3, q4, _⟩ := hM.at_ 0 _ hm
    obtain ⟨rfl, rfl⟩ := Prod.mk.inj (Option.some.inj (q1.symm.trans hc))
    have h1 := q4.take 16
    rw [cL_eq h] at h1
    have h2 : vs.take 16 = Gw.tblV := A2_fun (R := RC ρ) (fun _ _ _ h h' => RC_fun h h') h1 (A2_k Gw.tblV)
    refine ⟨vs.drop 16 ++ vs', fz.2, fz.1, ?_⟩
    rw [q3, ← h2, ← List.append_assoc, List.take_append_drop]
  · cases h
theorem ovC_ok (w0 : Wd) : RecOk Tryz.prog w0 [(0, 0)] ovC := fun f xs st x st' h ρ w vals hG hM hA => by
  unfold ovC at h
  cases hf : Nat.beq f 270 with
  | false => rw [hf] at h; cases h
  | true =>
    rw [hf] at h
    simp only [cond_true] at h
    obtain rfl := Nat.eq_of_beq_eq_true hf
    split at h
    · rename_i s b o n c
      split at h
      · rename_i T cs md hm
        split at h
        · rename_i r hr
          split at h
          · rename_i bs hbs
            cases hb : (Nat.blt s 4294967296 && Nat.ble n 1000000 && tblB st) with
            | false => rw [hb] at h; cases h
            | true =>
              rw [hb] at h
              obtain ⟨rfl, rfl⟩ := Prod.mk.inj (Option.some.inj h)
              simp only [Bool.and_eq_true] at hb
              obtain ⟨⟨b1, b2⟩, b3⟩ := hb
              have b1 : s < 4294967296 := by simpa [Nat.blt_eq] using b1
              have b2 := Nat.le_of_ble_eq_true b2
              match vals, hA with
              | [u, v], ⟨r1, r2, _⟩ =>
                obtain rfl : u = _ := r1
                obtain ⟨g, cc, C, q1, q2, rfl⟩ := RB.sl r2
                obtain ⟨us, T', cur, fz, x1, x2, x3, x4⟩ := holds_sub hM hm q1 hr
                have hus := u8L_ok hbs x2
                have hlen : bs.length = n := by rw [← x3, hus]; simp [byts]
                have hS : Sli 0 0 w.heap.size w (some ⟨g, o, none⟩) (fl encB bs) := by
                  rw [← byts_fl, ← hus]
                  exact .inr ⟨g, o, cur, fz, rfl, Nat.zero_le _, (Array.getElem?_eq_some_iff.1 x1).1, ⟨T', x1, .inl rfl⟩, fun j v hj => x4 j v hj⟩
                have := crc_more (c := C) (tblB_ok hG hM b3) b1 hS (by omega)
                rw [hlen] at this
                exact this.mono fun u w' hu => ⟨ρ, Le.refl ρ, hM.grow hu.1, hu.2⟩
          · cases h
        · cases h
      · cases h
    · cases h
end Go.Proofs.YtbeafehpjjojnaaGreatDoor.Ev
