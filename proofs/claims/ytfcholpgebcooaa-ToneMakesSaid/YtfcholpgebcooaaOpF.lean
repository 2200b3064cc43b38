/- Arguments opened: a slice of floats. -/
import Derived.Test.YtfcholpgebcooaaOp
import Derived.Test.YtfcholpgebcooaaSl
import Derived.ChangeSlices
namespace Go
open Go.ChangeShapes Go.WideShapes Go.RowKit Go.Joins Go.Deep
set_option linter.unusedSimpArgs false
set_option linter.unusedVariables false
section
variable {H : Type} {enc : TypeId × Value → H} {P : Program} {w : World} {base : Nat} {spare : Nat → Bool} {held : Bool}
/-- A slice of floats, whatever its address: nil, empty, or words in memory. -/
theorem open_floats {r : Reach} {b0 : Nat} {t e : TypeId} {v : Value} {d : DataW H} {p : List MemPlace} (ht : P.underlying t = some (.slice e)) (he : P.underlying e = some (.float .f64)) (hc : P.cellsOf e = 1)
    (hv : Value.okWide P w r b0 t v) (h : DataW.Trod enc P w base spare held t v d p) : ∃ (a : Option Addr) (n cap : Nat), v = .slice a n cap ∧ n ≤ maxLen ∧ (0 < n → ∃ b off zs, a = some ⟨b, off, none⟩ ∧ zs.length = n ∧ FloatsAt w b off zs) := by
  obtain ⟨a0, l0, c0, rfl⟩ := okWide_slice ht hv
  obtain ⟨m, hm⟩ := h
  rcases DataW.trod_slice ht hm with ⟨h0, _⟩ | ⟨a, len, cap, elems, rest, n, _, hcs, _, hb, hl, hmx, hlen, hel, hsp, hns⟩
  · have h1 : Value.slice a0 l0 c0 = .slice none 0 0 := by simpa [Value.cells] using h0
    cases h1
    exact ⟨none, 0, 0, rfl, Nat.zero_le _, fun h => absurd h (by omega)⟩
  · have h1 : Value.slice a0 l0 c0 = .slice (some a) len cap := by simpa [Value.cells] using hcs
    cases h1
    refine ⟨some a, l0, c0, rfl, by omega, fun hpos => ?_⟩
    have each : ∀ i, i < l0 → ∃ z, w.cell? (a.add i) = some (.float .f64 z) := by
      intro i hi
      have hy := hel i hi
      rw [List.getElem?_eq_getElem (by omega)] at hy
      rw [hc, Nat.mul_one, Option.bind_eq_some_iff] at hy
      obtain ⟨cs', hcs', hy'⟩ := hy
      obtain ⟨z, rfl, hw⟩ := DataW.trod_float he hy'
      exact ⟨z, cell_of_cells?_one hcs'⟩
    obtain ⟨b, off, spot⟩ := a
    have hs : spot = none := by
      obtain ⟨z, hz⟩ := each 0 hpos
      cases spot with
      | none => rfl
      | some s => simp [World.cell?, Addr.add] at hz; split at hz <;> simp_all
    subst hs
    refine ⟨b, off, (List.range l0).map (fun i => match w.cell? ⟨b, off + i, none⟩ with | some (.float _ z) => z | _ => 0), rfl, by simp, fun k hk => ?_⟩
    simp only [List.length_map, List.length_range] at hk
    obtain ⟨z, hz⟩ := each k hk
    have hz' : w.cell? ⟨b, off + k, none⟩ = some (.float .f64 z) := by
      have he : (⟨b, off, none⟩ : Addr).add k = ⟨b, off + k, none⟩ := by unfold Addr.add; split <;> simp_all
      rw [← he]; exact hz
    rw [hz']
    simp [List.getD_eq_getElem?_getD, hk, hz']
end
end Go
