/- Arguments opened: a float, a struct of three floats. -/
import Derived.Test.YtfcholpgebcooaaFl
import Derived.ProofKit
import Derived.Lib.SmallJoins
namespace Go
open Go.ChangeShapes Go.WideShapes Go.RowKit Go.Joins Go.Deep
set_option linter.unusedSimpArgs false
set_option linter.unusedVariables false
section
variable {H : Type} {enc : TypeId × Value → H} {P : Program} {w : World} {base : Nat} {spare : Nat → Bool} {held : Bool}
theorem DataW.trod_float {fuel : Nat} {t : TypeId} {k : FloatKind} {cs : List Value} {x : DataW H × List MemPlace} (ht : P.underlying t = some (.float k)) (h : DataW.trod enc P w base spare held fuel t cs = some x) : ∃ b, cs = [.float k b] ∧ (Lit.float k b).wf = true := by
  cases fuel with
  | zero => simp [DataW.trod] at h
  | succ n =>
    unfold DataW.trod at h
    rw [ht] at h
    split at h <;> simp_all
/-- A struct of three floats: its value, written out. -/
theorem open_three {r : Reach} {b0 : Nat} {t ft : TypeId} {f0 f1 f2 : Field} {v : Value} {d : DataW H} {p : List MemPlace} (hs : P.underlying t = some (.struct #[f0, f1, f2])) (hone : oneCellFields P #[f0, f1, f2] = true) (hC : P.cellsOf t = 3)
    (e0 : f0.type = ft) (e1 : f1.type = ft) (e2 : f2.type = ft) (hf : P.underlying ft = some (.float .f64))
    (hv : Value.okWide P w r b0 t v) (h : DataW.Trod enc P w base spare held t v d p) : ∃ a b c, v = .agg #[.float .f64 a, .float .f64 b, .float .f64 c] := by
  obtain ⟨v0, v1, v2, y0, y1, y2, n, rfl, _, _, h0, h1, h2⟩ := open_agg3 hs hone hC hv h
  obtain ⟨a, ha, _⟩ := DataW.trod_float (e0 ▸ hf) h0
  obtain ⟨b, hb, _⟩ := DataW.trod_float (e1 ▸ hf) h1
  obtain ⟨c, hc, _⟩ := DataW.trod_float (e2 ▸ hf) h2
  simp at ha hb hc
  exact ⟨a, b, c, by rw [ha, hb, hc]⟩
end
end Go
