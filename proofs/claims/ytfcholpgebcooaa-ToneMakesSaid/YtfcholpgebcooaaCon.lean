/- The words of the contracts: what a call hands back, and how a walk ends. -/
import Derived.Test.YtfcholpgebcooaaRg2
import Derived.Test.YtfcholpgebcooaaSpec
import Derived.Laws.StructEq
namespace Go
open Go.RowKit
set_option linter.unusedSimpArgs false
set_option linter.unusedVariables false

def isRGB (c : RGBv) (v : Value) : Prop := ∃ r g b, v = .agg #[.float .f64 r, .float .f64 g, .float .f64 b] ∧ fcls r = c.r ∧ fcls g = c.g ∧ fcls b = c.b
def isT2 (R S : Value → Prop) (v : Value) : Prop := ∃ a b, v = .tuple #[a, b] ∧ R a ∧ S b
def isB (x : Bool) (v : Value) : Prop := v = .bool x
theorem isB_of {x y : Bool} (h : x = y) : isB y (.bool x) := h ▸ rfl
def isI (x : Int) (v : Value) : Prop := v = .int .i64 x
theorem isI_of {x y : Int} (h : x = y) : isI y (.int .i64 x) := h ▸ rfl
theorem isF_of {b : Nat} {x : FV} (h : fcls b = x) : isF x (.float .f64 b) := ⟨b, rfl, h⟩
theorem isRGB_of {r g b : Nat} {c : RGBv} (h1 : fcls r = c.r) (h2 : fcls g = c.g) (h3 : fcls b = c.b) : isRGB c (.agg #[.float .f64 r, .float .f64 g, .float .f64 b]) := ⟨r, g, b, rfl, h1, h2, h3⟩
theorem isT2_of {R S : Value → Prop} {a b : Value} (h1 : R a) (h2 : S b) : isT2 R S (.tuple #[a, b]) := ⟨a, b, rfl, h1, h2⟩
theorem ret_of {R : Value → Prop} {w w' : World} {v : Value} (h : R v) (hg : Grew w w') : Ret R w (.returned v) w' := ⟨v, rfl, h, hg⟩
theorem gcell {W w1 : World} (hb : Grew W w1) : (∀ b o, b < W.heap.size → w1.cell? ⟨b, o, none⟩ = W.cell? ⟨b, o, none⟩) ∧ (∀ b o, b < W.heap.size → w1.frozen? ⟨b, o, none⟩ = W.frozen? ⟨b, o, none⟩) ∧ W.heap.size ≤ w1.heap.size :=
  ⟨fun b o h => Below.cell hb (p := ⟨b, o, none⟩) h, fun b o h => Below.frozen hb (p := ⟨b, o, none⟩) h, hb.size⟩
/-- .. of a call that makes no memory. -/
def RetQ (R : Value → Prop) (w : World) (e : Ending) (w' : World) : Prop := ∃ v n, e = .returned v ∧ R v ∧ w' = w.drewN n
theorem retq_of {R : Value → Prop} {w : World} {v : Value} (h : R v) : RetQ R w (.returned v) w := ⟨v, 0, rfl, h, rfl⟩
theorem retq_drewN {R : Value → Prop} {w : World} {v : Value} {n : Nat} (h : R v) : RetQ R w (.returned v) (w.drewN n) := ⟨v, n, rfl, h, rfl⟩
theorem retq_drew {R : Value → Prop} {w : World} {v : Value} (h : R v) : RetQ R w (.returned v) w.drew := ⟨v, 1, rfl, h, rfl⟩
theorem RetQ.ret {R : Value → Prop} {w w' : World} {e : Ending} (h : RetQ R w e w') : Ret R w e w' := by
  obtain ⟨v, n, he, hr, rfl⟩ := h
  exact ⟨v, he, hr, (Grew.refl _).drewN n⟩
/-- A call's result has its own world behind it. -/
theorem Ret.mono {R S : Value → Prop} {w : World} {e : Ending} {w' : World} (h : Ret R w e w') (hRS : ∀ v, R v → S v) : Ret S w e w' :=
  let ⟨v, he, hr, hg⟩ := h; ⟨v, he, hRS v hr, hg⟩
end Go
