/- The curves that the program makes, and the reference's ends. -/
import Derived.Test.YtfcholpgebcooaaT43b
namespace Go.Proofs.Ytfcholpgebcooaa
open Go.RowKit
set_option linter.unusedSimpArgs false
set_option linter.unusedVariables false

abbrev fhalf : FV := fcls 4602678819172646912
abbrev f255 : FV := fcls 4643176031446892544
def fint (i : Int) : FV := fcls (floatOfInt .f64 i)
/-- The k-th end of the plain curve, and of the squares. -/
def evenF (k : Int) : FV := fdiv (fsub (fint k) fhalf) f255
def squareF (k : Int) : FV := fmul (evenF k) (evenF k)
theorem info22 : (Try.prog.info? 22).map (fun i => (i.zero, i.size, i.bytes)) = some (some (.float .f64 0), 1, 8) := by kernel_rfl
set_option maxHeartbeats 400000 in
theorem c76 (k : Int) (w : World) : Calls Try.prog 76 #[.int .i64 k] w (RetQ (isF (evenF k)) w) := by
  go_enter Try.func76, Try.ntmps76
  go_wp2_with (refine wpList_fop rfl rfl rfl rfl rfl ?_; intro r n hr)
  go_ret
  exact retq_drewN (isF_of (by simp [*, evenF, fint, fop]))
set_option maxHeartbeats 400000 in
theorem c77 (k : Int) (w : World) : Calls Try.prog 77 #[.int .i64 k] w (RetQ (isF (squareF k)) w) := by
  go_enter Try.func77, Try.ntmps77
  go_wp2_with (first | (refine wpList_fop rfl rfl rfl rfl rfl ?_; intro r n hr) | (go_at_call 76; refine (c76 _ _).mono ?_; rintro e w1 ⟨_, n, rfl, ⟨x, rfl, hx⟩, rfl⟩))
  go_ret
  exact retq_drewN (isF_of (by simp [*, squareF, fop]))
set_option maxHeartbeats 400000 in
theorem c78 (k : Int) (sq : Bool) (w : World) : Calls Try.prog 78 #[.int .i64 k, .bool sq] w (RetQ (isF (if sq then squareF k else evenF k)) w) := by
  cases sq
  · go_enter Try.func78, Try.ntmps78
    go_wp2_with (refine wpList_fop rfl rfl rfl rfl rfl ?_; intro r n hr)
    go_ret
    exact retq_drewN (isF_of (by simp [*, evenF, fint, fop]))
  · go_enter Try.func78, Try.ntmps78
    go_wp2_with (refine wpList_fop rfl rfl rfl rfl rfl ?_; intro r n hr)
    go_ret
    exact retq_drewN (isF_of (by simp [*, squareF, evenF, fint, fop]))
/-- The call's own slice, its elements the ends from the first on. -/
def EndsAt (B : Nat) (w : World) (v : Value) (k : Nat) (f : Int → FV) : Prop := ∃ xs : List Nat, xs.length = k ∧ OwnF 22 B w v xs ∧ ∀ i, i < k → at_ xs i = f (i + 1)
theorem EndsAt.snoc {B : Nat} {w : World} {v : Value} {xs : List Nat} {y : Nat} {f : Int → FV} {k : Nat} (hl : xs.length = k) (h : OwnF 22 B w v (xs ++ [y])) (ha : ∀ i, i < k → at_ xs i = f (i + 1)) (hy : fcls y = f (k + 1)) : EndsAt B w v (k + 1) f := by
  refine ⟨xs ++ [y], by simp [hl], h, fun i hi => ?_⟩
  rcases Nat.lt_or_ge i k with h' | h'
  · rw [at_append_lt (by omega)]; exact ha i h'
  · have : i = xs.length := by omega
    subst this
    rw [at_append_last, hy, hl]
set_option maxHeartbeats 400000 in
theorem c31 (sq : Bool) (w : World) : Calls Try.prog 31 #[.bool sq] w (fun e w' => ∃ v, e = .returned v ∧ Grew w w' ∧ EndsAt w.heap.size w' v 255 (fun k => if sq then squareF k else evenF k)) := by
  obtain ⟨i0, hi, hz0, hz1, hz2⟩ := info_parts info22
  obtain ⟨f, hf⟩ : ∃ f : Int → FV, f = fun k => if sq then squareF k else evenF k := ⟨_, rfl⟩
  have h78 : ∀ k w, Calls Try.prog 78 #[.int .i64 k, .bool sq] w (RetQ (isF (f k)) w) := fun k w => by rw [hf]; exact c78 k sq w
  rw [← hf]
  clear hf
  go_enter Try.func31, Try.ntmps31
  go_wp2
  go_loopw [3, 4] (fun v i wr => ∃ k : Nat, k ≤ 255 ∧ i = .int .i64 (k + 1) ∧ Grew w wr ∧ EndsAt w.heap.size wr v k f) (fun _ i _ => 256 - (intOf i).toNat)
  case atStart => exact ⟨0, Nat.zero_le _, rfl, Grew.refl _, [], rfl, OwnF.nil _ _ _, fun i h => by omega⟩
  case round =>
    obtain ⟨k, hk, rfl, hg, xs, hl, hown, ha⟩ := hrel
    have Hl := Lib.hid hl
    have Ha := Lib.hid ha
    clear hl ha
    by_cases hlt : k < 255
    · have hle : decide ((k : Int) + 1 ≤ 255) = true := by simp; omega
      go_wp2_with (first | (go_at_call 78; refine (h78 _ _).mono ?_; rintro e w1 ⟨_, n, rfl, ⟨x, rfl, hx⟩, rfl⟩) | (at_builtin; go_must (refine wpList_app1 (xs := xs) (B := w.heap.size) (g := wr.heap.size) (y := x) (c := 1) rfl rfl Try.underlying33 hi hz0 hz1 hz2 rfl ?hown rfl ?hy ?hlen ?hbase ?_); exact hown.grew (by repeat (first | exact Grew.refl _ | assumption | refine Grew.drewN ?_ _ | refine Grew.drew ?_ | refine Grew.alloc ?_ _ | refine Grew.setCell ?_ (by simp; try omega) _ | refine Grew.trans ?_ (by assumption))); go_simp; (have hxl := Hl.out; omega); (have hgs := Below.size hg; simp; omega); intro v' w' hown' hgrow))
      go_roundw
      case rel => exact ⟨k + 1, by omega, by go_num, Grew.grown (Grew.trans hg (by repeat (first | exact Grew.refl _ | assumption | refine Grew.drewN ?_ _ | refine Grew.drew ?_ | refine Grew.alloc ?_ _ | refine Grew.setCell ?_ (by simp; try omega) _ | refine Grew.trans ?_ (by assumption)))) hgrow (fun b hb => (hown.lt hb).1), EndsAt.snoc Hl.out hown' Ha.out hx⟩
      case measure => simp [intOf]; omega
    · have hk255 : k = 255 := by omega
      subst hk255
      go_wp2
      go_ret
      exact ⟨_, rfl, hg, xs, Hl.out, hown, Ha.out⟩
end Go.Proofs.Ytfcholpgebcooaa
