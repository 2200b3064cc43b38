/- What must come at any rate. -/
import Derived.Test.YtfcholpgebcooaaT43f
namespace Go.Proofs.Ytfcholpgebcooaa
open Go.RowKit
set_option linter.unusedSimpArgs false
set_option linter.unusedVariables false

def cntFn (f : Int → FV) (x : FV) : Nat → Nat
  | 0 => 0
  | k + 1 => cntFn f x k + if fle (f (k + 1)) x then 1 else 0
theorem cntTo_fn {zs : List Nat} {f : Int → FV} {n : Nat} (x : FV) (h : ∀ i, i < n → at_ zs i = f (i + 1)) : cntTo zs x n = cntFn f x n := by
  induction n with
  | zero => rfl
  | succ n ih =>
    simp only [cntTo, cntFn]
    rw [ih (fun i hi => h i (by omega)), h n (by omega)]
theorem IsCurve.ptr {f : Int → FV} {v : Value} {w : World} (h : IsCurve f v w) : ∃ p, v = .pointer (some ⟨p, 0, none⟩) := let ⟨p, _, _, _, e, _⟩ := h; ⟨p, e⟩
theorem c21_any {f : Int → FV} {v : Value} {w : World} (h : IsCurve f v w) (x : Nat) : Calls Try.prog 21 #[v, .float .f64 x] w (Ret (isI (cntFn f (fcls x) 255)) w) := by
  obtain ⟨p, g, cap, zs, rfl, hl, hc, ha, hr⟩ := h
  have := c21 p g 0 cap x zs w (by omega) hr hc
  rw [hl, cntTo_fn _ ha] at this
  exact this
theorem e_half : ((cntFn evenF (fcls 4602678819172646912) 255 : Nat) : Int) = 128 := by decide +kernel
theorem e_zero : ((cntFn evenF (fcls 0) 255 : Nat) : Int) = 0 := by decide +kernel
theorem e_nine : ((cntFn evenF (fcls 4621256167635550208) 255 : Nat) : Int) = 255 := by decide +kernel
theorem s_quarter : ((cntFn squareF (fcls 4598175219545276416) 255 : Nat) : Int) = 128 := by decide +kernel
theorem white_two : whiteOf [4602678819172646912, 4613937818241073152] = fcls 4613937818241073152 := by decide +kernel
theorem half_of_two : feq (fmul (at_ [4607182418800017408, 4611686018427387904] 1) (fcls 4598175219545276416)) (fcls 4602678819172646912) = true := by decide +kernel
theorem three_three : feq (fcls 4613937818241073152) (fcls 4613937818241073152) = true := by decide +kernel
theorem floats_alloc2 (w : World) (a b : Nat) (t : TypeId) : FloatsAt (w.alloc (.cells #[.float .f64 a, .float .f64 b] t)) w.heap.size 0 [a, b] := by
  intro k hk
  rcases k with _ | _ | k
  · rw [World.cell?, heap_alloc_new]; rfl
  · rw [World.cell?, heap_alloc_new]; rfl
  · simp only [List.length_cons, List.length_nil] at hk; omega
theorem SliceOf.two {e B : Nat} {w : World} {v : Value} {k : Nat} {f : Nat → FV} (h : SliceOf e B w v k f) (hk : k = 2) : ∃ g cap z, v = .slice (some ⟨g, 0, none⟩) 2 cap ∧ g < w.heap.size ∧ w.cell? ⟨g, 1, none⟩ = some (.float .f64 z) ∧ fcls z = f 1 := by
  obtain ⟨xs, hl, hown, ha⟩ := h
  subst hk
  rcases hown.form with ⟨_, e⟩ | ⟨g, cap, hu, _, h3, _, _, hfl⟩
  · rw [e] at hl; simp at hl
  · obtain ⟨z, hz, kz⟩ := hfl.get 1 (by omega)
    exact ⟨g, cap, z, by rw [hu, hl], h3, hz, by rw [kz, ha 1 (by omega)]⟩
attribute [local irreducible] cntFn evenF squareF fcls IsCurve in
set_option maxHeartbeats 1000000 in
theorem c18 (w : World) : Calls Try.prog 18 #[] w (Ret (isB true) w) := by
  go_enter Try.func18, Try.ntmps18
  go_wp2_with (first
    | (go_at_call 29; refine (c29 _).mono ?_; rintro e w1 ⟨v1, rfl, hE, hg1⟩; obtain ⟨p1, rfl⟩ := hE.ptr)
    | (go_at_call 30; refine (c30 _).mono ?_; rintro e w2 ⟨v2, rfl, hS, hg2⟩; obtain ⟨p2, rfl⟩ := hS.ptr)
    | (go_at_call 65; refine (c65 _ _ _ _ [4607182418800017408, 4611686018427387904] _ (by decide) (floats_alloc2 _ _ _ _)).mono ?_; rintro e w3 ⟨v3, rfl, hL, hg3⟩; obtain ⟨g3, cap3, z3, rfl, hg3w, hz3, kz3⟩ := hL.two rfl; have kz3p : feq (fcls z3) (fcls 4602678819172646912) = true := (by rw [kz3]; exact half_of_two); clear kz3)
    | (go_at_call 21; refine (c21_any (f := ?_) ?_ _).mono ?_; rotate_left; (first | (refine hE.grew ?_; exact (by repeat (first | exact Grew.refl _ | assumption | refine Grew.drewN ?_ _ | refine Grew.drew ?_ | refine Grew.alloc ?_ _ | refine Grew.setCell ?_ (by simp; try omega) _ | refine Grew.trans ?_ (by assumption)))) | (refine hS.grew ?_; exact (by repeat (first | exact Grew.refl _ | assumption | refine Grew.drewN ?_ _ | refine Grew.drew ?_ | refine Grew.alloc ?_ _ | refine Grew.setCell ?_ (by simp; try omega) _ | refine Grew.trans ?_ (by assumption))))); rintro e w4 ⟨v4, rfl, h4, hg4⟩; (first | rw [e_half] at h4 | rw [e_zero] at h4 | rw [e_nine] at h4 | rw [s_quarter] at h4); obtain rfl : v4 = _ := h4)
    | (go_at_call 66; refine (c66 _ _ _ [4602678819172646912, 4613937818241073152] _ (by decide) (floats_alloc2 _ _ _ _)).mono ?_; rintro e w5 hq; obtain ⟨v5, rfl, h5, hg5⟩ := RetQ.ret hq; obtain ⟨x5, rfl, h5⟩ := h5; rw [white_two] at h5; have h55 : feq (fcls x5) (fcls 4613937818241073152) = true := (by rw [h5]; exact three_three); clear h5; have hz5 : w5.cell? ⟨g3, 1, none⟩ = some (.float .f64 z3) := by refine Grew.cell ?_ hz3; exact (by repeat (first | exact Grew.refl _ | assumption | refine Grew.drewN ?_ _ | refine Grew.drew ?_ | refine Grew.alloc ?_ _ | refine Grew.setCell ?_ (by simp; try omega) _ | refine Grew.trans ?_ (by assumption)))))
  go_ret
  exact ret_of (isB_of rfl) ((by repeat (first | exact Grew.refl _ | assumption | refine Grew.drewN ?_ _ | refine Grew.drew ?_ | refine Grew.alloc ?_ _ | refine Grew.setCell ?_ (by simp; try omega) _ | refine Grew.trans ?_ (by assumption))))
end Go.Proofs.Ytfcholpgebcooaa
