/- The law ToneMakes, walked. -/
import Derived.Test.YtfcholpgebcooaaT43g
namespace Go.Proofs.Ytfcholpgebcooaa
open Go.RowKit
set_option linter.unusedSimpArgs false
set_option linter.unusedVariables false

set_option maxHeartbeats 400000 in
theorem c4_long (a : Option Addr) (n cap x y : Nat) (hn : 300 < n) (w : World) : Calls Try.prog 4 #[.slice a n cap, .float .f64 x, .float .f64 y] w (Ret (isB true) w) := by
  go_enter Try.func4, Try.ntmps4
  have hd : decide (300 < (n : Int)) = true := by simp; omega
  go_wp2_with (go_at_call 18; refine (c18 _).mono ?_; rintro e w1 ⟨v1, rfl, h1, hg1⟩; obtain rfl : v1 = _ := h1)
  go_ret
  exact ret_of (isB_of rfl) ((by repeat (first | exact Grew.refl _ | assumption | refine Grew.drewN ?_ _ | refine Grew.drew ?_ | refine Grew.alloc ?_ _ | refine Grew.setCell ?_ (by simp; try omega) _ | refine Grew.trans ?_ (by assumption))))
set_option maxHeartbeats 400000 in
theorem c4_size (a : Option Addr) (n cap x y : Nat) (hn : ¬ 300 < n) (hne : n ≠ 255) (w : World) : Calls Try.prog 4 #[.slice a n cap, .float .f64 x, .float .f64 y] w (Ret (isB true) w) := by
  go_enter Try.func4, Try.ntmps4
  have hd : decide (300 < (n : Int)) = false := by simp; omega
  have hd2 : decide ((n : Int) = 255) = false := by simp; omega
  go_wp2_with (first | (go_at_call 18; refine (c18 _).mono ?_; rintro e w1 ⟨v1, rfl, h1, hg1⟩; obtain rfl : v1 = _ := h1) | (go_at_call 19; refine (c19_size a n cap hne _).mono ?_; rintro e w2 hq; obtain ⟨v2, rfl, h2, hg2⟩ := RetQ.ret hq; obtain rfl : v2 = _ := h2))
  go_ret
  exact ret_of (isB_of rfl) ((by repeat (first | exact Grew.refl _ | assumption | refine Grew.drewN ?_ _ | refine Grew.drew ?_ | refine Grew.alloc ?_ _ | refine Grew.setCell ?_ (by simp; try omega) _ | refine Grew.trans ?_ (by assumption))))
set_option maxHeartbeats 1000000 in
theorem c4_bad (b off cap x y : Nat) (zs : List Nat) (w : World) (hl : zs.length = 255) (hfl : FloatsAt w b off zs) (hr : rightTo zs 255 = false) : Calls Try.prog 4 #[.slice (some ⟨b, off, none⟩) (255 : Nat) cap, .float .f64 x, .float .f64 y] w (Ret (isB true) w) := by
  have Hf := Lib.hid hfl
  clear hfl
  have h20 : ∀ w', FloatsAt w' b off zs → Calls Try.prog 20 #[.slice (some ⟨b, off, none⟩) (255 : Nat) cap] w' (Ret (isB false) w') := fun w' h => by
    have := c20 b off cap zs w' (by rw [hl]; unfold maxLen; omega) h
    rwa [hl, hr] at this
  have H20 := Lib.hid h20
  clear h20
  go_enter Try.func4, Try.ntmps4
  go_wp2_with (first | (go_at_call 18; refine (c18 _).mono ?_; rintro e w1 ⟨v1, rfl, h1, hg1⟩; obtain rfl : v1 = _ := h1) | (go_at_call 19; refine (c19_good b off cap zs _ hl (Hf.out.grew ((by repeat (first | exact Grew.refl _ | assumption | refine Grew.drewN ?_ _ | refine Grew.drew ?_ | refine Grew.alloc ?_ _ | refine Grew.setCell ?_ (by simp; try omega) _ | refine Grew.trans ?_ (by assumption)))))).mono ?_; rintro e w2 ⟨v2, rfl, h2, hg2⟩; obtain ⟨_, rfl⟩ : rightTo zs 255 = false ∧ v2 = .tuple #[.pointer none, .int .i64 2] := h2.resolve_right (fun h => by rw [hr] at h; cases h.1)) | (go_at_call 20; refine (H20.out _ ?_).mono ?_; (refine FloatsAt.grew Hf.out ?_; exact (by repeat (first | exact Grew.refl _ | assumption | refine Grew.drewN ?_ _ | refine Grew.drew ?_ | refine Grew.alloc ?_ _ | refine Grew.setCell ?_ (by simp; try omega) _ | refine Grew.trans ?_ (by assumption)))); rintro e w3 ⟨v3, rfl, h3, hg3⟩; obtain rfl : v3 = _ := h3))
  go_ret
  exact ret_of (isB_of rfl) ((by repeat (first | exact Grew.refl _ | assumption | refine Grew.drewN ?_ _ | refine Grew.drew ?_ | refine Grew.alloc ?_ _ | refine Grew.setCell ?_ (by simp; try omega) _ | refine Grew.trans ?_ (by assumption))))
set_option maxHeartbeats 1000000 in
theorem c4_good (b off cap x y : Nat) (zs : List Nat) (w : World) (hl : zs.length = 255) (hfl : FloatsAt w b off zs) (hr : rightTo zs 255 = true) : Calls Try.prog 4 #[.slice (some ⟨b, off, none⟩) (255 : Nat) cap, .float .f64 x, .float .f64 y] w (Ret (isB true) w) := by
  have Hf := Lib.hid hfl
  clear hfl
  have h20 : ∀ w', FloatsAt w' b off zs → Calls Try.prog 20 #[.slice (some ⟨b, off, none⟩) (255 : Nat) cap] w' (Ret (isB true) w') := fun w' h => by
    have := c20 b off cap zs w' (by rw [hl]; unfold maxLen; omega) h
    rwa [hl, hr] at this
  have H20 := Lib.hid h20
  clear h20
  have hm : fle (fcls x) (fcls y) = true → (cntTo zs (fcls x) 255 : Nat) ≤ cntTo zs (fcls y) 255 := fun h => cnt_mono (fcls_ok x) (fcls_ok y) h 255
  obtain ⟨A, hA⟩ : ∃ A : Nat → Nat, A = fun x => cntTo zs (fcls x) 255 := ⟨_, rfl⟩
  have hAx : ∀ x, A x = cntTo zs (fcls x) 255 := fun x => by rw [hA]
  have h22 : ∀ z w', FloatsAt w' b off zs → Calls Try.prog 22 #[.slice (some ⟨b, off, none⟩) (255 : Nat) cap, .float .f64 z] w' (RetQ (isI (A z)) w') := fun z w' h => by
    have := c22 b off cap z zs w' (by rw [hl]; unfold maxLen; omega) h
    rw [hl] at this
    rw [hAx]; exact this
  have H22 := Lib.hid h22
  clear h22
  have h21 : ∀ z w' p g cap', CurveAt w' p g 0 cap' zs → Calls Try.prog 21 #[.pointer (some ⟨p, 0, none⟩), .float .f64 z] w' (Ret (isI (A z)) w') := fun z w' p g cap' h => by
    have := c21 p g 0 cap' z zs w' (by rw [hl]; omega) (by rw [hl]; exact rises_of_right hr) h
    rw [hl] at this
    rw [hAx]; exact this
  have H21 := Lib.hid h21
  clear h21
  rw [← hAx, ← hAx] at hm
  have Hm := Lib.hid hm
  clear hm hAx hA
  go_enter Try.func4, Try.ntmps4
  cases hxy : fle (fcls x) (fcls y)
  · go_wp2_with (first | (go_at_call 18; refine (c18 _).mono ?_; rintro e w1 ⟨v1, rfl, h1, hg1⟩; obtain rfl : v1 = _ := h1) | (go_at_call 19; refine (c19_good b off cap zs _ hl (Hf.out.grew ((by repeat (first | exact Grew.refl _ | assumption | refine Grew.drewN ?_ _ | refine Grew.drew ?_ | refine Grew.alloc ?_ _ | refine Grew.setCell ?_ (by simp; try omega) _ | refine Grew.trans ?_ (by assumption)))))).mono ?_; rintro e w2 ⟨v2, rfl, h2, hg2⟩; obtain ⟨_, p, g, cap2, rfl, hcv⟩ : rightTo zs 255 = true ∧ ∃ p g cap, v2 = .tuple #[.pointer (some ⟨p, 0, none⟩), .int .i64 0] ∧ CurveAt w2 p g 0 cap zs := h2.resolve_left (fun h => by rw [hr] at h; cases h.1)) | (go_at_call 20; refine (H20.out _ ?_).mono ?_; (refine FloatsAt.grew Hf.out ?_; exact (by repeat (first | exact Grew.refl _ | assumption | refine Grew.drewN ?_ _ | refine Grew.drew ?_ | refine Grew.alloc ?_ _ | refine Grew.setCell ?_ (by simp; try omega) _ | refine Grew.trans ?_ (by assumption)))); rintro e w3 ⟨v3, rfl, h3, hg3⟩; obtain rfl : v3 = _ := h3) | (go_at_call 21; refine (H21.out _ _ _ g cap2 ?_).mono ?_; (refine CurveAt.grew hcv ?_; exact (by repeat (first | exact Grew.refl _ | assumption | refine Grew.drewN ?_ _ | refine Grew.drew ?_ | refine Grew.alloc ?_ _ | refine Grew.setCell ?_ (by simp; try omega) _ | refine Grew.trans ?_ (by assumption)))); rintro e w4 ⟨v4, rfl, h4, hg4⟩; obtain rfl : v4 = _ := h4) | (go_at_call 22; refine (H22.out _ _ ?_).mono ?_; (refine FloatsAt.grew Hf.out ?_; exact (by repeat (first | exact Grew.refl _ | assumption | refine Grew.drewN ?_ _ | refine Grew.drew ?_ | refine Grew.alloc ?_ _ | refine Grew.setCell ?_ (by simp; try omega) _ | refine Grew.trans ?_ (by assumption)))); rintro e w5 hq5; obtain ⟨v5, rfl, h5, hg5⟩ := RetQ.ret hq5; obtain rfl : v5 = _ := h5))
    go_ret
    exact ret_of (isB_of rfl) ((by repeat (first | exact Grew.refl _ | assumption | refine Grew.drewN ?_ _ | refine Grew.drew ?_ | refine Grew.alloc ?_ _ | refine Grew.setCell ?_ (by simp; try omega) _ | refine Grew.trans ?_ (by assumption))))
  · have hq : decide ((A x : Int) ≤ (A y : Int)) = true := by have := Hm.out hxy; simp; omega
    go_wp2_with (first | (go_at_call 18; refine (c18 _).mono ?_; rintro e w1 ⟨v1, rfl, h1, hg1⟩; obtain rfl : v1 = _ := h1) | (go_at_call 19; refine (c19_good b off cap zs _ hl (Hf.out.grew ((by repeat (first | exact Grew.refl _ | assumption | refine Grew.drewN ?_ _ | refine Grew.drew ?_ | refine Grew.alloc ?_ _ | refine Grew.setCell ?_ (by simp; try omega) _ | refine Grew.trans ?_ (by assumption)))))).mono ?_; rintro e w2 ⟨v2, rfl, h2, hg2⟩; obtain ⟨_, p, g, cap2, rfl, hcv⟩ : rightTo zs 255 = true ∧ ∃ p g cap, v2 = .tuple #[.pointer (some ⟨p, 0, none⟩), .int .i64 0] ∧ CurveAt w2 p g 0 cap zs := h2.resolve_left (fun h => by rw [hr] at h; cases h.1)) | (go_at_call 20; refine (H20.out _ ?_).mono ?_; (refine FloatsAt.grew Hf.out ?_; exact (by repeat (first | exact Grew.refl _ | assumption | refine Grew.drewN ?_ _ | refine Grew.drew ?_ | refine Grew.alloc ?_ _ | refine Grew.setCell ?_ (by simp; try omega) _ | refine Grew.trans ?_ (by assumption)))); rintro e w3 ⟨v3, rfl, h3, hg3⟩; obtain rfl : v3 = _ := h3) | (go_at_call 21; refine (H21.out _ _ _ g cap2 ?_).mono ?_; (refine CurveAt.grew hcv ?_; exact (by repeat (first | exact Grew.refl _ | assumption | refine Grew.drewN ?_ _ | refine Grew.drew ?_ | refine Grew.alloc ?_ _ | refine Grew.setCell ?_ (by simp; try omega) _ | refine Grew.trans ?_ (by assumption)))); rintro e w4 ⟨v4, rfl, h4, hg4⟩; obtain rfl : v4 = _ := h4) | (go_at_call 22; refine (H22.out _ _ ?_).mono ?_; (refine FloatsAt.grew Hf.out ?_; exact (by repeat (first | exact Grew.refl _ | assumption | refine Grew.drewN ?_ _ | refine Grew.drew ?_ | refine Grew.alloc ?_ _ | refine Grew.setCell ?_ (by simp; try omega) _ | refine Grew.trans ?_ (by assumption)))); rintro e w5 hq5; obtain ⟨v5, rfl, h5, hg5⟩ := RetQ.ret hq5; obtain rfl : v5 = _ := h5))
    go_ret
    exact ret_of (isB_of (decide_eq_true (Hm.out hxy))) ((by repeat (first | exact Grew.refl _ | assumption | refine Grew.drewN ?_ _ | refine Grew.drew ?_ | refine Grew.alloc ?_ _ | refine Grew.setCell ?_ (by simp; try omega) _ | refine Grew.trans ?_ (by assumption))))
/-- The law. -/
theorem c4 (a : Option Addr) (n cap x y : Nat) (w : World) (h : 0 < n → ∃ b off zs, a = some ⟨b, off, none⟩ ∧ zs.length = n ∧ FloatsAt w b off zs) : Calls Try.prog 4 #[.slice a n cap, .float .f64 x, .float .f64 y] w (Ret (isB true) w) := by
  by_cases h3 : 300 < n
  · exact c4_long a n cap x y h3 w
  · by_cases h5 : n = 255
    · subst h5
      obtain ⟨b, off, zs, rfl, hl, hf⟩ := h (by omega)
      cases hr : rightTo zs 255
      · exact c4_bad b off cap x y zs w hl hf hr
      · exact c4_good b off cap x y zs w hl hf hr
    · exact c4_size a n cap x y h3 h5 w
end Go.Proofs.Ytfcholpgebcooaa
