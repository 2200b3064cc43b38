/- The plain curve and the squares; scaled lights; the greatest light; a curve of any ends. -/
import Derived.Test.YtfcholpgebcooaaT43d
namespace Go.Proofs.Ytfcholpgebcooaa
open Go.RowKit
set_option linter.unusedSimpArgs false
set_option linter.unusedVariables false

theorem rises_of_next {zs : List Nat} {n : Nat} (h : ∀ i, i + 1 < n → flt (at_ zs i) (at_ zs (i + 1)) = true) : Rises zs n := by
  intro i j hij
  induction j with
  | zero => omega
  | succ j ih =>
    intro hj
    rcases Nat.lt_or_ge i j with h' | h'
    · exact flt_trans (at_ok zs _) (at_ok zs _) (at_ok zs _) (ih h' (by omega)) (h j (by omega))
    · have : i = j := by omega
      subst this; exact h i (by omega)
theorem even_next : ∀ i : Nat, i < 254 → flt (evenF (i + 1)) (evenF (i + 2)) = true := by
  have h : (List.range 254).all (fun i => flt (evenF ((i : Nat) + 1)) (evenF ((i : Nat) + 2))) = true := by decide +kernel
  exact fun i hi => List.all_eq_true.1 h i (List.mem_range.2 hi)
theorem square_next : ∀ i : Nat, i < 254 → flt (squareF (i + 1)) (squareF (i + 2)) = true := by
  have h : (List.range 254).all (fun i => flt (squareF ((i : Nat) + 1)) (squareF ((i : Nat) + 2))) = true := by decide +kernel
  exact fun i hi => List.all_eq_true.1 h i (List.mem_range.2 hi)
theorem rises_ends {zs : List Nat} {f : Int → FV} (hf : ∀ i : Nat, i < 254 → flt (f (i + 1)) (f (i + 2)) = true) (ha : ∀ i, i < 255 → at_ zs i = f (i + 1)) : Rises zs 255 := by
  refine rises_of_next fun i hi => ?_
  rw [ha i (by omega), ha (i + 1) (by omega)]
  have := hf i (by omega)
  rwa [show (((i + 1 : Nat) : Int) + 1) = (i : Int) + 2 by omega]
/-- A curve whose ends are told. -/
def IsCurve (f : Int → FV) (v : Value) (w : World) : Prop := ∃ p g cap zs, v = .pointer (some ⟨p, 0, none⟩) ∧ zs.length = 255 ∧ CurveAt w p g 0 cap zs ∧ (∀ i, i < 255 → at_ zs i = f (i + 1)) ∧ Rises zs zs.length
theorem IsCurve.grew {f : Int → FV} {v : Value} {w w' : World} (h : IsCurve f v w) (hg : Grew w w') : IsCurve f v w' := let ⟨p, g, cap, zs, a, b, c, d, e⟩ := h; ⟨p, g, cap, zs, a, b, c.grew hg, d, e⟩
theorem isCurve_of {f : Int → FV} (hf : ∀ i : Nat, i < 254 → flt (f (i + 1)) (f (i + 2)) = true) {p B : Nat} {v : Value} {w : World} (hc : w.cell? ⟨p, 0, none⟩ = some v) (h : EndsAt B w v 255 f) : IsCurve f (.pointer (some ⟨p, 0, none⟩)) w := by
  obtain ⟨zs, hl, hown, ha⟩ := h
  rcases hown.form with ⟨_, e⟩ | ⟨g, cap, hu, _, _, _, _, hfl⟩
  · rw [e] at hl; simp at hl
  · exact ⟨p, g, cap, zs, rfl, hl, ⟨by rw [hc, hu], hfl⟩, ha, by rw [hl]; exact rises_ends hf ha⟩
def RetW (R : Value → World → Prop) (w : World) (e : Ending) (w' : World) : Prop := ∃ v, e = .returned v ∧ R v w' ∧ Grew w w'
set_option maxHeartbeats 400000 in
theorem c29 (w : World) : Calls Try.prog 29 #[] w (RetW (IsCurve evenF) w) := by
  go_enter Try.func29, Try.ntmps29
  go_wp2_with (go_at_call 75; refine (c75_76 _).mono ?_; rintro e w1 ⟨rfl, hg, v, hc, he⟩)
  go_ret
  exact ⟨_, rfl, isCurve_of even_next hc he, hg⟩
set_option maxHeartbeats 400000 in
theorem c30 (w : World) : Calls Try.prog 30 #[] w (RetW (IsCurve squareF) w) := by
  go_enter Try.func30, Try.ntmps30
  go_wp2_with (go_at_call 75; refine (c75_77 _).mono ?_; rintro e w1 ⟨rfl, hg, v, hc, he⟩)
  go_ret
  exact ⟨_, rfl, isCurve_of square_next hc he, hg⟩
/-- The call's own slice: its elements are told. -/
def SliceOf (e B : Nat) (w : World) (v : Value) (k : Nat) (f : Nat → FV) : Prop := ∃ xs : List Nat, xs.length = k ∧ OwnF e B w v xs ∧ ∀ i, i < k → at_ xs i = f i
theorem SliceOf.grew {e B : Nat} {w w' : World} {v : Value} {k : Nat} {f : Nat → FV} (h : SliceOf e B w v k f) (hg : Grew w w') : SliceOf e B w' v k f := let ⟨xs, a, b, c⟩ := h; ⟨xs, a, b.grew hg, c⟩
theorem SliceOf.snoc {e B : Nat} {w : World} {v : Value} {xs : List Nat} {y : Nat} {f : Nat → FV} {k : Nat} (hl : xs.length = k) (h : OwnF e B w v (xs ++ [y])) (ha : ∀ i, i < k → at_ xs i = f i) (hy : fcls y = f k) : SliceOf e B w v (k + 1) f := by
  refine ⟨xs ++ [y], by simp [hl], h, fun i hi => ?_⟩
  rcases Nat.lt_or_ge i k with h' | h'
  · rw [at_append_lt (by omega)]; exact ha i h'
  · have : i = xs.length := by omega
    subst this
    rw [at_append_last, hy, hl]
set_option maxHeartbeats 400000 in
theorem c65 (b off cap k : Nat) (zs : List Nat) (w : World) (hlen : zs.length ≤ 1048576) (hfl : FloatsAt w b off zs) : Calls Try.prog 65 #[.slice (some ⟨b, off, none⟩) zs.length cap, .float .f64 k] w (RetW (fun v w' => SliceOf 22 w.heap.size w' v zs.length (fun i => fmul (at_ zs i) (fcls k))) w) := by
  obtain ⟨i0, hi, hz0, hz1, hz2⟩ := info_parts info22
  have Hf := Lib.hid hfl
  clear hfl
  obtain ⟨n, hn⟩ : ∃ n, n = zs.length := ⟨_, rfl⟩
  have Hn := Lib.hid hn
  rw [← hn] at hlen ⊢
  clear hn
  obtain ⟨f, hf⟩ : ∃ f : Nat → FV, f = fun i => fmul (at_ zs i) (fcls k) := ⟨_, rfl⟩
  rw [← hf]
  have Hfd := Lib.hid hf
  clear hf
  go_enter Try.func65, Try.ntmps65
  go_wp2
  go_loopw [5, 10] (fun v i wr => ∃ j : Nat, j ≤ n ∧ i = .int .i64 j ∧ Grew w wr ∧ SliceOf 22 w.heap.size wr v j f) (fun _ i _ => n - (intOf i).toNat)
  case atStart => exact ⟨0, Nat.zero_le _, rfl, Grew.refl _, [], rfl, OwnF.nil _ _ _, fun i h => by omega⟩
  case round =>
    obtain ⟨j, hj, rfl, hg, xs, hl, hown, ha⟩ := hrel
    have Hl := Lib.hid hl
    have Ha := Lib.hid ha
    clear hl ha
    by_cases hlt : j < n
    · obtain ⟨z, hz, kz⟩ := (Hf.out.grew hg).get j (by rw [← Hn.out]; exact hlt)
      have hlt' : decide ((j : Int) < (n : Int)) = true := by simp; omega
      go_wp2_with (first | (refine wpList_fop rfl rfl rfl rfl rfl ?_; intro r n hr) | (at_builtin; go_must (refine wpList_app1 (xs := xs) (B := w.heap.size) (g := wr.heap.size) (y := r) (c := 1) rfl rfl Try.underlying33 hi hz0 hz1 hz2 rfl ?hown rfl ?hy ?hlen ?hbase ?_); exact hown.grew (by repeat (first | exact Grew.refl _ | assumption | refine Grew.drewN ?_ _ | refine Grew.drew ?_ | refine Grew.alloc ?_ _ | refine Grew.setCell ?_ (by simp; try omega) _ | refine Grew.trans ?_ (by assumption))); go_simp; (have hxl := Hl.out; omega); (have hgs := Below.size hg; simp; omega); intro v' w' hown' hgrow))
      go_roundw
      case rel => exact ⟨j + 1, by omega, by go_num, Grew.grown (Grew.trans hg (by repeat (first | exact Grew.refl _ | assumption | refine Grew.drewN ?_ _ | refine Grew.drew ?_ | refine Grew.alloc ?_ _ | refine Grew.setCell ?_ (by simp; try omega) _ | refine Grew.trans ?_ (by assumption)))) hgrow (fun b hb => (hown.lt hb).1), SliceOf.snoc Hl.out hown' Ha.out (by rw [hr, kz, Hfd.out]; rfl)⟩
      case measure => simp [intOf]; omega
    · have hjn : j = n := by omega
      subst hjn
      have hlt' : decide ((j : Int) < (j : Int)) = false := by simp
      go_wp2
      go_ret
      exact ⟨_, rfl, ⟨xs, Hl.out, hown, Ha.out⟩, hg⟩
/-- The greatest of the first k that are numbers. -/
def whiteTo (zs : List Nat) : Nat → FV
  | 0 => fzero
  | k + 1 => if flt (whiteTo zs k) (at_ zs k) && isFin (at_ zs k) then at_ zs k else whiteTo zs k
def whiteOf (zs : List Nat) : FV := if feq (whiteTo zs zs.length) fzero then fone else whiteTo zs zs.length
set_option maxHeartbeats 400000 in
theorem c66 (b off cap : Nat) (zs : List Nat) (w : World) (hlen : zs.length ≤ 1048576) (hfl : FloatsAt w b off zs) : Calls Try.prog 66 #[.slice (some ⟨b, off, none⟩) zs.length cap] w (RetQ (isF (whiteOf zs)) w) := by
  have Hf := Lib.hid hfl
  clear hfl
  obtain ⟨n, hn⟩ : ∃ n, n = zs.length := ⟨_, rfl⟩
  have Hn := Lib.hid hn
  rw [← hn] at hlen ⊢
  clear hn
  obtain ⟨o, ho⟩ : ∃ o, o = whiteOf zs := ⟨_, rfl⟩
  rw [← ho]
  have Ho := Lib.hid (show o = if feq (whiteTo zs n) fzero then fone else whiteTo zs n by rw [ho, Hn.out]; rfl)
  clear ho
  obtain ⟨W, hW⟩ : ∃ W, W = whiteTo zs := ⟨_, rfl⟩
  have HW := Lib.hid hW
  clear hW
  go_enter Try.func66, Try.ntmps66
  go_wp2
  go_loopw [3, 8] (fun c i wr => ∃ k m x : Nat, k ≤ n ∧ i = .int .i64 k ∧ c = .float .f64 x ∧ fcls x = W k ∧ wr = w.drewN m) (fun _ i _ => n - (intOf i).toNat)
  case atStart => exact ⟨0, 0, 0, Nat.zero_le _, rfl, rfl, by rw [HW.out]; rfl, rfl⟩
  case round =>
    obtain ⟨k, m, x, hk, rfl, rfl, hx, rfl⟩ := hrel
    by_cases hlt : k < n
    · obtain ⟨z, hz, kz⟩ := Hf.out.get k (by rw [← Hn.out]; exact hlt)
      have hlt' : decide ((k : Int) < (n : Int)) = true := by simp; omega
      have HS := Lib.hid (show W (k + 1) = if flt (W k) (at_ zs k) && isFin (at_ zs k) then at_ zs k else W k by rw [HW.out]; rfl)
      go_wp2_with (go_at_call 67; refine (c67 _ _).mono ?_; rintro e w1 ⟨_, n', rfl, rfl, rfl⟩)
      all_goals
        go_roundw
        case rel => exact ⟨k + 1, _, _, by omega, by go_num, rfl, by rw [HS.out]; simp_all, rfl⟩
        case measure => simp [intOf]; omega
    · have hkn : k = n := by omega
      subst hkn
      have hlt' : decide ((k : Int) < (k : Int)) = false := by simp
      go_wp2
      all_goals
        go_ret
        exact retq_drewN (isF_of (by rw [Ho.out, ← HW.out]; simp_all))
end Go.Proofs.Ytfcholpgebcooaa
