/- A curve's search. -/
import Derived.Test.YtfcholpgebcooaaT43a
namespace Go.Proofs.Ytfcholpgebcooaa
open Go.RowKit
set_option linter.unusedSimpArgs false
set_option linter.unusedVariables false

/-- A curve in memory: a cell that holds a list of ends that rise. -/
def CurveAt (w : World) (p b off cap : Nat) (zs : List Nat) : Prop := w.cell? ⟨p, 0, none⟩ = some (.slice (some ⟨b, off, none⟩) zs.length cap) ∧ FloatsAt w b off zs
theorem CurveAt.grew {w w' : World} {p b off cap : Nat} {zs : List Nat} (h : CurveAt w p b off cap zs) (hg : Grew w w') : CurveAt w' p b off cap zs := ⟨hg.cell h.1, h.2.grew hg⟩
set_option maxHeartbeats 1000000 in
theorem c21 (p b off cap x : Nat) (zs : List Nat) (w : World) (hlen : zs.length ≤ 1099511627776) (hr : Rises zs zs.length) (hcv : CurveAt w p b off cap zs) : Calls Try.prog 21 #[.pointer (some ⟨p, 0, none⟩), .float .f64 x] w (Ret (isI (cntTo zs (fcls x) zs.length)) w) := by
  obtain ⟨hp0, hfl⟩ := hcv
  have Hf := Lib.hid hfl
  clear hfl
  have Hr := Lib.hid hr
  clear hr
  have hpw : p < w.heap.size := World.block_lt_of_cell? w _ hp0
  obtain ⟨n, hn⟩ : ∃ n, n = zs.length := ⟨_, rfl⟩
  have Hn := Lib.hid hn
  rw [← hn] at hlen hp0 ⊢
  clear hn
  go_enter Try.func21, Try.ntmps21
  go_wp2_with fail
  go_step3
  go_wp2_with fail
  apply wp_region_pure 7 [isV _, isV _, isV _, isV _, isV _, isV _, isV _] (by kernel_rfl) (by kernel_rfl)
  case hops =>
    simp only [List.take_succ_cons, List.take_zero, List.map_cons, List.map_nil]
    refine allSteps_cons (fun ν w' hG hd => ?_) ?_
    · simp only [deps_mk, deps_nil, deps_data, deps_chain, deps_guard, deps_phase, deps_text, deps_gc, depFacts_nil, depFacts_cons, factAt_zero, factAt_succ, and_true, isV_eq] at hd
      have hc := (gcell hG).1
      have hf := (gcell hG).2.1
      have hz := (gcell hG).2.2
      refine stepD_plain rfl rfl (fun R hR => ?_)
      unfold Oper.gives
      go_simp
      exact hR _ _ (isV_rfl _) (Grew.refl _)
    refine allSteps_cons (fun ν w' hG hd => ?_) ?_
    · simp only [deps_mk, deps_nil, deps_data, deps_chain, deps_guard, deps_phase, deps_text, deps_gc, depFacts_nil, depFacts_cons, factAt_zero, factAt_succ, and_true, isV_eq] at hd
      have hc := (gcell hG).1
      have hf := (gcell hG).2.1
      have hz := (gcell hG).2.2
      refine stepD_plain rfl rfl (fun R hR => ?_)
      unfold Oper.gives
      go_simp
      exact hR _ _ (isV_rfl _) (Grew.refl _)
    refine allSteps_cons (fun ν w' hG hd => ?_) ?_
    · simp only [deps_mk, deps_nil, deps_data, deps_chain, deps_guard, deps_phase, deps_text, deps_gc, depFacts_nil, depFacts_cons, factAt_zero, factAt_succ, and_true, isV_eq] at hd
      have hc := (gcell hG).1
      have hf := (gcell hG).2.1
      have hz := (gcell hG).2.2
      refine stepD_plain rfl rfl (fun R hR => ?_)
      unfold Oper.gives
      go_simp
      exact hR _ _ (isV_rfl _) (Grew.refl _)
    refine allSteps_cons (fun ν w' hG hd => ?_) ?_
    · simp only [deps_mk, deps_nil, deps_data, deps_chain, deps_guard, deps_phase, deps_text, deps_gc, depFacts_nil, depFacts_cons, factAt_zero, factAt_succ, and_true, isV_eq] at hd
      have hc := (gcell hG).1
      have hf := (gcell hG).2.1
      have hz := (gcell hG).2.2
      refine stepD_plain rfl rfl (fun R hR => ?_)
      unfold Oper.gives
      go_simp
      exact hR _ _ (isV_rfl _) (Grew.refl _)
    refine allSteps_cons (fun ν w' hG hd => ?_) ?_
    · simp only [deps_mk, deps_nil, deps_data, deps_chain, deps_guard, deps_phase, deps_text, deps_gc, depFacts_nil, depFacts_cons, factAt_zero, factAt_succ, and_true, isV_eq] at hd
      have hc := (gcell hG).1
      have hf := (gcell hG).2.1
      have hz := (gcell hG).2.2
      refine stepD_plain rfl rfl (fun R hR => ?_)
      unfold Oper.gives
      go_simp
      exact hR _ _ (isV_rfl _) (Grew.refl _)
    refine allSteps_cons (fun ν w' hG hd => ?_) ?_
    · simp only [deps_mk, deps_nil, deps_data, deps_chain, deps_guard, deps_phase, deps_text, deps_gc, depFacts_nil, depFacts_cons, factAt_zero, factAt_succ, and_true, isV_eq] at hd
      have hc := (gcell hG).1
      have hf := (gcell hG).2.1
      have hz := (gcell hG).2.2
      refine stepD_plain rfl rfl (fun R hR => ?_)
      unfold Oper.gives
      go_simp
      exact hR _ _ (isV_rfl _) (Grew.refl _)
    refine allSteps_cons (fun ν w' hG hd => ?_) (allSteps_nil _)
    · simp only [deps_mk, deps_nil, deps_data, deps_chain, deps_guard, deps_phase, deps_text, deps_gc, depFacts_nil, depFacts_cons, factAt_zero, factAt_succ, and_true, isV_eq] at hd
      have hc := (gcell hG).1
      have hf := (gcell hG).2.1
      have hz := (gcell hG).2.2
      refine stepD_plain rfl rfl (fun R hR => ?_)
      unfold Oper.gives
      go_simp
      exact hR _ _ (isV_rfl _) (Grew.refl _)
  case hQ =>
    intro ν w' hG hd
    simp only [List.take_succ_cons, List.take_zero, List.map_cons, List.map_nil, List.drop_succ_cons, List.drop_zero, List.range, List.range.loop, depFacts_nil, depFacts_cons, factAt_zero, factAt_succ, and_true, isV_eq] at hd ⊢
    simp only [frameD_cons, frameD_nil, List.getD_cons_zero, List.getD_cons_succ, Act.put, hd, List.setIfInBounds_toArray, List.set_cons_zero, List.set_cons_succ]
    clear hd
    have hc := (gcell hG).1
    have hf := (gcell hG).2.1
    have hz := (gcell hG).2.2
    have hpw' : p < w'.heap.size := by omega
    go_wp2_with fail
    go_step3
    go_wp2_with fail
    go_loop [5, 6] (fun l h => ∃ lo hi : Nat, lo ≤ hi ∧ hi ≤ n ∧ l = .int .i64 lo ∧ h = .int .i64 hi ∧ (∀ i, i < lo → fle (at_ zs i) (fcls x) = true) ∧ (∀ i, hi ≤ i → i < n → fle (at_ zs i) (fcls x) = false)) (fun l h => (intOf h).toNat - (intOf l).toNat)
    case atStart => exact ⟨0, n, Nat.zero_le _, Nat.le_refl _, rfl, rfl, fun i h => by omega, fun i h h' => by omega⟩
    case round =>
      obtain ⟨lo, hi, h1, h2, rfl, rfl, k1, k2⟩ := hrel
      have K1 := Lib.hid k1
      have K2 := Lib.hid k2
      clear k1 k2
      obtain ⟨mid, hmid⟩ : ∃ mid : Nat, ((lo : Int) + (hi : Int)) / 2 = (mid : Int) := ⟨(lo + hi) / 2, by omega⟩
      by_cases hlt : lo < hi
      · have m1 : lo ≤ mid := by omega
        have m2 : mid < hi := by omega
        have m3 : mid < n := by omega
        have hge : decide ((hi : Int) ≤ (lo : Int)) = false := by simp; omega
        obtain ⟨z, hz', kz⟩ := (Hf.out.grew hG).get mid (by rw [← Hn.out]; exact m3)
        cases hle : fle (at_ zs mid) (fcls x)
        · go_wp2_with fail
          go_round
          case rel => exact ⟨lo, mid, by omega, by omega, rfl, by rw [hmid], K1.out, fun i h h' => fle_above (fcls_ok x) (by rw [Hn.out]; exact Hr.out) h h' hle⟩
          case measure => simp [intOf]; omega
        · go_wp2_with fail
          go_round
          case rel => exact ⟨mid + 1, hi, by omega, by omega, by go_num, rfl, fun i h => fle_below (fcls_ok x) (by rw [Hn.out]; exact Hr.out) (by omega) m3 hle, K2.out⟩
          case measure => simp [intOf]; omega
      · have hge : decide ((hi : Int) ≤ (lo : Int)) = true := by simp; omega
        go_wp2_with fail
        go_ret
        have he : lo = hi := by omega
        subst he
        exact ret_of (isI_of (by rw [cnt_split h2 K1.out K2.out])) (by repeat (first | exact Grew.refl _ | assumption | refine Grew.drewN ?_ _ | refine Grew.drew ?_ | refine Grew.alloc ?_ _ | refine Grew.setCell ?_ (by simp; try omega) _ | refine Grew.trans ?_ (by assumption)))
end Go.Proofs.Ytfcholpgebcooaa
