/- The statement's own walk: the mean of many plays. -/
import Derived.Test.YtfcholpgebcooaaC26f
import Derived.IntWalk
namespace Go.Proofs.Ytfcholpgebcooaa
open Go.RowKit
set_option linter.unusedSimpArgs false
set_option linter.unusedVariables false

theorem mean_zero (c : RGBv) (k : Int) {n : Int} (h : n < 1 ∨ 4096 < n) : meanOf c k n = ⟨fzero, fzero, fzero⟩ := by unfold meanOf; rw [if_pos h]; rfl
theorem zeros_eq : rEq ⟨fzero, fzero, fzero⟩ ⟨fcls 0, fcls 0, fcls 0⟩ = true := by decide +kernel
theorem rsame_of {x y z p q r : Nat} {c : RGBv} (h1 : fcls x = c.r) (h2 : fcls y = c.g) (h3 : fcls z = c.b) (k1 : fcls p = c.r) (k2 : fcls q = c.g) (k3 : fcls r = c.b) : rsame ⟨fcls x, fcls y, fcls z⟩ ⟨fcls p, fcls q, fcls r⟩ = true := by
  rw [h1, h2, h3, k1, k2, k3]; exact rsame_refl _
def LawInv (w : World) (S B : Nat) (a b c : Nat) (s : RGBv) (wr : World) : Prop := Grew w wr ∧ B < wr.heap.size ∧ S < wr.heap.size ∧ RGBAt S s wr ∧
  wr.cell? ⟨B, 0, none⟩ = some (.float .f64 a) ∧ wr.cell? ⟨B, 1, none⟩ = some (.float .f64 b) ∧ wr.cell? ⟨B, 2, none⟩ = some (.float .f64 c)
set_option maxHeartbeats 4000000 in
theorem c3 (a b c : Nat) (k : Int) (m : Nat) (w : World) (hm : m ≤ 255) : Calls Try.prog 3 #[.agg #[.float .f64 a, .float .f64 b, .float .f64 c], .int .i64 k, .int .u8 m] w (Ret (isB true) w) := by
  go_enter Try.func3, Try.ntmps3
  go_wp2_with fail
  go_loopw [9] (fun i wr => ∃ j : Nat, j ≤ m ∧ i = .int .i64 j ∧ LawInv w (w.heap.size + 1) w.heap.size a b c (sumTo ⟨fcls a, fcls b, fcls c⟩ k m j) wr) (fun i _ => m - (intOf i).toNat)
  case atStart =>
    refine ⟨0, Nat.zero_le _, rfl, (by repeat (first | exact Grew.refl _ | assumption | refine Grew.drewN ?_ _ | refine Grew.drew ?_ | refine Grew.alloc ?_ _ | refine Grew.setCell ?_ (by simp; try omega) _ | refine Grew.trans ?_ (by assumption))), by simp; omega, by simp, ⟨0, 0, 0, ?_⟩, ?_⟩
    · simp only [sumTo]
      refine ⟨?_, ?_, ?_, rfl, rfl, rfl, ?_, ?_, ?_⟩ <;> go_simp
    · refine ⟨?_, ?_, ?_⟩ <;> go_simp
  case round =>
    obtain ⟨j, hj, rfl, hg, hB, hS, ⟨x, y, z, s0, s1, s2, sx, sy, sz, f0, f1, f2⟩, d1, d2, d3⟩ := hrel
    by_cases hlt : j < m
    · have hlt' : decide ((j : Int) < (m : Int)) = true := by simp; omega
      go_wp2_with (first | (refine wpList_fop rfl rfl rfl rfl rfl ?_; intro r n hr) | (go_at_call 12; refine (c12 _ _ _ _ _ _).mono ?_; rintro e w2 ⟨_, rfl, ⟨_, _, rfl, ⟨px, py, pz, rfl, hpx, hpy, hpz⟩, rfl⟩, hg2⟩; obtain ⟨hc2, hf2, hz2⟩ := gcell hg2; simp only [World.heap_drewN] at hc2 hf2 hz2; have z3 : w.heap.size + 1 < w2.heap.size := (by omega); have z4 : w.heap.size < w2.heap.size := (by omega)) | (go_at_call 13; refine (c13 _ _ _ _ _ _ _).mono ?_; rintro e w3 ⟨_, rfl, ⟨nx, ny, nz, rfl, hnx, hny, hnz⟩, hg3⟩; obtain ⟨hc3, hf3, hz3⟩ := gcell hg3; simp only [World.size_alloc] at hc3 hf3 hz3; have y3 : w.heap.size + 1 < w2.heap.size + 1 := (by omega); have y4 : w.heap.size < w2.heap.size + 1 := (by omega); have y5 : w.heap.size + 1 < w3.heap.size := (by omega); have y6 : w.heap.size < w3.heap.size := (by omega)))
      go_roundw
      case rel =>
        refine ⟨j + 1, by omega, by go_num, ?_, ?_, ?_, ⟨nx, ny, nz, ?_, ?_, ?_, ?_, ?_, ?_, ?_, ?_, ?_⟩, ?_, ?_, ?_⟩
        · exact (by repeat (first | exact Grew.refl _ | assumption | refine Grew.drewN ?_ _ | refine Grew.drew ?_ | refine Grew.alloc ?_ _ | refine Grew.setCell ?_ (by simp; try omega) _ | refine Grew.trans ?_ (by assumption)))
        · simp; omega
        · simp; omega
        case refine_7 => rw [hnx]; simp only [rAdd, sumTo]; rw [sx, hpx]; simp [*, fop, fint]
        case refine_8 => rw [hny]; simp only [rAdd, sumTo]; rw [sy, hpy]; simp [*, fop, fint]
        case refine_9 => rw [hnz]; simp only [rAdd, sumTo]; rw [sz, hpz]; simp [*, fop, fint]
        all_goals go_simp
      case measure => simp [intOf]; omega
    · have hjn : j = m := by omega
      subst hjn
      have hlt' : decide ((j : Int) < (j : Int)) = false := by simp
      have ez := zeros_eq
      by_cases h0 : j = 0
      · subst h0
        have hw1 := Lib.hid (show fcls 0 = (meanOf ⟨fcls a, fcls b, fcls c⟩ k (0 : Nat)).r by rw [mean_zero _ _ (.inl (by omega))])
        have hw2 := Lib.hid (show fcls 0 = (meanOf ⟨fcls a, fcls b, fcls c⟩ k (0 : Nat)).g by rw [mean_zero _ _ (.inl (by omega))])
        have hw3 := Lib.hid (show fcls 0 = (meanOf ⟨fcls a, fcls b, fcls c⟩ k (0 : Nat)).b by rw [mean_zero _ _ (.inl (by omega))])
        clear s0 s1 s2 sx sy sz f0 f1 f2
        go_wp2_with fail
        apply wp_region_pure 28 [isV (.bool true), isV _, isV _, isV _, isV _, isRGB (meanOf ⟨fcls a, fcls b, fcls c⟩ k (0 : Nat)), isV _, isV (.bool true), isV _, isV _, isV _, isV _, isV _, isV _, isRGB ⟨fzero, fzero, fzero⟩, isV _, isV _, isV _, isV _, isV _, isV _, isV _, isV _, isRGB ⟨fzero, fzero, fzero⟩, isV _, isV _, isV _, isV _] (by kernel_rfl) (by kernel_rfl)
        case hops =>
          simp only [List.take_succ_cons, List.take_zero, List.map_cons, List.map_nil]
          refine allSteps_cons (fun ν w' hG hd => ?_) ?_
          · simp only [deps_mk, deps_nil, deps_data, deps_chain, deps_guard, deps_phase, deps_text, deps_gc, depFacts_nil, depFacts_cons, factAt_zero, factAt_succ, and_true, isV_eq] at hd
            have hc := (gcell hG).1
            have hf := (gcell hG).2.1
            have hz := (gcell hG).2.2
            refine stepD_plain rfl rfl (fun R hR => ?_)
            unfold Oper.gives
            go_simp
            refine (c15 _).mono ?_
            rintro e w2 ⟨v, rfl, hv, hg⟩
            exact ⟨v, rfl, hR _ _ hv hg⟩
          refine allSteps_cons (fun ν w' hG hd => ?_) ?_
          · simp only [deps_mk, deps_nil, deps_data, deps_chain, deps_guard, deps_phase, deps_text, deps_gc, depFacts_nil, depFacts_cons, factAt_zero, factAt_succ, and_true, isV_eq] at hd
            have hc := (gcell hG).1
            have hf := (gcell hG).2.1
            have hz := (gcell hG).2.2
            refine stepD_plain rfl rfl (fun R hR => ?_)
            unfold Oper.gives
            go_simp
            exact hR _ _ (isV_rfl _) (Grew.refl _)
          refine allSteps_cons (fun ν w' hG hd => ?_) ?_
          · simp only [deps_mk, deps_nil, deps_data, deps_chain, deps_guard, deps_phase, deps_text, deps_gc, depFacts_nil, depFacts_cons, factAt_zero, factAt_succ, and_true, isV_eq] at hd
            have hc := (gcell hG).1
            have hf := (gcell hG).2.1
            have hz := (gcell hG).2.2
            refine stepD_plain rfl (by simp [wantedD, go_sem, *]) (fun R hR => ?_)
            unfold Oper.gives
            go_simp
            exact hR _ _ (isV_rfl _) (Grew.refl _)
          refine allSteps_cons (fun ν w' hG hd => ?_) ?_
          · simp only [deps_mk, deps_nil, deps_data, deps_chain, deps_guard, deps_phase, deps_text, deps_gc, depFacts_nil, depFacts_cons, factAt_zero, factAt_succ, and_true, isV_eq] at hd
            have hc := (gcell hG).1
            have hf := (gcell hG).2.1
            have hz := (gcell hG).2.2
            refine stepD_plain rfl (by simp [wantedD, go_sem, *]) (fun R hR => ?_)
            unfold Oper.gives
            go_simp
            exact hR _ _ (isV_rfl _) (Grew.refl _)
          refine allSteps_cons (fun ν w' hG hd => ?_) ?_
          · simp only [deps_mk, deps_nil, deps_data, deps_chain, deps_guard, deps_phase, deps_text, deps_gc, depFacts_nil, depFacts_cons, factAt_zero, factAt_succ, and_true, isV_eq] at hd
            have hc := (gcell hG).1
            have hf := (gcell hG).2.1
            have hz := (gcell hG).2.2
            refine stepD_plain rfl (by simp [wantedD, go_sem, *]) (fun R hR => ?_)
            unfold Oper.gives
            go_simp
            exact hR _ _ (isV_rfl _) (Grew.refl _)
          refine allSteps_cons (fun ν w' hG hd => ?_) ?_
          · simp only [deps_mk, deps_nil, deps_data, deps_chain, deps_guard, deps_phase, deps_text, deps_gc, depFacts_nil, depFacts_cons, factAt_zero, factAt_succ, and_true, isV_eq] at hd
            have hc := (gcell hG).1
            have hf := (gcell hG).2.1
            have hz := (gcell hG).2.2
            refine stepD_plain rfl (by simp [wantedD, go_sem, *]) (fun R hR => ?_)
            unfold Oper.gives
            go_simp
            refine (c17_bad _ _ _ _ _ _ (.inl (by omega))).mono ?_
            rintro e w2 ⟨v, rfl, hv, hg⟩
            exact ⟨v, rfl, hR _ _ hv hg⟩
          refine allSteps_cons (fun ν w' hG hd => ?_) ?_
          · simp only [deps_mk, deps_nil, deps_data, deps_chain, deps_guard, deps_phase, deps_text, deps_gc, depFacts_nil, depFacts_cons, factAt_zero, factAt_succ, and_true, isV_eq] at hd
            have hc := (gcell hG).1
            have hf := (gcell hG).2.1
            have hz := (gcell hG).2.2
            refine stepD_plain rfl (by simp [wantedD, go_sem, *]) (fun R hR => ?_)
            unfold Oper.gives
            go_simp
            exact hR _ _ (isV_rfl _) (Grew.refl _)
          refine allSteps_cons (fun ν w' hG hd => ?_) ?_
          · simp only [deps_mk, deps_nil, deps_data, deps_chain, deps_guard, deps_phase, deps_text, deps_gc, depFacts_nil, depFacts_cons, factAt_zero, factAt_succ, and_true, isV_eq] at hd
            obtain ⟨x5a, x5b, x5c, h5, k5a, k5b, k5c⟩ := hd.1
            have hc := (gcell hG).1
            have hf := (gcell hG).2.1
            have hz := (gcell hG).2.2
            refine stepD_plain rfl (by simp [wantedD, go_sem, *]) (fun R hR => ?_)
            unfold Oper.gives
            go_simp
            refine (c16 _ _ _ _ _ _ _).mono ?_
            rintro e w2 ⟨v, rfl, hv, hg⟩
            rw [rsame_of k5a k5b k5c hw1.out hw2.out hw3.out] at hv
            exact ⟨v, rfl, hR _ _ hv hg⟩
          refine allSteps_cons (fun ν w' hG hd => ?_) ?_
          · simp only [deps_mk, deps_nil, deps_data, deps_chain, deps_guard, deps_phase, deps_text, deps_gc, depFacts_nil, depFacts_cons, factAt_zero, factAt_succ, and_true, isV_eq] at hd
            have hc := (gcell hG).1
            have hf := (gcell hG).2.1
            have hz := (gcell hG).2.2
            refine stepD_plain rfl rfl (fun R hR => ?_)
            unfold Oper.gives
            go_simp
            exact hR _ _ (isV_rfl _) (Grew.refl _)
          refine allSteps_cons (fun ν w' hG hd => ?_) ?_
          · simp only [deps_mk, deps_nil, deps_data, deps_chain, deps_guard, deps_phase, deps_text, deps_gc, depFacts_nil, depFacts_cons, factAt_zero, factAt_succ, and_true, isV_eq] at hd
            have hc := (gcell hG).1
            have hf := (gcell hG).2.1
            have hz := (gcell hG).2.2
            refine stepD_plain rfl rfl (fun R hR => ?_)
            unfold Oper.gives
            go_simp
            exact hR _ _ (isV_rfl _) (Grew.refl _)
          refine allSteps_cons (fun ν w' hG hd => ?_) ?_
          · simp only [deps_mk, deps_nil, deps_data, deps_chain, deps_guard, deps_phase, deps_text, deps_gc, depFacts_nil, depFacts_cons, factAt_zero, factAt_succ, and_true, isV_eq] at hd
            have hc := (gcell hG).1
            have hf := (gcell hG).2.1
            have hz := (gcell hG).2.2
            refine stepD_plain rfl (by simp [wantedD, go_sem, *]) (fun R hR => ?_)
            unfold Oper.gives
            go_simp
            exact hR _ _ (isV_rfl _) (Grew.refl _)
          refine allSteps_cons (fun ν w' hG hd => ?_) ?_
          · simp only [deps_mk, deps_nil, deps_data, deps_chain, deps_guard, deps_phase, deps_text, deps_gc, depFacts_nil, depFacts_cons, factAt_zero, factAt_succ, and_true, isV_eq] at hd
            have hc := (gcell hG).1
            have hf := (gcell hG).2.1
            have hz := (gcell hG).2.2
            refine stepD_plain rfl (by simp [wantedD, go_sem, *]) (fun R hR => ?_)
            unfold Oper.gives
            go_simp
            exact hR _ _ (isV_rfl _) (Grew.refl _)
          refine allSteps_cons (fun ν w' hG hd => ?_) ?_
          · simp only [deps_mk, deps_nil, deps_data, deps_chain, deps_guard, deps_phase, deps_text, deps_gc, depFacts_nil, depFacts_cons, factAt_zero, factAt_succ, and_true, isV_eq] at hd
            have hc := (gcell hG).1
            have hf := (gcell hG).2.1
            have hz := (gcell hG).2.2
            refine stepD_plain rfl (by simp [wantedD, go_sem, *]) (fun R hR => ?_)
            unfold Oper.gives
            go_simp
            exact hR _ _ (isV_rfl _) (Grew.refl _)
          refine allSteps_cons (fun ν w' hG hd => ?_) ?_
          · simp only [deps_mk, deps_nil, deps_data, deps_chain, deps_guard, deps_phase, deps_text, deps_gc, depFacts_nil, depFacts_cons, factAt_zero, factAt_succ, and_true, isV_eq] at hd
            have hc := (gcell hG).1
            have hf := (gcell hG).2.1
            have hz := (gcell hG).2.2
            refine stepD_plain rfl (by simp [wantedD, go_sem, *]) (fun R hR => ?_)
            unfold Oper.gives
            go_simp
            exact hR _ _ (isV_rfl _) (Grew.refl _)
          refine allSteps_cons (fun ν w' hG hd => ?_) ?_
          · simp only [deps_mk, deps_nil, deps_data, deps_chain, deps_guard, deps_phase, deps_text, deps_gc, depFacts_nil, depFacts_cons, factAt_zero, factAt_succ, and_true, isV_eq] at hd
            have hc := (gcell hG).1
            have hf := (gcell hG).2.1
            have hz := (gcell hG).2.2
            refine stepD_plain rfl (by simp [wantedD, go_sem, *]) (fun R hR => ?_)
            unfold Oper.gives
            go_simp
            refine (c17_bad _ _ _ _ _ _ (.inl (by decide))).mono ?_
            rintro e w2 ⟨v, rfl, hv, hg⟩
            rw [mean_zero _ _ (.inl (by decide))] at hv
            exact ⟨v, rfl, hR _ _ hv hg⟩
          refine allSteps_cons (fun ν w' hG hd => ?_) ?_
          · simp only [deps_mk, deps_nil, deps_data, deps_chain, deps_guard, deps_phase, deps_text, deps_gc, depFacts_nil, depFacts_cons, factAt_zero, factAt_succ, and_true, isV_eq] at hd
            have hc := (gcell hG).1
            have hf := (gcell hG).2.1
            have hz := (gcell hG).2.2
            refine stepD_plain rfl (by simp [wantedD, go_sem, *]) (fun R hR => ?_)
            unfold Oper.gives
            go_simp
            exact hR _ _ (isV_rfl _) (Grew.refl _)
          refine allSteps_cons (fun ν w' hG hd => ?_) ?_
          · simp only [deps_mk, deps_nil, deps_data, deps_chain, deps_guard, deps_phase, deps_text, deps_gc, depFacts_nil, depFacts_cons, factAt_zero, factAt_succ, and_true, isV_eq] at hd
            obtain ⟨x14a, x14b, x14c, h14, k14a, k14b, k14c⟩ := hd.1
            have hc := (gcell hG).1
            have hf := (gcell hG).2.1
            have hz := (gcell hG).2.2
            refine stepD_plain rfl (by simp [wantedD, go_sem, *]) (fun R hR => ?_)
            unfold Oper.gives
            go_simp
            exact hR _ _ (isV_rfl _) (Grew.refl _)
          refine allSteps_cons (fun ν w' hG hd => ?_) ?_
          · simp only [deps_mk, deps_nil, deps_data, deps_chain, deps_guard, deps_phase, deps_text, deps_gc, depFacts_nil, depFacts_cons, factAt_zero, factAt_succ, and_true, isV_eq] at hd
            have hc := (gcell hG).1
            have hf := (gcell hG).2.1
            have hz := (gcell hG).2.2
            refine stepD_plain rfl rfl (fun R hR => ?_)
            unfold Oper.gives
            go_simp
            exact hR _ _ (isV_rfl _) (Grew.refl _)
          refine allSteps_cons (fun ν w' hG hd => ?_) ?_
          · simp only [deps_mk, deps_nil, deps_data, deps_chain, deps_guard, deps_phase, deps_text, deps_gc, depFacts_nil, depFacts_cons, factAt_zero, factAt_succ, and_true, isV_eq] at hd
            obtain ⟨x14a, x14b, x14c, h14, k14a, k14b, k14c⟩ := hd.2
            have hc := (gcell hG).1
            have hf := (gcell hG).2.1
            have hz := (gcell hG).2.2
            refine stepD_plain rfl rfl (fun R hR => ?_)
            unfold Oper.gives
            go_simp
            exact hR _ _ (isV_rfl _) (Grew.refl _)
          refine allSteps_cons (fun ν w' hG hd => ?_) ?_
          · simp only [deps_mk, deps_nil, deps_data, deps_chain, deps_guard, deps_phase, deps_text, deps_gc, depFacts_nil, depFacts_cons, factAt_zero, factAt_succ, and_true, isV_eq] at hd
            have hc := (gcell hG).1
            have hf := (gcell hG).2.1
            have hz := (gcell hG).2.2
            refine stepD_plain rfl (by simp [wantedD, go_sem, *]) (fun R hR => ?_)
            unfold Oper.gives
            go_simp
            exact hR _ _ (isV_rfl _) (Grew.refl _)
          refine allSteps_cons (fun ν w' hG hd => ?_) ?_
          · simp only [deps_mk, deps_nil, deps_data, deps_chain, deps_guard, deps_phase, deps_text, deps_gc, depFacts_nil, depFacts_cons, factAt_zero, factAt_succ, and_true, isV_eq] at hd
            have hc := (gcell hG).1
            have hf := (gcell hG).2.1
            have hz := (gcell hG).2.2
            refine stepD_plain rfl (by simp [wantedD, go_sem, *]) (fun R hR => ?_)
            unfold Oper.gives
            go_simp
            exact hR _ _ (isV_rfl _) (Grew.refl _)
          refine allSteps_cons (fun ν w' hG hd => ?_) ?_
          · simp only [deps_mk, deps_nil, deps_data, deps_chain, deps_guard, deps_phase, deps_text, deps_gc, depFacts_nil, depFacts_cons, factAt_zero, factAt_succ, and_true, isV_eq] at hd
            have hc := (gcell hG).1
            have hf := (gcell hG).2.1
            have hz := (gcell hG).2.2
            refine stepD_plain rfl (by simp [wantedD, go_sem, *]) (fun R hR => ?_)
            unfold Oper.gives
            go_simp
            exact hR _ _ (isV_rfl _) (Grew.refl _)
          refine allSteps_cons (fun ν w' hG hd => ?_) ?_
          · simp only [deps_mk, deps_nil, deps_data, deps_chain, deps_guard, deps_phase, deps_text, deps_gc, depFacts_nil, depFacts_cons, factAt_zero, factAt_succ, and_true, isV_eq] at hd
            have hc := (gcell hG).1
            have hf := (gcell hG).2.1
            have hz := (gcell hG).2.2
            refine stepD_plain rfl (by simp [wantedD, go_sem, *]) (fun R hR => ?_)
            unfold Oper.gives
            go_simp
            exact hR _ _ (isV_rfl _) (Grew.refl _)
          refine allSteps_cons (fun ν w' hG hd => ?_) ?_
          · simp only [deps_mk, deps_nil, deps_data, deps_chain, deps_guard, deps_phase, deps_text, deps_gc, depFacts_nil, depFacts_cons, factAt_zero, factAt_succ, and_true, isV_eq] at hd
            have hc := (gcell hG).1
            have hf := (gcell hG).2.1
            have hz := (gcell hG).2.2
            refine stepD_plain rfl (by simp [wantedD, go_sem, *]) (fun R hR => ?_)
            unfold Oper.gives
            go_simp
            refine (c17_bad _ _ _ _ _ _ (.inr (by decide))).mono ?_
            rintro e w2 ⟨v, rfl, hv, hg⟩
            rw [mean_zero _ _ (.inr (by decide))] at hv
            exact ⟨v, rfl, hR _ _ hv hg⟩
          refine allSteps_cons (fun ν w' hG hd => ?_) ?_
          · simp only [deps_mk, deps_nil, deps_data, deps_chain, deps_guard, deps_phase, deps_text, deps_gc, depFacts_nil, depFacts_cons, factAt_zero, factAt_succ, and_true, isV_eq] at hd
            have hc := (gcell hG).1
            have hf := (gcell hG).2.1
            have hz := (gcell hG).2.2
            refine stepD_plain rfl (by simp [wantedD, go_sem, *]) (fun R hR => ?_)
            unfold Oper.gives
            go_simp
            exact hR _ _ (isV_rfl _) (Grew.refl _)
          refine allSteps_cons (fun ν w' hG hd => ?_) ?_
          · simp only [deps_mk, deps_nil, deps_data, deps_chain, deps_guard, deps_phase, deps_text, deps_gc, depFacts_nil, depFacts_cons, factAt_zero, factAt_succ, and_true, isV_eq] at hd
            obtain ⟨x23a, x23b, x23c, h23, k23a, k23b, k23c⟩ := hd.1
            have hc := (gcell hG).1
            have hf := (gcell hG).2.1
            have hz := (gcell hG).2.2
            refine stepD_plain rfl (by simp [wantedD, go_sem, *]) (fun R hR => ?_)
            unfold Oper.gives
            go_simp
            exact hR _ _ (isV_rfl _) (Grew.refl _)
          refine allSteps_cons (fun ν w' hG hd => ?_) ?_
          · simp only [deps_mk, deps_nil, deps_data, deps_chain, deps_guard, deps_phase, deps_text, deps_gc, depFacts_nil, depFacts_cons, factAt_zero, factAt_succ, and_true, isV_eq] at hd
            have hc := (gcell hG).1
            have hf := (gcell hG).2.1
            have hz := (gcell hG).2.2
            refine stepD_plain rfl rfl (fun R hR => ?_)
            unfold Oper.gives
            go_simp
            exact hR _ _ (isV_rfl _) (Grew.refl _)
          refine allSteps_cons (fun ν w' hG hd => ?_) (allSteps_nil _)
          · simp only [deps_mk, deps_nil, deps_data, deps_chain, deps_guard, deps_phase, deps_text, deps_gc, depFacts_nil, depFacts_cons, factAt_zero, factAt_succ, and_true, isV_eq] at hd
            obtain ⟨x23a, x23b, x23c, h23, k23a, k23b, k23c⟩ := hd.2.1
            obtain ⟨x5a, x5b, x5c, h5, k5a, k5b, k5c⟩ := hd.2.2.2.2.2.2.2.1
            obtain ⟨x14a, x14b, x14c, h14, k14a, k14b, k14c⟩ := hd.2.2.2.2.2.2.2.2.2.2.2.2.2.2.2.2.1
            have hc := (gcell hG).1
            have hf := (gcell hG).2.1
            have hz := (gcell hG).2.2
            refine stepD_plain rfl rfl (fun R hR => ?_)
            unfold Oper.gives
            go_simp
            exact hR _ _ (isV_rfl _) (Grew.refl _)
        case hQ =>
          intro ν w' hG hd
          simp only [List.take_succ_cons, List.take_zero, List.map_cons, List.map_nil, List.drop_succ_cons, List.drop_zero, List.range, List.range.loop, depFacts_nil, depFacts_cons, factAt_zero, factAt_succ, and_true, isV_eq] at hd ⊢
          obtain ⟨x5a, x5b, x5c, h5, k5a, k5b, k5c⟩ := hd.2.2.2.2.2.1
          obtain ⟨x14a, x14b, x14c, h14, k14a, k14b, k14c⟩ := hd.2.2.2.2.2.2.2.2.2.2.2.2.2.2.1
          obtain ⟨x23a, x23b, x23c, h23, k23a, k23b, k23c⟩ := hd.2.2.2.2.2.2.2.2.2.2.2.2.2.2.2.2.2.2.2.2.2.2.2.1
          simp only [frameD_cons, frameD_nil, List.getD_cons_zero, List.getD_cons_succ, Act.put, hd, h5, h14, h23, List.setIfInBounds_toArray, List.set_cons_zero, List.set_cons_succ]
          clear hd h5 h14 h23
          have hc := (gcell hG).1
          have hf := (gcell hG).2.1
          have hz := (gcell hG).2.2
          go_wp2
          go_ret
          exact ret_of (isB_of rfl) (by repeat (first | exact Grew.refl _ | assumption | refine Grew.drewN ?_ _ | refine Grew.drew ?_ | refine Grew.alloc ?_ _ | refine Grew.setCell ?_ (by simp; try omega) _ | refine Grew.trans ?_ (by assumption)))
      · have hp' : decide ((0 : Int) < (j : Int)) = true := by simp; omega
        go_wp2_with (first | (refine wpList_fop rfl rfl rfl rfl rfl ?_; intro r n hr) | (go_at_call 14; refine (c14 _ _ _ _ _).mono ?_; rintro e w2 ⟨_, rfl, ⟨px, py, pz, rfl, hpx, hpy, hpz⟩, hg2⟩; obtain ⟨hc2, hf2, hz2⟩ := gcell hg2; simp only [World.heap_drewN, World.size_alloc] at hc2 hf2 hz2; have q1 : w.heap.size < wr.heap.size + 1 := (by omega); have q2 : w.heap.size + 1 < wr.heap.size + 1 := (by omega); have q3 : wr.heap.size < w2.heap.size := (by omega); have q4 : w.heap.size < w2.heap.size := (by omega)))
        have hm' : meanOf ⟨fcls a, fcls b, fcls c⟩ k j = rScale (sumTo ⟨fcls a, fcls b, fcls c⟩ k j j) (fdiv fone (fint j)) := by unfold meanOf; rw [if_neg (by omega)]; rfl
        have hw1 := Lib.hid (show fcls px = (meanOf ⟨fcls a, fcls b, fcls c⟩ k j).r by rw [hpx, hm']; simp only [rScale]; rw [sx]; simp [*, fop, fint])
        have hw2 := Lib.hid (show fcls py = (meanOf ⟨fcls a, fcls b, fcls c⟩ k j).g by rw [hpy, hm']; simp only [rScale]; rw [sy]; simp [*, fop, fint])
        have hw3 := Lib.hid (show fcls pz = (meanOf ⟨fcls a, fcls b, fcls c⟩ k j).b by rw [hpz, hm']; simp only [rScale]; rw [sz]; simp [*, fop, fint])
        clear hpx hpy hpz hm' s0 s1 s2 sx sy sz f0 f1 f2
        have u1 : IntKind.i64.wrap (-1 - (j : Int)) = -1 - j := IntWalk.i64_in _ (by omega)
        have u2 : IntKind.i64.wrap (4097 + (j : Int)) = 4097 + j := IntWalk.i64_in _ (by omega)
        have q5 : ¬ wr.heap.size = w.heap.size := by omega
        apply wp_region_pure 28 [isV (.bool true), isV _, isV _, isV _, isV _, isRGB (meanOf ⟨fcls a, fcls b, fcls c⟩ k j), isV _, isV (.bool true), isV _, isV _, isV _, isV _, isV _, isV _, isRGB ⟨fzero, fzero, fzero⟩, isV _, isV _, isV _, isV _, isV _, isV _, isV _, isV _, isRGB ⟨fzero, fzero, fzero⟩, isV _, isV _, isV _, isV _] (by kernel_rfl) (by kernel_rfl)
        case hops =>
          simp only [List.take_succ_cons, List.take_zero, List.map_cons, List.map_nil]
          refine allSteps_cons (fun ν w' hG hd => ?_) ?_
          · simp only [deps_mk, deps_nil, deps_data, deps_chain, deps_guard, deps_phase, deps_text, deps_gc, depFacts_nil, depFacts_cons, factAt_zero, factAt_succ, and_true, isV_eq] at hd
            have hc := (gcell hG).1
            have hf := (gcell hG).2.1
            have hz := (gcell hG).2.2
            refine stepD_plain rfl rfl (fun R hR => ?_)
            unfold Oper.gives
            go_simp
            refine (c15 _).mono ?_
            rintro e w2 ⟨v, rfl, hv, hg⟩
            exact ⟨v, rfl, hR _ _ hv hg⟩
          refine allSteps_cons (fun ν w' hG hd => ?_) ?_
          · simp only [deps_mk, deps_nil, deps_data, deps_chain, deps_guard, deps_phase, deps_text, deps_gc, depFacts_nil, depFacts_cons, factAt_zero, factAt_succ, and_true, isV_eq] at hd
            have hc := (gcell hG).1
            have hf := (gcell hG).2.1
            have hz := (gcell hG).2.2
            refine stepD_plain rfl rfl (fun R hR => ?_)
            unfold Oper.gives
            go_simp
            exact hR _ _ (isV_rfl _) (Grew.refl _)
          refine allSteps_cons (fun ν w' hG hd => ?_) ?_
          · simp only [deps_mk, deps_nil, deps_data, deps_chain, deps_guard, deps_phase, deps_text, deps_gc, depFacts_nil, depFacts_cons, factAt_zero, factAt_succ, and_true, isV_eq] at hd
            have hc := (gcell hG).1
            have hf := (gcell hG).2.1
            have hz := (gcell hG).2.2
            refine stepD_plain rfl (by simp [wantedD, go_sem, *]) (fun R hR => ?_)
            unfold Oper.gives
            go_simp
            exact hR _ _ (isV_rfl _) (Grew.refl _)
          refine allSteps_cons (fun ν w' hG hd => ?_) ?_
          · simp only [deps_mk, deps_nil, deps_data, deps_chain, deps_guard, deps_phase, deps_text, deps_gc, depFacts_nil, depFacts_cons, factAt_zero, factAt_succ, and_true, isV_eq] at hd
            have hc := (gcell hG).1
            have hf := (gcell hG).2.1
            have hz := (gcell hG).2.2
            refine stepD_plain rfl (by simp [wantedD, go_sem, *]) (fun R hR => ?_)
            unfold Oper.gives
            go_simp
            exact hR _ _ (isV_rfl _) (Grew.refl _)
          refine allSteps_cons (fun ν w' hG hd => ?_) ?_
          · simp only [deps_mk, deps_nil, deps_data, deps_chain, deps_guard, deps_phase, deps_text, deps_gc, depFacts_nil, depFacts_cons, factAt_zero, factAt_succ, and_true, isV_eq] at hd
            have hc := (gcell hG).1
            have hf := (gcell hG).2.1
            have hz := (gcell hG).2.2
            refine stepD_plain rfl (by simp [wantedD, go_sem, *]) (fun R hR => ?_)
            unfold Oper.gives
            go_simp
            exact hR _ _ (isV_rfl _) (Grew.refl _)
          refine allSteps_cons (fun ν w' hG hd => ?_) ?_
          · simp only [deps_mk, deps_nil, deps_data, deps_chain, deps_guard, deps_phase, deps_text, deps_gc, depFacts_nil, depFacts_cons, factAt_zero, factAt_succ, and_true, isV_eq] at hd
            have hc := (gcell hG).1
            have hf := (gcell hG).2.1
            have hz := (gcell hG).2.2
            refine stepD_plain rfl (by simp [wantedD, go_sem, *]) (fun R hR => ?_)
            unfold Oper.gives
            go_simp
            refine (c17_good _ _ _ _ _ _ (by omega) (by omega)).mono ?_
            rintro e w2 ⟨v, rfl, hv, hg⟩
            exact ⟨v, rfl, hR _ _ hv hg⟩
          refine allSteps_cons (fun ν w' hG hd => ?_) ?_
          · simp only [deps_mk, deps_nil, deps_data, deps_chain, deps_guard, deps_phase, deps_text, deps_gc, depFacts_nil, depFacts_cons, factAt_zero, factAt_succ, and_true, isV_eq] at hd
            have hc := (gcell hG).1
            have hf := (gcell hG).2.1
            have hz := (gcell hG).2.2
            refine stepD_plain rfl (by simp [wantedD, go_sem, *]) (fun R hR => ?_)
            unfold Oper.gives
            go_simp
            exact hR _ _ (isV_rfl _) (Grew.refl _)
          refine allSteps_cons (fun ν w' hG hd => ?_) ?_
          · simp only [deps_mk, deps_nil, deps_data, deps_chain, deps_guard, deps_phase, deps_text, deps_gc, depFacts_nil, depFacts_cons, factAt_zero, factAt_succ, and_true, isV_eq] at hd
            obtain ⟨x5a, x5b, x5c, h5, k5a, k5b, k5c⟩ := hd.1
            have hc := (gcell hG).1
            have hf := (gcell hG).2.1
            have hz := (gcell hG).2.2
            refine stepD_plain rfl (by simp [wantedD, go_sem, *]) (fun R hR => ?_)
            unfold Oper.gives
            go_simp
            refine (c16 _ _ _ _ _ _ _).mono ?_
            rintro e w2 ⟨v, rfl, hv, hg⟩
            rw [rsame_of k5a k5b k5c hw1.out hw2.out hw3.out] at hv
            exact ⟨v, rfl, hR _ _ hv hg⟩
          refine allSteps_cons (fun ν w' hG hd => ?_) ?_
          · simp only [deps_mk, deps_nil, deps_data, deps_chain, deps_guard, deps_phase, deps_text, deps_gc, depFacts_nil, depFacts_cons, factAt_zero, factAt_succ, and_true, isV_eq] at hd
            have hc := (gcell hG).1
            have hf := (gcell hG).2.1
            have hz := (gcell hG).2.2
            refine stepD_plain rfl rfl (fun R hR => ?_)
            unfold Oper.gives
            go_simp
            exact hR _ _ (isV_rfl _) (Grew.refl _)
          refine allSteps_cons (fun ν w' hG hd => ?_) ?_
          · simp only [deps_mk, deps_nil, deps_data, deps_chain, deps_guard, deps_phase, deps_text, deps_gc, depFacts_nil, depFacts_cons, factAt_zero, factAt_succ, and_true, isV_eq] at hd
            have hc := (gcell hG).1
            have hf := (gcell hG).2.1
            have hz := (gcell hG).2.2
            refine stepD_plain rfl rfl (fun R hR => ?_)
            unfold Oper.gives
            go_simp
            exact hR _ _ (isV_rfl _) (Grew.refl _)
          refine allSteps_cons (fun ν w' hG hd => ?_) ?_
          · simp only [deps_mk, deps_nil, deps_data, deps_chain, deps_guard, deps_phase, deps_text, deps_gc, depFacts_nil, depFacts_cons, factAt_zero, factAt_succ, and_true, isV_eq] at hd
            have hc := (gcell hG).1
            have hf := (gcell hG).2.1
            have hz := (gcell hG).2.2
            refine stepD_plain rfl (by simp [wantedD, go_sem, *]) (fun R hR => ?_)
            unfold Oper.gives
            go_simp
            exact hR _ _ (isV_rfl _) (Grew.refl _)
          refine allSteps_cons (fun ν w' hG hd => ?_) ?_
          · simp only [deps_mk, deps_nil, deps_data, deps_chain, deps_guard, deps_phase, deps_text, deps_gc, depFacts_nil, depFacts_cons, factAt_zero, factAt_succ, and_true, isV_eq] at hd
            have hc := (gcell hG).1
            have hf := (gcell hG).2.1
            have hz := (gcell hG).2.2
            refine stepD_plain rfl (by simp [wantedD, go_sem, *]) (fun R hR => ?_)
            unfold Oper.gives
            go_simp
            exact hR _ _ (isV_rfl _) (Grew.refl _)
          refine allSteps_cons (fun ν w' hG hd => ?_) ?_
          · simp only [deps_mk, deps_nil, deps_data, deps_chain, deps_guard, deps_phase, deps_text, deps_gc, depFacts_nil, depFacts_cons, factAt_zero, factAt_succ, and_true, isV_eq] at hd
            have hc := (gcell hG).1
            have hf := (gcell hG).2.1
            have hz := (gcell hG).2.2
            refine stepD_plain rfl (by simp [wantedD, go_sem, *]) (fun R hR => ?_)
            unfold Oper.gives
            go_simp
            exact hR _ _ (isV_rfl _) (Grew.refl _)
          refine allSteps_cons (fun ν w' hG hd => ?_) ?_
          · simp only [deps_mk, deps_nil, deps_data, deps_chain, deps_guard, deps_phase, deps_text, deps_gc, depFacts_nil, depFacts_cons, factAt_zero, factAt_succ, and_true, isV_eq] at hd
            have hc := (gcell hG).1
            have hf := (gcell hG).2.1
            have hz := (gcell hG).2.2
            refine stepD_plain rfl (by simp [wantedD, go_sem, *]) (fun R hR => ?_)
            unfold Oper.gives
            go_simp
            exact hR _ _ (isV_rfl _) (Grew.refl _)
          refine allSteps_cons (fun ν w' hG hd => ?_) ?_
          · simp only [deps_mk, deps_nil, deps_data, deps_chain, deps_guard, deps_phase, deps_text, deps_gc, depFacts_nil, depFacts_cons, factAt_zero, factAt_succ, and_true, isV_eq] at hd
            have hc := (gcell hG).1
            have hf := (gcell hG).2.1
            have hz := (gcell hG).2.2
            refine stepD_plain rfl (by simp [wantedD, go_sem, *]) (fun R hR => ?_)
            unfold Oper.gives
            go_simp
            refine (c17_bad _ _ _ _ _ _ (.inl (by omega))).mono ?_
            rintro e w2 ⟨v, rfl, hv, hg⟩
            rw [mean_zero _ _ (.inl (by omega))] at hv
            exact ⟨v, rfl, hR _ _ hv hg⟩
          refine allSteps_cons (fun ν w' hG hd => ?_) ?_
          · simp only [deps_mk, deps_nil, deps_data, deps_chain, deps_guard, deps_phase, deps_text, deps_gc, depFacts_nil, depFacts_cons, factAt_zero, factAt_succ, and_true, isV_eq] at hd
            have hc := (gcell hG).1
            have hf := (gcell hG).2.1
            have hz := (gcell hG).2.2
            refine stepD_plain rfl (by simp [wantedD, go_sem, *]) (fun R hR => ?_)
            unfold Oper.gives
            go_simp
            exact hR _ _ (isV_rfl _) (Grew.refl _)
          refine allSteps_cons (fun ν w' hG hd => ?_) ?_
          · simp only [deps_mk, deps_nil, deps_data, deps_chain, deps_guard, deps_phase, deps_text, deps_gc, depFacts_nil, depFacts_cons, factAt_zero, factAt_succ, and_true, isV_eq] at hd
            obtain ⟨x14a, x14b, x14c, h14, k14a, k14b, k14c⟩ := hd.1
            have hc := (gcell hG).1
            have hf := (gcell hG).2.1
            have hz := (gcell hG).2.2
            refine stepD_plain rfl (by simp [wantedD, go_sem, *]) (fun R hR => ?_)
            unfold Oper.gives
            go_simp
            exact hR _ _ (isV_rfl _) (Grew.refl _)
          refine allSteps_cons (fun ν w' hG hd => ?_) ?_
          · simp only [deps_mk, deps_nil, deps_data, deps_chain, deps_guard, deps_phase, deps_text, deps_gc, depFacts_nil, depFacts_cons, factAt_zero, factAt_succ, and_true, isV_eq] at hd
            have hc := (gcell hG).1
            have hf := (gcell hG).2.1
            have hz := (gcell hG).2.2
            refine stepD_plain rfl rfl (fun R hR => ?_)
            unfold Oper.gives
            go_simp
            exact hR _ _ (isV_rfl _) (Grew.refl _)
          refine allSteps_cons (fun ν w' hG hd => ?_) ?_
          · simp only [deps_mk, deps_nil, deps_data, deps_chain, deps_guard, deps_phase, deps_text, deps_gc, depFacts_nil, depFacts_cons, factAt_zero, factAt_succ, and_true, isV_eq] at hd
            obtain ⟨x14a, x14b, x14c, h14, k14a, k14b, k14c⟩ := hd.2
            have hc := (gcell hG).1
            have hf := (gcell hG).2.1
            have hz := (gcell hG).2.2
            refine stepD_plain rfl rfl (fun R hR => ?_)
            unfold Oper.gives
            go_simp
            exact hR _ _ (isV_rfl _) (Grew.refl _)
          refine allSteps_cons (fun ν w' hG hd => ?_) ?_
          · simp only [deps_mk, deps_nil, deps_data, deps_chain, deps_guard, deps_phase, deps_text, deps_gc, depFacts_nil, depFacts_cons, factAt_zero, factAt_succ, and_true, isV_eq] at hd
            have hc := (gcell hG).1
            have hf := (gcell hG).2.1
            have hz := (gcell hG).2.2
            refine stepD_plain rfl (by simp [wantedD, go_sem, *]) (fun R hR => ?_)
            unfold Oper.gives
            go_simp
            exact hR _ _ (isV_rfl _) (Grew.refl _)
          refine allSteps_cons (fun ν w' hG hd => ?_) ?_
          · simp only [deps_mk, deps_nil, deps_data, deps_chain, deps_guard, deps_phase, deps_text, deps_gc, depFacts_nil, depFacts_cons, factAt_zero, factAt_succ, and_true, isV_eq] at hd
            have hc := (gcell hG).1
            have hf := (gcell hG).2.1
            have hz := (gcell hG).2.2
            refine stepD_plain rfl (by simp [wantedD, go_sem, *]) (fun R hR => ?_)
            unfold Oper.gives
            go_simp
            exact hR _ _ (isV_rfl _) (Grew.refl _)
          refine allSteps_cons (fun ν w' hG hd => ?_) ?_
          · simp only [deps_mk, deps_nil, deps_data, deps_chain, deps_guard, deps_phase, deps_text, deps_gc, depFacts_nil, depFacts_cons, factAt_zero, factAt_succ, and_true, isV_eq] at hd
            have hc := (gcell hG).1
            have hf := (gcell hG).2.1
            have hz := (gcell hG).2.2
            refine stepD_plain rfl (by simp [wantedD, go_sem, *]) (fun R hR => ?_)
            unfold Oper.gives
            go_simp
            exact hR _ _ (isV_rfl _) (Grew.refl _)
          refine allSteps_cons (fun ν w' hG hd => ?_) ?_
          · simp only [deps_mk, deps_nil, deps_data, deps_chain, deps_guard, deps_phase, deps_text, deps_gc, depFacts_nil, depFacts_cons, factAt_zero, factAt_succ, and_true, isV_eq] at hd
            have hc := (gcell hG).1
            have hf := (gcell hG).2.1
            have hz := (gcell hG).2.2
            refine stepD_plain rfl (by simp [wantedD, go_sem, *]) (fun R hR => ?_)
            unfold Oper.gives
            go_simp
            exact hR _ _ (isV_rfl _) (Grew.refl _)
          refine allSteps_cons (fun ν w' hG hd => ?_) ?_
          · simp only [deps_mk, deps_nil, deps_data, deps_chain, deps_guard, deps_phase, deps_text, deps_gc, depFacts_nil, depFacts_cons, factAt_zero, factAt_succ, and_true, isV_eq] at hd
            have hc := (gcell hG).1
            have hf := (gcell hG).2.1
            have hz := (gcell hG).2.2
            refine stepD_plain rfl (by simp [wantedD, go_sem, *]) (fun R hR => ?_)
            unfold Oper.gives
            go_simp
            refine (c17_bad _ _ _ _ _ _ (.inr (by omega))).mono ?_
            rintro e w2 ⟨v, rfl, hv, hg⟩
            rw [mean_zero _ _ (.inr (by omega))] at hv
            exact ⟨v, rfl, hR _ _ hv hg⟩
          refine allSteps_cons (fun ν w' hG hd => ?_) ?_
          · simp only [deps_mk, deps_nil, deps_data, deps_chain, deps_guard, deps_phase, deps_text, deps_gc, depFacts_nil, depFacts_cons, factAt_zero, factAt_succ, and_true, isV_eq] at hd
            have hc := (gcell hG).1
            have hf := (gcell hG).2.1
            have hz := (gcell hG).2.2
            refine stepD_plain rfl (by simp [wantedD, go_sem, *]) (fun R hR => ?_)
            unfold Oper.gives
            go_simp
            exact hR _ _ (isV_rfl _) (Grew.refl _)
          refine allSteps_cons (fun ν w' hG hd => ?_) ?_
          · simp only [deps_mk, deps_nil, deps_data, deps_chain, deps_guard, deps_phase, deps_text, deps_gc, depFacts_nil, depFacts_cons, factAt_zero, factAt_succ, and_true, isV_eq] at hd
            obtain ⟨x23a, x23b, x23c, h23, k23a, k23b, k23c⟩ := hd.1
            have hc := (gcell hG).1
            have hf := (gcell hG).2.1
            have hz := (gcell hG).2.2
            refine stepD_plain rfl (by simp [wantedD, go_sem, *]) (fun R hR => ?_)
            unfold Oper.gives
            go_simp
            exact hR _ _ (isV_rfl _) (Grew.refl _)
          refine allSteps_cons (fun ν w' hG hd => ?_) ?_
          · simp only [deps_mk, deps_nil, deps_data, deps_chain, deps_guard, deps_phase, deps_text, deps_gc, depFacts_nil, depFacts_cons, factAt_zero, factAt_succ, and_true, isV_eq] at hd
            have hc := (gcell hG).1
            have hf := (gcell hG).2.1
            have hz := (gcell hG).2.2
            refine stepD_plain rfl rfl (fun R hR => ?_)
            unfold Oper.gives
            go_simp
            exact hR _ _ (isV_rfl _) (Grew.refl _)
          refine allSteps_cons (fun ν w' hG hd => ?_) (allSteps_nil _)
          · simp only [deps_mk, deps_nil, deps_data, deps_chain, deps_guard, deps_phase, deps_text, deps_gc, depFacts_nil, depFacts_cons, factAt_zero, factAt_succ, and_true, isV_eq] at hd
            obtain ⟨x23a, x23b, x23c, h23, k23a, k23b, k23c⟩ := hd.2.1
            obtain ⟨x5a, x5b, x5c, h5, k5a, k5b, k5c⟩ := hd.2.2.2.2.2.2.2.1
            obtain ⟨x14a, x14b, x14c, h14, k14a, k14b, k14c⟩ := hd.2.2.2.2.2.2.2.2.2.2.2.2.2.2.2.2.1
            have hc := (gcell hG).1
            have hf := (gcell hG).2.1
            have hz := (gcell hG).2.2
            refine stepD_plain rfl rfl (fun R hR => ?_)
            unfold Oper.gives
            go_simp
            exact hR _ _ (isV_rfl _) (Grew.refl _)
        case hQ =>
          intro ν w' hG hd
          simp only [List.take_succ_cons, List.take_zero, List.map_cons, List.map_nil, List.drop_succ_cons, List.drop_zero, List.range, List.range.loop, depFacts_nil, depFacts_cons, factAt_zero, factAt_succ, and_true, isV_eq] at hd ⊢
          obtain ⟨x5a, x5b, x5c, h5, k5a, k5b, k5c⟩ := hd.2.2.2.2.2.1
          obtain ⟨x14a, x14b, x14c, h14, k14a, k14b, k14c⟩ := hd.2.2.2.2.2.2.2.2.2.2.2.2.2.2.1
          obtain ⟨x23a, x23b, x23c, h23, k23a, k23b, k23c⟩ := hd.2.2.2.2.2.2.2.2.2.2.2.2.2.2.2.2.2.2.2.2.2.2.2.1
          simp only [frameD_cons, frameD_nil, List.getD_cons_zero, List.getD_cons_succ, Act.put, hd, h5, h14, h23, List.setIfInBounds_toArray, List.set_cons_zero, List.set_cons_succ]
          clear hd h5 h14 h23
          have hc := (gcell hG).1
          have hf := (gcell hG).2.1
          have hz := (gcell hG).2.2
          go_wp2
          go_ret
          exact ret_of (isB_of rfl) (by repeat (first | exact Grew.refl _ | assumption | refine Grew.drewN ?_ _ | refine Grew.drew ?_ | refine Grew.alloc ?_ _ | refine Grew.setCell ?_ (by simp; try omega) _ | refine Grew.trans ?_ (by assumption)))
end Go.Proofs.Ytfcholpgebcooaa
