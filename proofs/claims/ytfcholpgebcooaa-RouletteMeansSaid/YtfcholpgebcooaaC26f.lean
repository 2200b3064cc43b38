/- '==' on lights, and the statement's own small function. -/
import Derived.Test.YtfcholpgebcooaaC26e
namespace Go
def rEq (x y : RGBv) : Bool := feq x.r y.r && feq x.g y.g && feq x.b y.b
@[go_sem] theorem run_equalIn_float {P : Program} (w : World) (d : Nat) (t : TypeId) (a b : Nat) (h : P.underlying t = some (.float .f64)) : (Op.equalIn (d + 1) t (.float .f64 a) (.float .f64 b)).run P w = .ok (feq (fcls a) (fcls b)) w := by
  simp [Op.equalIn, run_underlying h, Op.floatEq]
end Go
namespace Go.Proofs.Ytfcholpgebcooaa
open Go.RowKit
set_option linter.unusedSimpArgs false
set_option linter.unusedVariables false
@[go_sem high] theorem rgbEq (w : World) (a b c d e f : Nat) : (binOp .eql 24 (.agg #[.float .f64 a, .float .f64 b, .float .f64 c]) (.agg #[.float .f64 d, .float .f64 e, .float .f64 f])).run Try.prog w = .ok (.bool (rEq ⟨fcls a, fcls b, fcls c⟩ ⟨fcls d, fcls e, fcls f⟩)) w := by
  go_simp
  unfold rEq
  cases feq (fcls a) (fcls d) <;> cases feq (fcls b) (fcls e) <;> cases feq (fcls c) (fcls f) <;> go_simp
set_option maxHeartbeats 400000 in
theorem c16 (a b c d e f : Nat) (w : World) : Calls Try.prog 16 #[.agg #[.float .f64 a, .float .f64 b, .float .f64 c], .agg #[.float .f64 d, .float .f64 e, .float .f64 f]] w (Ret (isB (rsame ⟨fcls a, fcls b, fcls c⟩ ⟨fcls d, fcls e, fcls f⟩)) w) := by
  go_enter Try.func16, Try.ntmps16
  go_wp2_with (go_at_call 61; refine (c61 _ _ _).mono ?_; rintro e w1 ⟨_, n, rfl, rfl, rfl⟩)
  all_goals
    go_ret
    exact ret_of (isB_of (by grind [rsame])) (by repeat (first | exact Grew.refl _ | assumption | refine Grew.drewN ?_ _ | refine Grew.drew ?_ | refine Grew.alloc ?_ _ | refine Grew.setCell ?_ (by simp; try omega) _ | refine Grew.trans ?_ (by assumption)))

theorem aw_chance2 : chance ⟨fcls 4602678819172646912, fcls 4598175219545276416, fcls 0⟩ 2 = fone := by decide +kernel
theorem aw_chance3 : chance ⟨fcls 4602678819172646912, fcls 4598175219545276416, fcls 0⟩ 3 = fcls 4602678819172646912 := by decide +kernel
theorem aw_play1 : (playQ ⟨fcls 4602678819172646912, fcls 4598175219545276416, fcls 0⟩ (chance ⟨fcls 4602678819172646912, fcls 4598175219545276416, fcls 0⟩ 3) (fcls 4600877379321698714)).1.r = fone ∧ (playQ ⟨fcls 4602678819172646912, fcls 4598175219545276416, fcls 0⟩ (chance ⟨fcls 4602678819172646912, fcls 4598175219545276416, fcls 0⟩ 3) (fcls 4600877379321698714)).2 = true := by decide +kernel
theorem aw_play2 : (playQ ⟨fcls 4602678819172646912, fcls 4598175219545276416, fcls 0⟩ (chance ⟨fcls 4602678819172646912, fcls 4598175219545276416, fcls 0⟩ 3) (fcls 4602678819172646912)).1.r = fzero ∧ (playQ ⟨fcls 4602678819172646912, fcls 4598175219545276416, fcls 0⟩ (chance ⟨fcls 4602678819172646912, fcls 4598175219545276416, fcls 0⟩ 3) (fcls 4602678819172646912)).1.g = fzero ∧ (playQ ⟨fcls 4602678819172646912, fcls 4598175219545276416, fcls 0⟩ (chance ⟨fcls 4602678819172646912, fcls 4598175219545276416, fcls 0⟩ 3) (fcls 4602678819172646912)).1.b = fzero ∧ (playQ ⟨fcls 4602678819172646912, fcls 4598175219545276416, fcls 0⟩ (chance ⟨fcls 4602678819172646912, fcls 4598175219545276416, fcls 0⟩ 3) (fcls 4602678819172646912)).2 = false := by decide +kernel
theorem aw_mean : (meanOf ⟨fcls 4602678819172646912, fcls 4598175219545276416, fcls 0⟩ 9 4).r = fcls 4602678819172646912 ∧ (meanOf ⟨fcls 4602678819172646912, fcls 4598175219545276416, fcls 0⟩ 9 4).g = fcls 4598175219545276416 ∧ (meanOf ⟨fcls 4602678819172646912, fcls 4598175219545276416, fcls 0⟩ 9 4).b = fcls 0 := by decide +kernel
theorem aw_eqs : feq fone fone = true ∧ feq (fcls 4602678819172646912) (fcls 4602678819172646912) = true ∧ rEq ⟨fzero, fzero, fzero⟩ ⟨fcls 0, fcls 0, fcls 0⟩ = true ∧ rEq ⟨fcls 4602678819172646912, fcls 4598175219545276416, fcls 0⟩ ⟨fcls 4602678819172646912, fcls 4598175219545276416, fcls 0⟩ = true := by decide +kernel
set_option maxHeartbeats 400000 in
theorem c15 (w : World) : Calls Try.prog 15 #[] w (Ret (isB true) w) := by
  obtain ⟨p1, p2⟩ := aw_play1
  obtain ⟨p3, p4, p5, p6⟩ := aw_play2
  obtain ⟨e1, e2, e3, e4⟩ := aw_eqs
  go_enter Try.func15, Try.ntmps15
  go_wp2_with fail
  refine (c59 _ _ _ _ _ _).mono ?_
  rintro e w1 ⟨_, rfl, ⟨_, _, rfl, ⟨x, y, z, rfl, hx, hy, hz⟩, rfl⟩, hg⟩
  clear hy hz
  obtain ⟨hc, hf, hz⟩ := gcell hg; simp only [World.heap_drewN, World.size_alloc, World.size_setCell] at hc hf hz
  have z1 : w.heap.size < w1.heap.size := by omega
  rw [p1] at hx
  go_wp2_with fail
  refine (c59 _ _ _ _ _ _).mono ?_
  rintro e w2 ⟨_, rfl, ⟨_, _, rfl, ⟨x', y', z', rfl, hx', hy', hz'⟩, rfl⟩, hg2⟩
  rw [p3] at hx'
  rw [p4] at hy'
  rw [p5] at hz'
  obtain ⟨hc2, hf2, hz2⟩ := gcell hg2
  simp only [World.size_alloc] at hc2 hf2 hz2
  have z2 : w.heap.size < w2.heap.size := by omega
  have z3 : w1.heap.size < w2.heap.size := by omega
  have z4 : w.heap.size < w1.heap.size + 1 := by omega
  have z5 : ¬ w.heap.size = w1.heap.size := by omega
  clear p1 p3 p4 p5
  go_wp2_with fail
  apply wp_region_pure 32 [isV _, isF fone, isV _, isV _, isV _, isF (fcls 4602678819172646912), isV _, isV _, isV _, isV _, isV _, isV _, isV _, isV _, isV _, isV _, isV _, isV _, isV _, isV _, isV _, isV _, isV _, isV _, isV _, isV _, isV _, isRGB ⟨fcls 4602678819172646912, fcls 4598175219545276416, fcls 0⟩, isV _, isV _, isV _, isV _] (by kernel_rfl) (by kernel_rfl)
  case hops =>
    simp only [List.take_succ_cons, List.take_zero, List.map_cons, List.map_nil]
    refine allSteps_cons (fun ν w' hG hd => ?_) ?_
    · simp only [deps_mk, deps_nil, deps_data, deps_chain, deps_guard, deps_phase, deps_text, deps_gc, depFacts_nil, depFacts_cons, factAt_zero, factAt_succ, and_true, isV_eq] at hd
      have hc := (gcell hG).1
      have hf := (gcell hG).2.1
      have hz := (gcell hG).2.2
      refine stepD_plain rfl rfl (fun R hR => ?_)
      unfold Oper.gives
      go_simp
      exact hR _ _ (isV_rfl _) (Grew.refl _)
    refine allSteps_cons (fun ν w' hG hd => ?_) ?_
    · simp only [deps_mk, deps_nil, deps_data, deps_chain, deps_guard, deps_phase, deps_text, deps_gc, depFacts_nil, depFacts_cons, factAt_zero, factAt_succ, and_true, isV_eq] at hd
      have hc := (gcell hG).1
      have hf := (gcell hG).2.1
      have hz := (gcell hG).2.2
      refine stepD_plain rfl rfl (fun R hR => ?_)
      unfold Oper.gives
      go_simp
      refine (c60 _ _ _ _ _).mono ?_
      rintro e w2 ⟨v, rfl, hv, hg⟩
      rw [aw_chance2] at hv
      exact ⟨v, rfl, hR _ _ hv hg⟩
    refine allSteps_cons (fun ν w' hG hd => ?_) ?_
    · simp only [deps_mk, deps_nil, deps_data, deps_chain, deps_guard, deps_phase, deps_text, deps_gc, depFacts_nil, depFacts_cons, factAt_zero, factAt_succ, and_true, isV_eq] at hd
      obtain ⟨x1, h1, k1⟩ := hd
      have hc := (gcell hG).1
      have hf := (gcell hG).2.1
      have hz := (gcell hG).2.2
      refine stepD_plain rfl rfl (fun R hR => ?_)
      unfold Oper.gives
      go_simp
      exact hR _ _ (isV_rfl _) (Grew.refl _)
    refine allSteps_cons (fun ν w' hG hd => ?_) ?_
    · simp only [deps_mk, deps_nil, deps_data, deps_chain, deps_guard, deps_phase, deps_text, deps_gc, depFacts_nil, depFacts_cons, factAt_zero, factAt_succ, and_true, isV_eq] at hd
      obtain ⟨x1, h1, k1⟩ := hd.2
      have hc := (gcell hG).1
      have hf := (gcell hG).2.1
      have hz := (gcell hG).2.2
      refine stepD_plain rfl rfl (fun R hR => ?_)
      unfold Oper.gives
      go_simp
      exact hR _ _ (isV_rfl _) (Grew.refl _)
    refine allSteps_cons (fun ν w' hG hd => ?_) ?_
    · simp only [deps_mk, deps_nil, deps_data, deps_chain, deps_guard, deps_phase, deps_text, deps_gc, depFacts_nil, depFacts_cons, factAt_zero, factAt_succ, and_true, isV_eq] at hd
      have hc := (gcell hG).1
      have hf := (gcell hG).2.1
      have hz := (gcell hG).2.2
      refine stepD_plain rfl (by simp [wantedD, go_sem, *]) (fun R hR => ?_)
      unfold Oper.gives
      go_simp
      exact hR _ _ (isV_rfl _) (Grew.refl _)
    refine allSteps_cons (fun ν w' hG hd => ?_) ?_
    · simp only [deps_mk, deps_nil, deps_data, deps_chain, deps_guard, deps_phase, deps_text, deps_gc, depFacts_nil, depFacts_cons, factAt_zero, factAt_succ, and_true, isV_eq] at hd
      have hc := (gcell hG).1
      have hf := (gcell hG).2.1
      have hz := (gcell hG).2.2
      refine stepD_plain rfl (by simp [wantedD, go_sem, *]) (fun R hR => ?_)
      unfold Oper.gives
      go_simp
      refine (c60 _ _ _ _ _).mono ?_
      rintro e w2 ⟨v, rfl, hv, hg⟩
      rw [aw_chance3] at hv
      exact ⟨v, rfl, hR _ _ hv hg⟩
    refine allSteps_cons (fun ν w' hG hd => ?_) ?_
    · simp only [deps_mk, deps_nil, deps_data, deps_chain, deps_guard, deps_phase, deps_text, deps_gc, depFacts_nil, depFacts_cons, factAt_zero, factAt_succ, and_true, isV_eq] at hd
      obtain ⟨x5, h5, k5⟩ := hd.1
      have hc := (gcell hG).1
      have hf := (gcell hG).2.1
      have hz := (gcell hG).2.2
      refine stepD_plain rfl (by simp [wantedD, go_sem, *]) (fun R hR => ?_)
      unfold Oper.gives
      go_simp
      exact hR _ _ (isV_rfl _) (Grew.refl _)
    refine allSteps_cons (fun ν w' hG hd => ?_) ?_
    · simp only [deps_mk, deps_nil, deps_data, deps_chain, deps_guard, deps_phase, deps_text, deps_gc, depFacts_nil, depFacts_cons, factAt_zero, factAt_succ, and_true, isV_eq] at hd
      have hc := (gcell hG).1
      have hf := (gcell hG).2.1
      have hz := (gcell hG).2.2
      refine stepD_plain rfl rfl (fun R hR => ?_)
      unfold Oper.gives
      go_simp
      exact hR _ _ (isV_rfl _) (Grew.refl _)
    refine allSteps_cons (fun ν w' hG hd => ?_) ?_
    · simp only [deps_mk, deps_nil, deps_data, deps_chain, deps_guard, deps_phase, deps_text, deps_gc, depFacts_nil, depFacts_cons, factAt_zero, factAt_succ, and_true, isV_eq] at hd
      obtain ⟨x5, h5, k5⟩ := hd.2
      have hc := (gcell hG).1
      have hf := (gcell hG).2.1
      have hz := (gcell hG).2.2
      refine stepD_plain rfl rfl (fun R hR => ?_)
      unfold Oper.gives
      go_simp
      exact hR _ _ (isV_rfl _) (Grew.refl _)
    refine allSteps_cons (fun ν w' hG hd => ?_) ?_
    · simp only [deps_mk, deps_nil, deps_data, deps_chain, deps_guard, deps_phase, deps_text, deps_gc, depFacts_nil, depFacts_cons, factAt_zero, factAt_succ, and_true, isV_eq] at hd
      have hc := (gcell hG).1
      have hf := (gcell hG).2.1
      have hz := (gcell hG).2.2
      refine stepD_plain rfl (by simp [wantedD, go_sem, *]) (fun R hR => ?_)
      unfold Oper.gives
      go_simp
      exact hR _ _ (isV_rfl _) (Grew.refl _)
    refine allSteps_cons (fun ν w' hG hd => ?_) ?_
    · simp only [deps_mk, deps_nil, deps_data, deps_chain, deps_guard, deps_phase, deps_text, deps_gc, depFacts_nil, depFacts_cons, factAt_zero, factAt_succ, and_true, isV_eq] at hd
      have hc := (gcell hG).1
      have hf := (gcell hG).2.1
      have hz := (gcell hG).2.2
      refine stepD_plain rfl (by simp [wantedD, go_sem, *]) (fun R hR => ?_)
      unfold Oper.gives
      go_simp
      exact hR _ _ (isV_rfl _) (Grew.refl _)
    refine allSteps_cons (fun ν w' hG hd => ?_) ?_
    · simp only [deps_mk, deps_nil, deps_data, deps_chain, deps_guard, deps_phase, deps_text, deps_gc, depFacts_nil, depFacts_cons, factAt_zero, factAt_succ, and_true, isV_eq] at hd
      have hc := (gcell hG).1
      have hf := (gcell hG).2.1
      have hz := (gcell hG).2.2
      refine stepD_plain rfl (by simp [wantedD, go_sem, *]) (fun R hR => ?_)
      unfold Oper.gives
      go_simp
      exact hR _ _ (isV_rfl _) (Grew.refl _)
    refine allSteps_cons (fun ν w' hG hd => ?_) ?_
    · simp only [deps_mk, deps_nil, deps_data, deps_chain, deps_guard, deps_phase, deps_text, deps_gc, depFacts_nil, depFacts_cons, factAt_zero, factAt_succ, and_true, isV_eq] at hd
      have hc := (gcell hG).1
      have hf := (gcell hG).2.1
      have hz := (gcell hG).2.2
      refine stepD_plain rfl rfl (fun R hR => ?_)
      unfold Oper.gives
      go_simp
      exact hR _ _ (isV_rfl _) (Grew.refl _)
    refine allSteps_cons (fun ν w' hG hd => ?_) ?_
    · simp only [deps_mk, deps_nil, deps_data, deps_chain, deps_guard, deps_phase, deps_text, deps_gc, depFacts_nil, depFacts_cons, factAt_zero, factAt_succ, and_true, isV_eq] at hd
      have hc := (gcell hG).1
      have hf := (gcell hG).2.1
      have hz := (gcell hG).2.2
      refine stepD_plain rfl rfl (fun R hR => ?_)
      unfold Oper.gives
      go_simp
      exact hR _ _ (isV_rfl _) (Grew.refl _)
    refine allSteps_cons (fun ν w' hG hd => ?_) ?_
    · simp only [deps_mk, deps_nil, deps_data, deps_chain, deps_guard, deps_phase, deps_text, deps_gc, depFacts_nil, depFacts_cons, factAt_zero, factAt_succ, and_true, isV_eq] at hd
      have hc := (gcell hG).1
      have hf := (gcell hG).2.1
      have hz := (gcell hG).2.2
      refine stepD_plain rfl (by simp [wantedD, go_sem, *]) (fun R hR => ?_)
      unfold Oper.gives
      go_simp
      exact hR _ _ (isV_rfl _) (Grew.refl _)
    refine allSteps_cons (fun ν w' hG hd => ?_) ?_
    · simp only [deps_mk, deps_nil, deps_data, deps_chain, deps_guard, deps_phase, deps_text, deps_gc, depFacts_nil, depFacts_cons, factAt_zero, factAt_succ, and_true, isV_eq] at hd
      have hc := (gcell hG).1
      have hf := (gcell hG).2.1
      have hz := (gcell hG).2.2
      refine stepD_plain rfl rfl (fun R hR => ?_)
      unfold Oper.gives
      go_simp
      exact hR _ _ (isV_rfl _) (Grew.refl _)
    refine allSteps_cons (fun ν w' hG hd => ?_) ?_
    · simp only [deps_mk, deps_nil, deps_data, deps_chain, deps_guard, deps_phase, deps_text, deps_gc, depFacts_nil, depFacts_cons, factAt_zero, factAt_succ, and_true, isV_eq] at hd
      have hc := (gcell hG).1
      have hf := (gcell hG).2.1
      have hz := (gcell hG).2.2
      refine stepD_plain rfl rfl (fun R hR => ?_)
      unfold Oper.gives
      go_simp
      exact hR _ _ (isV_rfl _) (Grew.refl _)
    refine allSteps_cons (fun ν w' hG hd => ?_) ?_
    · simp only [deps_mk, deps_nil, deps_data, deps_chain, deps_guard, deps_phase, deps_text, deps_gc, depFacts_nil, depFacts_cons, factAt_zero, factAt_succ, and_true, isV_eq] at hd
      have hc := (gcell hG).1
      have hf := (gcell hG).2.1
      have hz := (gcell hG).2.2
      refine stepD_plain rfl (by simp [wantedD, go_sem, *]) (fun R hR => ?_)
      unfold Oper.gives
      go_simp
      exact hR _ _ (isV_rfl _) (Grew.refl _)
    refine allSteps_cons (fun ν w' hG hd => ?_) ?_
    · simp only [deps_mk, deps_nil, deps_data, deps_chain, deps_guard, deps_phase, deps_text, deps_gc, depFacts_nil, depFacts_cons, factAt_zero, factAt_succ, and_true, isV_eq] at hd
      have hc := (gcell hG).1
      have hf := (gcell hG).2.1
      have hz := (gcell hG).2.2
      refine stepD_plain rfl (by simp [wantedD, go_sem, *]) (fun R hR => ?_)
      unfold Oper.gives
      go_simp
      exact hR _ _ (isV_rfl _) (Grew.refl _)
    refine allSteps_cons (fun ν w' hG hd => ?_) ?_
    · simp only [deps_mk, deps_nil, deps_data, deps_chain, deps_guard, deps_phase, deps_text, deps_gc, depFacts_nil, depFacts_cons, factAt_zero, factAt_succ, and_true, isV_eq] at hd
      have hc := (gcell hG).1
      have hf := (gcell hG).2.1
      have hz := (gcell hG).2.2
      refine stepD_plain rfl (by simp [wantedD, go_sem, *]) (fun R hR => ?_)
      unfold Oper.gives
      go_simp
      exact hR _ _ (isV_rfl _) (Grew.refl _)
    refine allSteps_cons (fun ν w' hG hd => ?_) ?_
    · simp only [deps_mk, deps_nil, deps_data, deps_chain, deps_guard, deps_phase, deps_text, deps_gc, depFacts_nil, depFacts_cons, factAt_zero, factAt_succ, and_true, isV_eq] at hd
      have hc := (gcell hG).1
      have hf := (gcell hG).2.1
      have hz := (gcell hG).2.2
      refine stepD_plain rfl rfl (fun R hR => ?_)
      unfold Oper.gives
      go_simp
      exact hR _ _ (isV_rfl _) (Grew.refl _)
    refine allSteps_cons (fun ν w' hG hd => ?_) ?_
    · simp only [deps_mk, deps_nil, deps_data, deps_chain, deps_guard, deps_phase, deps_text, deps_gc, depFacts_nil, depFacts_cons, factAt_zero, factAt_succ, and_true, isV_eq] at hd
      have hc := (gcell hG).1
      have hf := (gcell hG).2.1
      have hz := (gcell hG).2.2
      refine stepD_plain rfl rfl (fun R hR => ?_)
      unfold Oper.gives
      go_simp
      exact hR _ _ (isV_rfl _) (Grew.refl _)
    refine allSteps_cons (fun ν w' hG hd => ?_) ?_
    · simp only [deps_mk, deps_nil, deps_data, deps_chain, deps_guard, deps_phase, deps_text, deps_gc, depFacts_nil, depFacts_cons, factAt_zero, factAt_succ, and_true, isV_eq] at hd
      have hc := (gcell hG).1
      have hf := (gcell hG).2.1
      have hz := (gcell hG).2.2
      refine stepD_plain rfl (by simp [wantedD, go_sem, *]) (fun R hR => ?_)
      unfold Oper.gives
      go_simp
      exact hR _ _ (isV_rfl _) (Grew.refl _)
    refine allSteps_cons (fun ν w' hG hd => ?_) ?_
    · simp only [deps_mk, deps_nil, deps_data, deps_chain, deps_guard, deps_phase, deps_text, deps_gc, depFacts_nil, depFacts_cons, factAt_zero, factAt_succ, and_true, isV_eq] at hd
      have hc := (gcell hG).1
      have hf := (gcell hG).2.1
      have hz := (gcell hG).2.2
      refine stepD_plain rfl (by simp [wantedD, go_sem, *]) (fun R hR => ?_)
      unfold Oper.gives
      go_simp
      exact hR _ _ (isV_rfl _) (Grew.refl _)
    refine allSteps_cons (fun ν w' hG hd => ?_) ?_
    · simp only [deps_mk, deps_nil, deps_data, deps_chain, deps_guard, deps_phase, deps_text, deps_gc, depFacts_nil, depFacts_cons, factAt_zero, factAt_succ, and_true, isV_eq] at hd
      have hc := (gcell hG).1
      have hf := (gcell hG).2.1
      have hz := (gcell hG).2.2
      refine stepD_plain rfl rfl (fun R hR => ?_)
      unfold Oper.gives
      go_simp
      exact hR _ _ (isV_rfl _) (Grew.refl _)
    refine allSteps_cons (fun ν w' hG hd => ?_) ?_
    · simp only [deps_mk, deps_nil, deps_data, deps_chain, deps_guard, deps_phase, deps_text, deps_gc, depFacts_nil, depFacts_cons, factAt_zero, factAt_succ, and_true, isV_eq] at hd
      have hc := (gcell hG).1
      have hf := (gcell hG).2.1
      have hz := (gcell hG).2.2
      refine stepD_plain rfl rfl (fun R hR => ?_)
      unfold Oper.gives
      go_simp
      exact hR _ _ (isV_rfl _) (Grew.refl _)
    refine allSteps_cons (fun ν w' hG hd => ?_) ?_
    · simp only [deps_mk, deps_nil, deps_data, deps_chain, deps_guard, deps_phase, deps_text, deps_gc, depFacts_nil, depFacts_cons, factAt_zero, factAt_succ, and_true, isV_eq] at hd
      have hc := (gcell hG).1
      have hf := (gcell hG).2.1
      have hz := (gcell hG).2.2
      refine stepD_plain rfl (by simp [wantedD, go_sem, *]) (fun R hR => ?_)
      unfold Oper.gives
      go_simp
      exact hR _ _ (isV_rfl _) (Grew.refl _)
    refine allSteps_cons (fun ν w' hG hd => ?_) ?_
    · simp only [deps_mk, deps_nil, deps_data, deps_chain, deps_guard, deps_phase, deps_text, deps_gc, depFacts_nil, depFacts_cons, factAt_zero, factAt_succ, and_true, isV_eq] at hd
      have hc := (gcell hG).1
      have hf := (gcell hG).2.1
      have hz := (gcell hG).2.2
      refine stepD_plain rfl (by simp [wantedD, go_sem, *]) (fun R hR => ?_)
      unfold Oper.gives
      go_simp
      refine (c17_good _ _ _ _ 4 _ (by omega) (by omega)).mono ?_
      rintro e w2 ⟨v, rfl, ⟨x, y, z, rfl, hx, hy, hz⟩, hg⟩
      refine ⟨_, rfl, hR _ _ (isRGB_of (hx.trans aw_mean.1) (hy.trans aw_mean.2.1) (hz.trans aw_mean.2.2)) hg⟩
    refine allSteps_cons (fun ν w' hG hd => ?_) ?_
    · simp only [deps_mk, deps_nil, deps_data, deps_chain, deps_guard, deps_phase, deps_text, deps_gc, depFacts_nil, depFacts_cons, factAt_zero, factAt_succ, and_true, isV_eq] at hd
      have hc := (gcell hG).1
      have hf := (gcell hG).2.1
      have hz := (gcell hG).2.2
      refine stepD_plain rfl (by simp [wantedD, go_sem, *]) (fun R hR => ?_)
      unfold Oper.gives
      go_simp
      exact hR _ _ (isV_rfl _) (Grew.refl _)
    refine allSteps_cons (fun ν w' hG hd => ?_) ?_
    · simp only [deps_mk, deps_nil, deps_data, deps_chain, deps_guard, deps_phase, deps_text, deps_gc, depFacts_nil, depFacts_cons, factAt_zero, factAt_succ, and_true, isV_eq] at hd
      obtain ⟨x27a, x27b, x27c, h27, k27a, k27b, k27c⟩ := hd.1
      have hc := (gcell hG).1
      have hf := (gcell hG).2.1
      have hz := (gcell hG).2.2
      refine stepD_plain rfl (by simp [wantedD, go_sem, *]) (fun R hR => ?_)
      unfold Oper.gives
      go_simp
      exact hR _ _ (isV_rfl _) (Grew.refl _)
    refine allSteps_cons (fun ν w' hG hd => ?_) ?_
    · simp only [deps_mk, deps_nil, deps_data, deps_chain, deps_guard, deps_phase, deps_text, deps_gc, depFacts_nil, depFacts_cons, factAt_zero, factAt_succ, and_true, isV_eq] at hd
      have hc := (gcell hG).1
      have hf := (gcell hG).2.1
      have hz := (gcell hG).2.2
      refine stepD_plain rfl rfl (fun R hR => ?_)
      unfold Oper.gives
      go_simp
      exact hR _ _ (isV_rfl _) (Grew.refl _)
    refine allSteps_cons (fun ν w' hG hd => ?_) (allSteps_nil _)
    · simp only [deps_mk, deps_nil, deps_data, deps_chain, deps_guard, deps_phase, deps_text, deps_gc, depFacts_nil, depFacts_cons, factAt_zero, factAt_succ, and_true, isV_eq] at hd
      obtain ⟨x27a, x27b, x27c, h27, k27a, k27b, k27c⟩ := hd.2.1
      obtain ⟨x1, h1, k1⟩ := hd.2.2.2.1
      obtain ⟨x5, h5, k5⟩ := hd.2.2.2.2.2.2.2.1
      have hc := (gcell hG).1
      have hf := (gcell hG).2.1
      have hz := (gcell hG).2.2
      refine stepD_plain rfl rfl (fun R hR => ?_)
      unfold Oper.gives
      go_simp
      exact hR _ _ (isV_rfl _) (Grew.refl _)
  case hQ =>
    intro ν w' hG hd
    simp only [List.take_succ_cons, List.take_zero, List.map_cons, List.map_nil, List.drop_succ_cons, List.drop_zero, List.range, List.range.loop, depFacts_nil, depFacts_cons, factAt_zero, factAt_succ, and_true, isV_eq] at hd ⊢
    obtain ⟨x1, h1, k1⟩ := hd.2.1
    obtain ⟨x5, h5, k5⟩ := hd.2.2.2.2.2.1
    obtain ⟨x27a, x27b, x27c, h27, k27a, k27b, k27c⟩ := hd.2.2.2.2.2.2.2.2.2.2.2.2.2.2.2.2.2.2.2.2.2.2.2.2.2.2.2.1
    simp only [frameD_cons, frameD_nil, List.getD_cons_zero, List.getD_cons_succ, Act.put, hd, h1, h5, h27, List.setIfInBounds_toArray, List.set_cons_zero, List.set_cons_succ]
    clear hd h1 h5 h27
    have hc := (gcell hG).1
    have hf := (gcell hG).2.1
    have hz := (gcell hG).2.2
    go_wp2
    go_ret
    exact ret_of (isB_of rfl) (by repeat (first | exact Grew.refl _ | assumption | refine Grew.drewN ?_ _ | refine Grew.drew ?_ | refine Grew.alloc ?_ _ | refine Grew.setCell ?_ (by simp; try omega) _ | refine Grew.trans ?_ (by assumption)))
end Go.Proofs.Ytfcholpgebcooaa
