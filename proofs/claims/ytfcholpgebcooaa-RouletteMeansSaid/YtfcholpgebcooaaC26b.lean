/- Lights: what each call gives (the reference's and the program's), and the chance to go on. -/
import Derived.Test.YtfcholpgebcooaaC26a
namespace Go.Proofs.Ytfcholpgebcooaa
open Go.RowKit
set_option linter.unusedSimpArgs false
set_option linter.unusedVariables false

set_option maxHeartbeats 400000 in
theorem c94 (a b : Nat) (w : World) : Calls Try.prog 94 #[.float .f64 a, .float .f64 b] w (RetQ (isF (fadd (fcls a) (fcls b))) w) := by
  go_enter Try.func94, Try.ntmps94
  go_wp2_with (refine wpList_fop rfl rfl rfl rfl rfl ?_; intro r n hr)
  go_ret
  exact retq_drewN (isF_of hr)
set_option maxHeartbeats 400000 in
theorem c103 (a b : Nat) (w : World) : Calls Try.prog 103 #[.float .f64 a, .float .f64 b] w (RetQ (isF (fmul (fcls a) (fcls b))) w) := by
  go_enter Try.func103, Try.ntmps103
  go_wp2_with (refine wpList_fop rfl rfl rfl rfl rfl ?_; intro r n hr)
  go_ret
  exact retq_drewN (isF_of hr)
set_option maxHeartbeats 400000 in
theorem c13 (a b c d e f : Nat) (w : World) : Calls Try.prog 13 #[.agg #[.float .f64 a, .float .f64 b, .float .f64 c], .agg #[.float .f64 d, .float .f64 e, .float .f64 f]] w (Ret (isRGB (rAdd ⟨fcls a, fcls b, fcls c⟩ ⟨fcls d, fcls e, fcls f⟩)) w) := by
  go_enter Try.func13, Try.ntmps13
  go_wp2_with (refine wpList_fop rfl rfl rfl rfl rfl ?_; intro r n hr)
  refine bodyPost_ret (v := .agg #[_, _, _]) (by simp [results, Try.results13, go_sem]; exact ⟨rfl, rfl, rfl⟩) rfl ?_
  exact ret_of (isRGB_of ‹_› ‹_› ‹_›) (by repeat (first | exact Grew.refl _ | assumption | refine Grew.drewN ?_ _ | refine Grew.drew ?_ | refine Grew.alloc ?_ _ | refine Grew.setCell ?_ (by simp; try omega) _ | refine Grew.trans ?_ (by assumption)))
set_option maxHeartbeats 400000 in
theorem c14 (a b c d : Nat) (w : World) : Calls Try.prog 14 #[.agg #[.float .f64 a, .float .f64 b, .float .f64 c], .float .f64 d] w (Ret (isRGB (rScale ⟨fcls a, fcls b, fcls c⟩ (fcls d))) w) := by
  go_enter Try.func14, Try.ntmps14
  go_wp2_with (refine wpList_fop rfl rfl rfl rfl rfl ?_; intro r n hr)
  refine bodyPost_ret (v := .agg #[_, _, _]) (by simp [results, Try.results14, go_sem]; exact ⟨rfl, rfl, rfl⟩) rfl ?_
  exact ret_of (isRGB_of ‹_› ‹_› ‹_›) (by repeat (first | exact Grew.refl _ | assumption | refine Grew.drewN ?_ _ | refine Grew.drew ?_ | refine Grew.alloc ?_ _ | refine Grew.setCell ?_ (by simp; try omega) _ | refine Grew.trans ?_ (by assumption)))
set_option maxHeartbeats 400000 in
theorem c96 (a : Nat) (w : World) : Calls Try.prog 96 #[.float .f64 a] w (Ret (isV (.agg #[.float .f64 a, .float .f64 a, .float .f64 a])) w) := by
  go_enter Try.func96, Try.ntmps96
  go_wp2
  refine bodyPost_ret (v := .agg #[_, _, _]) (by simp [results, Try.results96, go_sem]; exact ⟨rfl, rfl, rfl⟩) rfl ?_
  exact ret_of (isV_rfl _) (by repeat (first | exact Grew.refl _ | assumption | refine Grew.drewN ?_ _ | refine Grew.drew ?_ | refine Grew.alloc ?_ _ | refine Grew.setCell ?_ (by simp; try omega) _ | refine Grew.trans ?_ (by assumption)))
set_option maxHeartbeats 400000 in
theorem c93 (fn : Nat) (op : FV → FV → FV) (hfn : ∀ args w, (callFunc fn args).run Try.prog w = .ok (.enter fn args) w) (hf : ∀ a b w, Calls Try.prog fn #[.float .f64 a, .float .f64 b] w (RetQ (isF (op (fcls a) (fcls b))) w))
    (a b c d e f : Nat) (w : World) : Calls Try.prog 93 #[.agg #[.float .f64 a, .float .f64 b, .float .f64 c], .agg #[.float .f64 d, .float .f64 e, .float .f64 f], .func (.func fn) #[] #[]] w (Ret (isRGB ⟨op (fcls a) (fcls d), op (fcls b) (fcls e), op (fcls c) (fcls f)⟩) w) := by
  have Hf := Lib.hid hf
  clear hf
  go_enter Try.func93, Try.ntmps93
  go_wp2
  apply wp_region_pure 19 [isV _, isV _, isV _, isV _, isV _, isF (op (fcls a) (fcls d)), isV _, isV _, isV _, isV _, isV _, isF (op (fcls b) (fcls e)), isV _, isV _, isV _, isV _, isV _, isF (op (fcls c) (fcls f)), isRGB ⟨op (fcls a) (fcls d), op (fcls b) (fcls e), op (fcls c) (fcls f)⟩] (by kernel_rfl) (by kernel_rfl)
  case hops =>
    simp only [List.take_succ_cons, List.take_zero, List.map_cons, List.map_nil]
    refine allSteps_cons (fun ν w' hG hd => ?_) ?_
    · simp only [deps_mk, deps_nil, deps_data, deps_chain, deps_guard, deps_phase, deps_text, deps_gc, depFacts_nil, depFacts_cons, factAt_zero, factAt_succ, and_true, isV_eq] at hd
      have hc := (gcell hG).1
      have hf := (gcell hG).2.1
      have hz := (gcell hG).2.2
      refine stepD_plain rfl rfl (fun R hR => ?_)
      unfold Oper.gives
      go_simp
      exact hR _ _ (isV_rfl _) (Grew.refl _)
    refine allSteps_cons (fun ν w' hG hd => ?_) ?_
    · simp only [deps_mk, deps_nil, deps_data, deps_chain, deps_guard, deps_phase, deps_text, deps_gc, depFacts_nil, depFacts_cons, factAt_zero, factAt_succ, and_true, isV_eq] at hd
      have hc := (gcell hG).1
      have hf := (gcell hG).2.1
      have hz := (gcell hG).2.2
      refine stepD_plain rfl rfl (fun R hR => ?_)
      unfold Oper.gives
      go_simp
      exact hR _ _ (isV_rfl _) (Grew.refl _)
    refine allSteps_cons (fun ν w' hG hd => ?_) ?_
    · simp only [deps_mk, deps_nil, deps_data, deps_chain, deps_guard, deps_phase, deps_text, deps_gc, depFacts_nil, depFacts_cons, factAt_zero, factAt_succ, and_true, isV_eq] at hd
      have hc := (gcell hG).1
      have hf := (gcell hG).2.1
      have hz := (gcell hG).2.2
      refine stepD_plain rfl rfl (fun R hR => ?_)
      unfold Oper.gives
      go_simp
      exact hR _ _ (isV_rfl _) (Grew.refl _)
    refine allSteps_cons (fun ν w' hG hd => ?_) ?_
    · simp only [deps_mk, deps_nil, deps_data, deps_chain, deps_guard, deps_phase, deps_text, deps_gc, depFacts_nil, depFacts_cons, factAt_zero, factAt_succ, and_true, isV_eq] at hd
      have hc := (gcell hG).1
      have hf := (gcell hG).2.1
      have hz := (gcell hG).2.2
      refine stepD_plain rfl rfl (fun R hR => ?_)
      unfold Oper.gives
      go_simp
      exact hR _ _ (isV_rfl _) (Grew.refl _)
    refine allSteps_cons (fun ν w' hG hd => ?_) ?_
    · simp only [deps_mk, deps_nil, deps_data, deps_chain, deps_guard, deps_phase, deps_text, deps_gc, depFacts_nil, depFacts_cons, factAt_zero, factAt_succ, and_true, isV_eq] at hd
      have hc := (gcell hG).1
      have hf := (gcell hG).2.1
      have hz := (gcell hG).2.2
      refine stepD_plain rfl rfl (fun R hR => ?_)
      unfold Oper.gives
      go_simp
      exact hR _ _ (isV_rfl _) (Grew.refl _)
    refine allSteps_cons (fun ν w' hG hd => ?_) ?_
    · simp only [deps_mk, deps_nil, deps_data, deps_chain, deps_guard, deps_phase, deps_text, deps_gc, depFacts_nil, depFacts_cons, factAt_zero, factAt_succ, and_true, isV_eq] at hd
      have hc := (gcell hG).1
      have hf := (gcell hG).2.1
      have hz := (gcell hG).2.2
      refine stepD_plain rfl rfl (fun R hR => ?_)
      unfold Oper.gives
      go_simp
      refine (Hf.out _ _ _).mono ?_
      intro e w2 hq
      obtain ⟨v, rfl, hv, hg⟩ := RetQ.ret hq
      exact ⟨v, rfl, hR _ _ hv hg⟩
    refine allSteps_cons (fun ν w' hG hd => ?_) ?_
    · simp only [deps_mk, deps_nil, deps_data, deps_chain, deps_guard, deps_phase, deps_text, deps_gc, depFacts_nil, depFacts_cons, factAt_zero, factAt_succ, and_true, isV_eq] at hd
      have hc := (gcell hG).1
      have hf := (gcell hG).2.1
      have hz := (gcell hG).2.2
      refine stepD_plain rfl rfl (fun R hR => ?_)
      unfold Oper.gives
      go_simp
      exact hR _ _ (isV_rfl _) (Grew.refl _)
    refine allSteps_cons (fun ν w' hG hd => ?_) ?_
    · simp only [deps_mk, deps_nil, deps_data, deps_chain, deps_guard, deps_phase, deps_text, deps_gc, depFacts_nil, depFacts_cons, factAt_zero, factAt_succ, and_true, isV_eq] at hd
      have hc := (gcell hG).1
      have hf := (gcell hG).2.1
      have hz := (gcell hG).2.2
      refine stepD_plain rfl rfl (fun R hR => ?_)
      unfold Oper.gives
      go_simp
      exact hR _ _ (isV_rfl _) (Grew.refl _)
    refine allSteps_cons (fun ν w' hG hd => ?_) ?_
    · simp only [deps_mk, deps_nil, deps_data, deps_chain, deps_guard, deps_phase, deps_text, deps_gc, depFacts_nil, depFacts_cons, factAt_zero, factAt_succ, and_true, isV_eq] at hd
      have hc := (gcell hG).1
      have hf := (gcell hG).2.1
      have hz := (gcell hG).2.2
      refine stepD_plain rfl rfl (fun R hR => ?_)
      unfold Oper.gives
      go_simp
      exact hR _ _ (isV_rfl _) (Grew.refl _)
    refine allSteps_cons (fun ν w' hG hd => ?_) ?_
    · simp only [deps_mk, deps_nil, deps_data, deps_chain, deps_guard, deps_phase, deps_text, deps_gc, depFacts_nil, depFacts_cons, factAt_zero, factAt_succ, and_true, isV_eq] at hd
      have hc := (gcell hG).1
      have hf := (gcell hG).2.1
      have hz := (gcell hG).2.2
      refine stepD_plain rfl rfl (fun R hR => ?_)
      unfold Oper.gives
      go_simp
      exact hR _ _ (isV_rfl _) (Grew.refl _)
    refine allSteps_cons (fun ν w' hG hd => ?_) ?_
    · simp only [deps_mk, deps_nil, deps_data, deps_chain, deps_guard, deps_phase, deps_text, deps_gc, depFacts_nil, depFacts_cons, factAt_zero, factAt_succ, and_true, isV_eq] at hd
      have hc := (gcell hG).1
      have hf := (gcell hG).2.1
      have hz := (gcell hG).2.2
      refine stepD_plain rfl rfl (fun R hR => ?_)
      unfold Oper.gives
      go_simp
      exact hR _ _ (isV_rfl _) (Grew.refl _)
    refine allSteps_cons (fun ν w' hG hd => ?_) ?_
    · simp only [deps_mk, deps_nil, deps_data, deps_chain, deps_guard, deps_phase, deps_text, deps_gc, depFacts_nil, depFacts_cons, factAt_zero, factAt_succ, and_true, isV_eq] at hd
      obtain ⟨x5, h5, k5⟩ := hd.2.2.2
      have hc := (gcell hG).1
      have hf := (gcell hG).2.1
      have hz := (gcell hG).2.2
      refine stepD_plain rfl rfl (fun R hR => ?_)
      unfold Oper.gives
      go_simp
      refine (Hf.out _ _ _).mono ?_
      intro e w2 hq
      obtain ⟨v, rfl, hv, hg⟩ := RetQ.ret hq
      exact ⟨v, rfl, hR _ _ hv hg⟩
    refine allSteps_cons (fun ν w' hG hd => ?_) ?_
    · simp only [deps_mk, deps_nil, deps_data, deps_chain, deps_guard, deps_phase, deps_text, deps_gc, depFacts_nil, depFacts_cons, factAt_zero, factAt_succ, and_true, isV_eq] at hd
      have hc := (gcell hG).1
      have hf := (gcell hG).2.1
      have hz := (gcell hG).2.2
      refine stepD_plain rfl rfl (fun R hR => ?_)
      unfold Oper.gives
      go_simp
      exact hR _ _ (isV_rfl _) (Grew.refl _)
    refine allSteps_cons (fun ν w' hG hd => ?_) ?_
    · simp only [deps_mk, deps_nil, deps_data, deps_chain, deps_guard, deps_phase, deps_text, deps_gc, depFacts_nil, depFacts_cons, factAt_zero, factAt_succ, and_true, isV_eq] at hd
      have hc := (gcell hG).1
      have hf := (gcell hG).2.1
      have hz := (gcell hG).2.2
      refine stepD_plain rfl rfl (fun R hR => ?_)
      unfold Oper.gives
      go_simp
      exact hR _ _ (isV_rfl _) (Grew.refl _)
    refine allSteps_cons (fun ν w' hG hd => ?_) ?_
    · simp only [deps_mk, deps_nil, deps_data, deps_chain, deps_guard, deps_phase, deps_text, deps_gc, depFacts_nil, depFacts_cons, factAt_zero, factAt_succ, and_true, isV_eq] at hd
      have hc := (gcell hG).1
      have hf := (gcell hG).2.1
      have hz := (gcell hG).2.2
      refine stepD_plain rfl rfl (fun R hR => ?_)
      unfold Oper.gives
      go_simp
      exact hR _ _ (isV_rfl _) (Grew.refl _)
    refine allSteps_cons (fun ν w' hG hd => ?_) ?_
    · simp only [deps_mk, deps_nil, deps_data, deps_chain, deps_guard, deps_phase, deps_text, deps_gc, depFacts_nil, depFacts_cons, factAt_zero, factAt_succ, and_true, isV_eq] at hd
      have hc := (gcell hG).1
      have hf := (gcell hG).2.1
      have hz := (gcell hG).2.2
      refine stepD_plain rfl rfl (fun R hR => ?_)
      unfold Oper.gives
      go_simp
      exact hR _ _ (isV_rfl _) (Grew.refl _)
    refine allSteps_cons (fun ν w' hG hd => ?_) ?_
    · simp only [deps_mk, deps_nil, deps_data, deps_chain, deps_guard, deps_phase, deps_text, deps_gc, depFacts_nil, depFacts_cons, factAt_zero, factAt_succ, and_true, isV_eq] at hd
      have hc := (gcell hG).1
      have hf := (gcell hG).2.1
      have hz := (gcell hG).2.2
      refine stepD_plain rfl rfl (fun R hR => ?_)
      unfold Oper.gives
      go_simp
      exact hR _ _ (isV_rfl _) (Grew.refl _)
    refine allSteps_cons (fun ν w' hG hd => ?_) ?_
    · simp only [deps_mk, deps_nil, deps_data, deps_chain, deps_guard, deps_phase, deps_text, deps_gc, depFacts_nil, depFacts_cons, factAt_zero, factAt_succ, and_true, isV_eq] at hd
      obtain ⟨x11, h11, k11⟩ := hd.2.2.2
      have hc := (gcell hG).1
      have hf := (gcell hG).2.1
      have hz := (gcell hG).2.2
      refine stepD_plain rfl rfl (fun R hR => ?_)
      unfold Oper.gives
      go_simp
      refine (Hf.out _ _ _).mono ?_
      intro e w2 hq
      obtain ⟨v, rfl, hv, hg⟩ := RetQ.ret hq
      exact ⟨v, rfl, hR _ _ hv hg⟩
    refine allSteps_cons (fun ν w' hG hd => ?_) (allSteps_nil _)
    · simp only [deps_mk, deps_nil, deps_data, deps_chain, deps_guard, deps_phase, deps_text, deps_gc, depFacts_nil, depFacts_cons, factAt_zero, factAt_succ, and_true, isV_eq] at hd
      obtain ⟨x5, h5, k5⟩ := hd.1
      obtain ⟨x11, h11, k11⟩ := hd.2.1
      obtain ⟨x17, h17, k17⟩ := hd.2.2
      have hc := (gcell hG).1
      have hf := (gcell hG).2.1
      have hz := (gcell hG).2.2
      refine stepD_plain rfl rfl (fun R hR => ?_)
      unfold Oper.gives
      go_simp
      exact hR _ _ (isRGB_of ‹_› ‹_› ‹_›) (Grew.refl _)
  case hQ =>
    intro ν w' hG hd
    simp only [List.take_succ_cons, List.take_zero, List.map_cons, List.map_nil, List.drop_succ_cons, List.drop_zero, List.range, List.range.loop, depFacts_nil, depFacts_cons, factAt_zero, factAt_succ, and_true, isV_eq] at hd ⊢
    obtain ⟨x5, h5, k5⟩ := hd.2.2.2.2.2.1
    obtain ⟨x11, h11, k11⟩ := hd.2.2.2.2.2.2.2.2.2.2.2.1
    obtain ⟨x17, h17, k17⟩ := hd.2.2.2.2.2.2.2.2.2.2.2.2.2.2.2.2.2.1
    obtain ⟨x18a, x18b, x18c, h18, k18a, k18b, k18c⟩ := hd.2.2.2.2.2.2.2.2.2.2.2.2.2.2.2.2.2.2
    simp only [frameD_cons, frameD_nil, List.getD_cons_zero, List.getD_cons_succ, Act.put, hd, h5, h11, h17, h18, List.setIfInBounds_toArray, List.set_cons_zero, List.set_cons_succ]
    clear hd h5 h11 h17 h18
    have hc := (gcell hG).1
    have hf := (gcell hG).2.1
    have hz := (gcell hG).2.2
    go_wp2
    refine bodyPost_ret (v := .agg #[.float .f64 x18a, .float .f64 x18b, .float .f64 x18c]) (by simp [results, Try.results93, go_sem, hz, hc, hf]) rfl ?_
    exact ret_of (isRGB_of ‹_› ‹_› ‹_›) (by repeat (first | exact Grew.refl _ | assumption | refine Grew.drewN ?_ _ | refine Grew.drew ?_ | refine Grew.alloc ?_ _ | refine Grew.setCell ?_ (by simp; try omega) _ | refine Grew.trans ?_ (by assumption)))
theorem callFunc94 (args : Array Value) (w : World) : (callFunc 94 args).run Try.prog w = .ok (.enter 94 args) w := by go_simp
theorem c93_94 (a b c d e f : Nat) (w : World) : Calls Try.prog 93 #[.agg #[.float .f64 a, .float .f64 b, .float .f64 c], .agg #[.float .f64 d, .float .f64 e, .float .f64 f], .func (.func 94) #[] #[]] w (Ret (isRGB ⟨fadd (fcls a) (fcls d), fadd (fcls b) (fcls e), fadd (fcls c) (fcls f)⟩) w) :=
  c93 94 fadd callFunc94 c94 a b c d e f w
theorem callFunc103 (args : Array Value) (w : World) : (callFunc 103 args).run Try.prog w = .ok (.enter 103 args) w := by go_simp
theorem c93_103 (a b c d e f : Nat) (w : World) : Calls Try.prog 93 #[.agg #[.float .f64 a, .float .f64 b, .float .f64 c], .agg #[.float .f64 d, .float .f64 e, .float .f64 f], .func (.func 103) #[] #[]] w (Ret (isRGB ⟨fmul (fcls a) (fcls d), fmul (fcls b) (fcls e), fmul (fcls c) (fcls f)⟩) w) :=
  c93 103 fmul callFunc103 c103 a b c d e f w
set_option maxHeartbeats 400000 in
theorem c63 (a b c d e f : Nat) (w : World) : Calls Try.prog 63 #[.agg #[.float .f64 a, .float .f64 b, .float .f64 c], .agg #[.float .f64 d, .float .f64 e, .float .f64 f]] w (Ret (isRGB (rAdd ⟨fcls a, fcls b, fcls c⟩ ⟨fcls d, fcls e, fcls f⟩)) w) := by
  go_enter Try.func63, Try.ntmps63
  go_wp2_with (go_at_call 93; refine (c93_94 _ _ _ _ _ _ _).mono ?_; rintro e w1 ⟨_, rfl, ⟨x, y, z, rfl, hx, hy, hz⟩, hg⟩; obtain ⟨hc, hf, hs⟩ := gcell hg; simp at hs)
  refine bodyPost_ret (v := .agg #[.float .f64 x, .float .f64 y, .float .f64 z]) (by simp [results, Try.results63, go_sem, hc, hf]) rfl ?_
  exact ret_of (isRGB_of hx hy hz) (by repeat (first | exact Grew.refl _ | assumption | refine Grew.drewN ?_ _ | refine Grew.drew ?_ | refine Grew.alloc ?_ _ | refine Grew.setCell ?_ (by simp; try omega) _ | refine Grew.trans ?_ (by assumption)))
set_option maxHeartbeats 400000 in
theorem c95 (a b c d e f : Nat) (w : World) : Calls Try.prog 95 #[.agg #[.float .f64 a, .float .f64 b, .float .f64 c], .agg #[.float .f64 d, .float .f64 e, .float .f64 f]] w (Ret (isRGB (rMul ⟨fcls a, fcls b, fcls c⟩ ⟨fcls d, fcls e, fcls f⟩)) w) := by
  go_enter Try.func95, Try.ntmps95
  go_wp2_with (go_at_call 93; refine (c93_103 _ _ _ _ _ _ _).mono ?_; rintro e w1 ⟨_, rfl, ⟨x, y, z, rfl, hx, hy, hz⟩, hg⟩; obtain ⟨hc, hf, hs⟩ := gcell hg; simp at hs)
  refine bodyPost_ret (v := .agg #[.float .f64 x, .float .f64 y, .float .f64 z]) (by simp [results, Try.results95, go_sem, hc, hf]) rfl ?_
  exact ret_of (isRGB_of hx hy hz) (by repeat (first | exact Grew.refl _ | assumption | refine Grew.drewN ?_ _ | refine Grew.drew ?_ | refine Grew.alloc ?_ _ | refine Grew.setCell ?_ (by simp; try omega) _ | refine Grew.trans ?_ (by assumption)))
set_option maxHeartbeats 400000 in
theorem c64 (a b c d : Nat) (w : World) : Calls Try.prog 64 #[.agg #[.float .f64 a, .float .f64 b, .float .f64 c], .float .f64 d] w (Ret (isRGB (rScale ⟨fcls a, fcls b, fcls c⟩ (fcls d))) w) := by
  go_enter Try.func64, Try.ntmps64
  go_wp2
  apply wp_region_pure 4 [isV _, isV _, isV (.agg #[.float .f64 d, .float .f64 d, .float .f64 d]), isRGB (rScale ⟨fcls a, fcls b, fcls c⟩ (fcls d))] (by kernel_rfl) (by kernel_rfl)
  case hops =>
    simp only [List.take_succ_cons, List.take_zero, List.map_cons, List.map_nil]
    refine allSteps_cons (fun ν w' hG hd => ?_) ?_
    · simp only [deps_mk, deps_nil, deps_data, deps_chain, deps_guard, deps_phase, deps_text, deps_gc, depFacts_nil, depFacts_cons, factAt_zero, factAt_succ, and_true, isV_eq] at hd
      have hc := (gcell hG).1
      have hf := (gcell hG).2.1
      have hz := (gcell hG).2.2
      refine stepD_plain rfl rfl (fun R hR => ?_)
      unfold Oper.gives
      go_simp
      exact hR _ _ (isV_rfl _) (Grew.refl _)
    refine allSteps_cons (fun ν w' hG hd => ?_) ?_
    · simp only [deps_mk, deps_nil, deps_data, deps_chain, deps_guard, deps_phase, deps_text, deps_gc, depFacts_nil, depFacts_cons, factAt_zero, factAt_succ, and_true, isV_eq] at hd
      have hc := (gcell hG).1
      have hf := (gcell hG).2.1
      have hz := (gcell hG).2.2
      refine stepD_plain rfl rfl (fun R hR => ?_)
      unfold Oper.gives
      go_simp
      exact hR _ _ (isV_rfl _) (Grew.refl _)
    refine allSteps_cons (fun ν w' hG hd => ?_) ?_
    · simp only [deps_mk, deps_nil, deps_data, deps_chain, deps_guard, deps_phase, deps_text, deps_gc, depFacts_nil, depFacts_cons, factAt_zero, factAt_succ, and_true, isV_eq] at hd
      have hc := (gcell hG).1
      have hf := (gcell hG).2.1
      have hz := (gcell hG).2.2
      refine stepD_plain rfl rfl (fun R hR => ?_)
      unfold Oper.gives
      go_simp
      refine (c96 _ _).mono ?_
      rintro e w2 ⟨v, rfl, hv, hg⟩
      exact ⟨v, rfl, hR _ _ hv hg⟩
    refine allSteps_cons (fun ν w' hG hd => ?_) (allSteps_nil _)
    · simp only [deps_mk, deps_nil, deps_data, deps_chain, deps_guard, deps_phase, deps_text, deps_gc, depFacts_nil, depFacts_cons, factAt_zero, factAt_succ, and_true, isV_eq] at hd
      have hc := (gcell hG).1
      have hf := (gcell hG).2.1
      have hz := (gcell hG).2.2
      refine stepD_plain rfl rfl (fun R hR => ?_)
      unfold Oper.gives
      go_simp
      refine (c95 _ _ _ _ _ _ _).mono ?_
      rintro e w2 ⟨v, rfl, hv, hg⟩
      exact ⟨v, rfl, hR _ _ hv hg⟩
  case hQ =>
    intro ν w' hG hd
    simp only [List.take_succ_cons, List.take_zero, List.map_cons, List.map_nil, List.drop_succ_cons, List.drop_zero, List.range, List.range.loop, depFacts_nil, depFacts_cons, factAt_zero, factAt_succ, and_true, isV_eq] at hd ⊢
    obtain ⟨x3a, x3b, x3c, h3, k3a, k3b, k3c⟩ := hd.2.2.2
    simp only [frameD_cons, frameD_nil, List.getD_cons_zero, List.getD_cons_succ, Act.put, hd, h3, List.setIfInBounds_toArray, List.set_cons_zero, List.set_cons_succ]
    clear hd h3
    have hc := (gcell hG).1
    have hf := (gcell hG).2.1
    have hz := (gcell hG).2.2
    go_wp2
    refine bodyPost_ret (v := .agg #[.float .f64 x3a, .float .f64 x3b, .float .f64 x3c]) (by simp [results, Try.results64, go_sem, hc, hf]) rfl ?_
    exact ret_of (isRGB_of ‹_› ‹_› ‹_›) (by repeat (first | exact Grew.refl _ | assumption | refine Grew.drewN ?_ _ | refine Grew.drew ?_ | refine Grew.alloc ?_ _ | refine Grew.setCell ?_ (by simp; try omega) _ | refine Grew.trans ?_ (by assumption)))
set_option maxHeartbeats 400000 in
theorem c89 (a b c : Nat) (w : World) : Calls Try.prog 89 #[.agg #[.float .f64 a, .float .f64 b, .float .f64 c]] w (Ret (isF (rMost ⟨fcls a, fcls b, fcls c⟩)) w) := by
  go_enter Try.func89, Try.ntmps89
  go_wp2
  apply wp_region_pure 9 [isV _, isV _, isV _, isV _, isF (fhi (fcls a) (fcls b)), isV _, isV _, isF (fhi (fhi (fcls a) (fcls b)) (fcls c)), isF (fhi (fhi (fcls a) (fcls b)) (fcls c))] (by kernel_rfl) (by kernel_rfl)
  case hops =>
    simp only [List.take_succ_cons, List.take_zero, List.map_cons, List.map_nil]
    refine allSteps_cons (fun ν w' hG hd => ?_) ?_
    · simp only [deps_mk, deps_nil, deps_data, deps_chain, deps_guard, deps_phase, deps_text, deps_gc, depFacts_nil, depFacts_cons, factAt_zero, factAt_succ, and_true, isV_eq] at hd
      have hc := (gcell hG).1
      have hf := (gcell hG).2.1
      have hz := (gcell hG).2.2
      refine stepD_plain rfl rfl (fun R hR => ?_)
      unfold Oper.gives
      go_simp
      exact hR _ _ (isV_rfl _) (Grew.refl _)
    refine allSteps_cons (fun ν w' hG hd => ?_) ?_
    · simp only [deps_mk, deps_nil, deps_data, deps_chain, deps_guard, deps_phase, deps_text, deps_gc, depFacts_nil, depFacts_cons, factAt_zero, factAt_succ, and_true, isV_eq] at hd
      have hc := (gcell hG).1
      have hf := (gcell hG).2.1
      have hz := (gcell hG).2.2
      refine stepD_plain rfl rfl (fun R hR => ?_)
      unfold Oper.gives
      go_simp
      exact hR _ _ (isV_rfl _) (Grew.refl _)
    refine allSteps_cons (fun ν w' hG hd => ?_) ?_
    · simp only [deps_mk, deps_nil, deps_data, deps_chain, deps_guard, deps_phase, deps_text, deps_gc, depFacts_nil, depFacts_cons, factAt_zero, factAt_succ, and_true, isV_eq] at hd
      have hc := (gcell hG).1
      have hf := (gcell hG).2.1
      have hz := (gcell hG).2.2
      refine stepD_plain rfl rfl (fun R hR => ?_)
      unfold Oper.gives
      go_simp
      exact hR _ _ (isV_rfl _) (Grew.refl _)
    refine allSteps_cons (fun ν w' hG hd => ?_) ?_
    · simp only [deps_mk, deps_nil, deps_data, deps_chain, deps_guard, deps_phase, deps_text, deps_gc, depFacts_nil, depFacts_cons, factAt_zero, factAt_succ, and_true, isV_eq] at hd
      have hc := (gcell hG).1
      have hf := (gcell hG).2.1
      have hz := (gcell hG).2.2
      refine stepD_plain rfl rfl (fun R hR => ?_)
      unfold Oper.gives
      go_simp
      exact hR _ _ (isV_rfl _) (Grew.refl _)
    refine allSteps_cons (fun ν w' hG hd => ?_) ?_
    · simp only [deps_mk, deps_nil, deps_data, deps_chain, deps_guard, deps_phase, deps_text, deps_gc, depFacts_nil, depFacts_cons, factAt_zero, factAt_succ, and_true, isV_eq] at hd
      have hc := (gcell hG).1
      have hf := (gcell hG).2.1
      have hz := (gcell hG).2.2
      refine stepD_plain rfl rfl (fun R hR => ?_)
      unfold Oper.gives
      go_simp
      refine (c102 _ _ _).mono ?_
      intro e w2 hq
      obtain ⟨v, rfl, hv, hg⟩ := RetQ.ret hq
      exact ⟨v, rfl, hR _ _ hv hg⟩
    refine allSteps_cons (fun ν w' hG hd => ?_) ?_
    · simp only [deps_mk, deps_nil, deps_data, deps_chain, deps_guard, deps_phase, deps_text, deps_gc, depFacts_nil, depFacts_cons, factAt_zero, factAt_succ, and_true, isV_eq] at hd
      have hc := (gcell hG).1
      have hf := (gcell hG).2.1
      have hz := (gcell hG).2.2
      refine stepD_plain rfl rfl (fun R hR => ?_)
      unfold Oper.gives
      go_simp
      exact hR _ _ (isV_rfl _) (Grew.refl _)
    refine allSteps_cons (fun ν w' hG hd => ?_) ?_
    · simp only [deps_mk, deps_nil, deps_data, deps_chain, deps_guard, deps_phase, deps_text, deps_gc, depFacts_nil, depFacts_cons, factAt_zero, factAt_succ, and_true, isV_eq] at hd
      have hc := (gcell hG).1
      have hf := (gcell hG).2.1
      have hz := (gcell hG).2.2
      refine stepD_plain rfl rfl (fun R hR => ?_)
      unfold Oper.gives
      go_simp
      exact hR _ _ (isV_rfl _) (Grew.refl _)
    refine allSteps_cons (fun ν w' hG hd => ?_) ?_
    · simp only [deps_mk, deps_nil, deps_data, deps_chain, deps_guard, deps_phase, deps_text, deps_gc, depFacts_nil, depFacts_cons, factAt_zero, factAt_succ, and_true, isV_eq] at hd
      obtain ⟨x4, h4, k4⟩ := hd.1
      have hc := (gcell hG).1
      have hf := (gcell hG).2.1
      have hz := (gcell hG).2.2
      refine stepD_plain rfl rfl (fun R hR => ?_)
      unfold Oper.gives
      go_simp
      refine (c102 _ _ _).mono ?_
      intro e w2 hq
      obtain ⟨v, rfl, hv, hg⟩ := RetQ.ret hq
      rw [k4] at hv
      exact ⟨v, rfl, hR _ _ hv hg⟩
    refine allSteps_cons (fun ν w' hG hd => ?_) (allSteps_nil _)
    · simp only [deps_mk, deps_nil, deps_data, deps_chain, deps_guard, deps_phase, deps_text, deps_gc, depFacts_nil, depFacts_cons, factAt_zero, factAt_succ, and_true, isV_eq] at hd
      obtain ⟨x7, h7, k7⟩ := hd.1
      obtain ⟨x4, h4, k4⟩ := hd.2.2.2.2.2.2.1
      have hc := (gcell hG).1
      have hf := (gcell hG).2.1
      have hz := (gcell hG).2.2
      refine stepD_plain rfl rfl (fun R hR => ?_)
      unfold Oper.gives
      go_simp
      exact hR _ _ (isF_of ‹_›) (Grew.refl _)
  case hQ =>
    intro ν w' hG hd
    simp only [List.take_succ_cons, List.take_zero, List.map_cons, List.map_nil, List.drop_succ_cons, List.drop_zero, List.range, List.range.loop, depFacts_nil, depFacts_cons, factAt_zero, factAt_succ, and_true, isV_eq] at hd ⊢
    obtain ⟨x4, h4, k4⟩ := hd.2.2.2.2.1
    obtain ⟨x7, h7, k7⟩ := hd.2.2.2.2.2.2.2.1
    obtain ⟨x8, h8, k8⟩ := hd.2.2.2.2.2.2.2.2
    simp only [frameD_cons, frameD_nil, List.getD_cons_zero, List.getD_cons_succ, Act.put, hd, h4, h7, h8, List.setIfInBounds_toArray, List.set_cons_zero, List.set_cons_succ]
    clear hd h4 h7 h8
    have hc := (gcell hG).1
    have hf := (gcell hG).2.1
    have hz := (gcell hG).2.2
    go_wp2
    go_ret
    exact ret_of (isF_of ‹_›) (by repeat (first | exact Grew.refl _ | assumption | refine Grew.drewN ?_ _ | refine Grew.drew ?_ | refine Grew.alloc ?_ _ | refine Grew.setCell ?_ (by simp; try omega) _ | refine Grew.trans ?_ (by assumption)))
set_option maxHeartbeats 400000 in
theorem c90 (a b c : Nat) (w : World) : Calls Try.prog 90 #[.agg #[.float .f64 a, .float .f64 b, .float .f64 c]] w (Ret (isF (rMost ⟨fcls a, fcls b, fcls c⟩)) w) := by
  go_enter Try.func90, Try.ntmps90
  go_wp2
  refine wp_loop_rounds 3 ?_
  repeat any_goals (rw [rounds_succ]; go_wp2)
  all_goals
    go_ret
    exact ret_of (isF_of (by simp [rMost, fhi, *])) (by repeat (first | exact Grew.refl _ | assumption | refine Grew.drewN ?_ _ | refine Grew.drew ?_ | refine Grew.alloc ?_ _ | refine Grew.setCell ?_ (by simp; try omega) _ | refine Grew.trans ?_ (by assumption)))
end Go.Proofs.Ytfcholpgebcooaa
