/- The roulette: the chance to go on, and one play. -/
import Derived.Test.YtfcholpgebcooaaC26b
namespace Go.Proofs.Ytfcholpgebcooaa
open Go.RowKit
set_option linter.unusedSimpArgs false
set_option linter.unusedVariables false

theorem chance_prog {c : RGBv} (hc : c.ok) {k : Int} (hk : 3 ≤ k) (hg : rGood c = true) : fmm false (fmm true (rMost c) fleast) fone = chance c k := by
  rw [fmm_true, fmm_false, chance_mm (rMost_ok hc) (rMost_ne hg)]
  unfold chance
  rw [if_neg (c := k < 3 ∨ rGood c = false) (by rw [hg]; simp; omega)]
/-- The closure of a game lies over the chance's cell and the light's. -/
def playQ (c : RGBv) (q u : FV) : RGBv × Bool := if flt (clean u) q then (rScale c (fdiv fone q), true) else (rzero, false)
theorem playQ_t {c : RGBv} {q u : FV} (h : flt (clean u) q = true) : playQ c q u = (rScale c (fdiv fone q), true) := by unfold playQ; rw [if_pos h]
theorem playQ_f {c : RGBv} {q u : FV} (h : flt (clean u) q = false) : playQ c q u = (rzero, false) := by unfold playQ; rw [if_neg (by simp [h])]
def RetGame (a b c : Nat) (x : FV) (w : World) (e : Ending) (w' : World) : Prop := ∃ q p l, e = .returned (.func (.func 91) #[] #[.pointer (some ⟨p, 0, none⟩), .pointer (some ⟨l, 0, none⟩)]) ∧ fcls q = x ∧ Grew w w' ∧
    w'.cell? ⟨p, 0, none⟩ = some (.float .f64 q) ∧ w'.cell? ⟨l, 0, none⟩ = some (.float .f64 a) ∧ w'.cell? ⟨l, 1, none⟩ = some (.float .f64 b) ∧ w'.cell? ⟨l, 2, none⟩ = some (.float .f64 c)
set_option maxHeartbeats 400000 in
theorem c57 (a b c : Nat) (k : Int) (w : World) : Calls Try.prog 57 #[.agg #[.float .f64 a, .float .f64 b, .float .f64 c], .int .i64 k] w (Ret (isF (chance ⟨fcls a, fcls b, fcls c⟩ k)) w) := by
  go_enter Try.func57, Try.ntmps57
  go_wp2_with (first | (go_at_call 52; refine (c52 _ _ _ _).mono ?_; rintro e w1 ⟨_, rfl, rfl, hg⟩; obtain ⟨hc, hf, hz⟩ := gcell hg; simp at hz) | (go_at_call 89; refine (c89 _ _ _ _).mono ?_; rintro e w1 ⟨_, rfl, ⟨x, rfl, hx⟩, hg⟩))
  all_goals
    go_ret
    exact ret_of (isF_of (by grind [chance])) (by repeat (first | exact Grew.refl _ | assumption | refine Grew.drewN ?_ _ | refine Grew.drew ?_ | refine Grew.alloc ?_ _ | refine Grew.setCell ?_ (by simp; try omega) _ | refine Grew.trans ?_ (by assumption)))
set_option maxHeartbeats 400000 in
theorem c60 (a b c : Nat) (k : Int) (w : World) : Calls Try.prog 60 #[.agg #[.float .f64 a, .float .f64 b, .float .f64 c], .int .i64 k] w (Ret (isF (chance ⟨fcls a, fcls b, fcls c⟩ k)) w) := by
  have H := Lib.hid (@chance_prog ⟨fcls a, fcls b, fcls c⟩ ⟨fcls_ok a, fcls_ok b, fcls_ok c⟩ k)
  go_enter Try.func60, Try.ntmps60
  go_wp2_with (first | (go_at_call 86; refine (c86 _ _ _ _).mono ?_; rintro e w1 ⟨_, rfl, rfl, hg⟩; obtain ⟨hc, hf, hz⟩ := gcell hg; simp at hz) | (go_at_call 90; refine (c90 _ _ _ _).mono ?_; rintro e w1 ⟨_, rfl, ⟨x, rfl, hx⟩, hg⟩) | (refine wpList_fmm true rfl rfl rfl rfl ?_; intro r n hr) | (refine wpList_fmm false rfl rfl rfl rfl ?_; intro r n hr))
  all_goals
    go_ret
    exact ret_of (isF_of (by have H2 := H.out; clear H; grind [chance])) (by repeat (first | exact Grew.refl _ | assumption | refine Grew.drewN ?_ _ | refine Grew.drew ?_ | refine Grew.alloc ?_ _ | refine Grew.setCell ?_ (by simp; try omega) _ | refine Grew.trans ?_ (by assumption)))
set_option maxHeartbeats 400000 in
theorem c62 (a b c : Nat) (k : Int) (w : World) : Calls Try.prog 62 #[.agg #[.float .f64 a, .float .f64 b, .float .f64 c], .int .i64 k] w (RetGame a b c (chance ⟨fcls a, fcls b, fcls c⟩ k) w) := by
  go_enter Try.func62, Try.ntmps62
  go_wp2_with (first | (go_at_call 60; refine (c60 _ _ _ _ _).mono ?_; rintro e w1 ⟨_, rfl, ⟨x, rfl, hx⟩, hg⟩; obtain ⟨hc, hf, hz⟩ := gcell hg; simp at hz))
  go_ret
  refine ⟨x, w1.heap.size, w.heap.size, rfl, hx, (by repeat (first | exact Grew.refl _ | assumption | refine Grew.drewN ?_ _ | refine Grew.drew ?_ | refine Grew.alloc ?_ _ | refine Grew.setCell ?_ (by simp; try omega) _ | refine Grew.trans ?_ (by assumption))), ?_, ?_, ?_, ?_⟩
  · go_simp
  · have h1 : w.heap.size < w1.heap.size := by omega
    go_simp
  · have h1 : w.heap.size < w1.heap.size := by omega
    go_simp
  · have h1 : w.heap.size < w1.heap.size := by omega
    go_simp
set_option maxHeartbeats 400000 in
theorem c91 (a b c u q p l : Nat) (w : World) (h0 : w.cell? ⟨p, 0, none⟩ = some (.float .f64 q)) (h1 : w.cell? ⟨l, 0, none⟩ = some (.float .f64 a)) (h2 : w.cell? ⟨l, 1, none⟩ = some (.float .f64 b)) (h3 : w.cell? ⟨l, 2, none⟩ = some (.float .f64 c)) :
    Calls Try.prog 91 #[.float .f64 u, .pointer (some ⟨p, 0, none⟩), .pointer (some ⟨l, 0, none⟩)] w (Ret (isT2 (isRGB (playQ ⟨fcls a, fcls b, fcls c⟩ (fcls q) (fcls u)).1) (isB (playQ ⟨fcls a, fcls b, fcls c⟩ (fcls q) (fcls u)).2)) w) := by
  have hp : p < w.heap.size := World.block_lt_of_cell? w _ h0
  have hl : l < w.heap.size := World.block_lt_of_cell? w _ h1
  go_enter Try.func91, Try.ntmps91
  go_wp2
  apply wp_region_pure 4 [isV _, isF (clean (fcls u)), isV _, isV (.bool (flt (clean (fcls u)) (fcls q)))] (by kernel_rfl) (by kernel_rfl)
  case hops =>
    simp only [List.take_succ_cons, List.take_zero, List.map_cons, List.map_nil]
    refine allSteps_cons (fun ν w' hG hd => ?_) ?_
    · simp only [deps_mk, deps_nil, deps_data, deps_chain, deps_guard, deps_phase, deps_text, deps_gc, depFacts_nil, depFacts_cons, factAt_zero, factAt_succ, and_true, isV_eq] at hd
      have hc := (gcell hG).1
      have hf := (gcell hG).2.1
      have hz := (gcell hG).2.2
      simp at hz; have hpw : p < w'.heap.size := (by omega); have hlw : l < w'.heap.size := (by omega)
      refine stepD_plain rfl rfl (fun R hR => ?_)
      unfold Oper.gives
      go_simp
      exact hR _ _ (isV_rfl _) (Grew.refl _)
    refine allSteps_cons (fun ν w' hG hd => ?_) ?_
    · simp only [deps_mk, deps_nil, deps_data, deps_chain, deps_guard, deps_phase, deps_text, deps_gc, depFacts_nil, depFacts_cons, factAt_zero, factAt_succ, and_true, isV_eq] at hd
      have hc := (gcell hG).1
      have hf := (gcell hG).2.1
      have hz := (gcell hG).2.2
      simp at hz; have hpw : p < w'.heap.size := (by omega); have hlw : l < w'.heap.size := (by omega)
      refine stepD_plain rfl rfl (fun R hR => ?_)
      unfold Oper.gives
      go_simp
      refine (c92 _ _).mono ?_
      intro e w2 hq
      obtain ⟨v, rfl, hv, hg⟩ := RetQ.ret hq
      exact ⟨v, rfl, hR _ _ hv hg⟩
    refine allSteps_cons (fun ν w' hG hd => ?_) ?_
    · simp only [deps_mk, deps_nil, deps_data, deps_chain, deps_guard, deps_phase, deps_text, deps_gc, depFacts_nil, depFacts_cons, factAt_zero, factAt_succ, and_true, isV_eq] at hd
      have hc := (gcell hG).1
      have hf := (gcell hG).2.1
      have hz := (gcell hG).2.2
      simp at hz; have hpw : p < w'.heap.size := (by omega); have hlw : l < w'.heap.size := (by omega)
      refine stepD_plain rfl rfl (fun R hR => ?_)
      unfold Oper.gives
      go_simp
      exact hR _ _ (isV_rfl _) (Grew.refl _)
    refine allSteps_cons (fun ν w' hG hd => ?_) (allSteps_nil _)
    · simp only [deps_mk, deps_nil, deps_data, deps_chain, deps_guard, deps_phase, deps_text, deps_gc, depFacts_nil, depFacts_cons, factAt_zero, factAt_succ, and_true, isV_eq] at hd
      obtain ⟨x1, h1, k1⟩ := hd.1
      have hc := (gcell hG).1
      have hf := (gcell hG).2.1
      have hz := (gcell hG).2.2
      simp at hz; have hpw : p < w'.heap.size := (by omega); have hlw : l < w'.heap.size := (by omega)
      refine stepD_plain rfl rfl (fun R hR => ?_)
      unfold Oper.gives
      go_simp
      exact hR _ _ (isV_rfl _) (Grew.refl _)
  case hQ =>
    intro ν w' hG hd
    simp only [List.take_succ_cons, List.take_zero, List.map_cons, List.map_nil, List.drop_succ_cons, List.drop_zero, List.range, List.range.loop, depFacts_nil, depFacts_cons, factAt_zero, factAt_succ, and_true, isV_eq] at hd ⊢
    obtain ⟨x1, h1, k1⟩ := hd.2.1
    simp only [frameD_cons, frameD_nil, List.getD_cons_zero, List.getD_cons_succ, Act.put, hd, h1, List.setIfInBounds_toArray, List.set_cons_zero, List.set_cons_succ]
    clear hd h1
    have hc := (gcell hG).1
    have hf := (gcell hG).2.1
    have hz := (gcell hG).2.2
    simp at hz
    have hpw : p < w'.heap.size := by omega
    have hlw : l < w'.heap.size := by omega
    have hww : w.heap.size < w'.heap.size := by omega
    go_wp2_with (first | (refine wpList_fop rfl rfl rfl rfl rfl ?_; intro r n hr) | (go_at_call 64; refine (c64 _ _ _ _ _).mono ?_; rintro e w1 ⟨_, rfl, ⟨x, y, z, rfl, hx, hy, hz⟩, hg⟩; obtain ⟨hc', hf', hz'⟩ := gcell hg; simp only [World.heap_drewN] at hc' hf' hz'; have z0 : w.heap.size < w1.heap.size := (by omega)))
    · refine bodyPost_ret (v := .tuple #[.agg #[.float .f64 x, .float .f64 y, .float .f64 z], .bool true]) (by simp only [results, Try.results91]; go_simp) rfl ?_
      refine ret_of (isT2_of (isRGB_of ?_ ?_ ?_) (isB_of ?_)) (by repeat (first | exact Grew.refl _ | assumption | refine Grew.drewN ?_ _ | refine Grew.drew ?_ | refine Grew.alloc ?_ _ | refine Grew.setCell ?_ (by simp; try omega) _ | refine Grew.trans ?_ (by assumption)))
      all_goals (rw [playQ_t (by assumption)]; try simp [*, rScale, fop])
    · refine bodyPost_ret (v := .tuple #[.agg #[.float .f64 0, .float .f64 0, .float .f64 0], .bool false]) (by simp only [results, Try.results91]; go_simp) rfl ?_
      refine ret_of (isT2_of (isRGB_of ?_ ?_ ?_) (isB_of ?_)) (by repeat (first | exact Grew.refl _ | assumption | refine Grew.drewN ?_ _ | refine Grew.drew ?_ | refine Grew.alloc ?_ _ | refine Grew.setCell ?_ (by simp; try omega) _ | refine Grew.trans ?_ (by assumption)))
      all_goals (rw [playQ_f (by assumption)]; try rfl)
end Go.Proofs.Ytfcholpgebcooaa
