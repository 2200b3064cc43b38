/- The roulette: plays, the reference's and the program's. -/
import Derived.Test.YtfcholpgebcooaaC26c
namespace Go.Proofs.Ytfcholpgebcooaa
open Go.RowKit
set_option linter.unusedSimpArgs false
set_option linter.unusedVariables false

theorem play_other {c : RGBv} (hc : c.ok) (k : Int) {u : FV} (hu : FVok u) : (flt (chance c k) (clean u) || feq (clean u) (chance c k)) = !flt (clean u) (chance c k) := by
  rw [feq_comm, ← fle_def]
  have h1 := not_flt_iff (clean_ok hu) (chance_ok hc k) (clean_ne u) (chance_ne c k)
  cases h : flt (clean u) (chance c k)
  · exact h1.1 h
  · cases h2 : fle (chance c k) (clean u)
    · rfl
    · rw [h1.2 h2] at h; cases h
set_option maxHeartbeats 400000 in
theorem c59 (a b c u : Nat) (k : Int) (w : World) : Calls Try.prog 59 #[.agg #[.float .f64 a, .float .f64 b, .float .f64 c], .int .i64 k, .float .f64 u] w (Ret (isT2 (isRGB (playQ ⟨fcls a, fcls b, fcls c⟩ (chance ⟨fcls a, fcls b, fcls c⟩ k) (fcls u)).1) (isB (playQ ⟨fcls a, fcls b, fcls c⟩ (chance ⟨fcls a, fcls b, fcls c⟩ k) (fcls u)).2)) w) := by
  go_enter Try.func59, Try.ntmps59
  go_wp2_with (first | (go_at_call 62; refine (c62 _ _ _ _ _).mono ?_; rintro e w1 ⟨q, p, l, rfl, hq, hg, d0, d1, d2, d3⟩; obtain ⟨hc, hf, hz⟩ := gcell hg; simp only [World.heap_drewN, World.size_alloc, World.size_setCell] at hc hf hz; have z1 : w.heap.size < w1.heap.size := (by omega); have z2 : w.heap.size + 1 < w1.heap.size := (by omega)) | (go_at_call 91; refine (c91 _ _ _ _ _ _ _ _ (by assumption) (by assumption) (by assumption) (by assumption)).mono ?_; rintro e w2 ⟨_, rfl, ⟨_, _, rfl, ⟨x, y, z, rfl, hx, hy, hz⟩, rfl⟩, hg2⟩; obtain ⟨hc2, hf2, hz2⟩ := gcell hg2; have z3 : w.heap.size + 1 < w2.heap.size := (by omega)))
  refine bodyPost_ret (v := .tuple #[.agg #[.float .f64 x, .float .f64 y, .float .f64 z], .bool (playQ ⟨fcls a, fcls b, fcls c⟩ (chance ⟨fcls a, fcls b, fcls c⟩ k) (fcls u)).2]) (by simp only [results, Try.results59]; go_simp) rfl ?_
  refine ret_of (isT2_of (isRGB_of ?_ ?_ ?_) (isB_of rfl)) (by repeat (first | exact Grew.refl _ | assumption | refine Grew.drewN ?_ _ | refine Grew.drew ?_ | refine Grew.alloc ?_ _ | refine Grew.setCell ?_ (by simp; try omega) _ | refine Grew.trans ?_ (by assumption)))
  · rw [hx, hq]
  · rw [hy, hq]
  · rw [hz, hq]
set_option maxHeartbeats 400000 in
theorem c12 (a b c u : Nat) (k : Int) (w : World) : Calls Try.prog 12 #[.agg #[.float .f64 a, .float .f64 b, .float .f64 c], .int .i64 k, .float .f64 u] w (Ret (isT2 (isRGB (playQ ⟨fcls a, fcls b, fcls c⟩ (chance ⟨fcls a, fcls b, fcls c⟩ k) (fcls u)).1) (isB (playQ ⟨fcls a, fcls b, fcls c⟩ (chance ⟨fcls a, fcls b, fcls c⟩ k) (fcls u)).2)) w) := by
  have H := Lib.hid (@play_other ⟨fcls a, fcls b, fcls c⟩ ⟨fcls_ok a, fcls_ok b, fcls_ok c⟩ k (fcls u) (fcls_ok u))
  go_enter Try.func12, Try.ntmps12
  go_wp2_with (first | (refine wpList_fop rfl rfl rfl rfl rfl ?_; intro r n hr) | (go_at_call 57; refine (c57 _ _ _ _ _).mono ?_; rintro e w1 ⟨_, rfl, ⟨q, rfl, hq⟩, hg⟩; obtain ⟨hc, hf, hz⟩ := gcell hg; simp only [World.heap_drewN, World.size_alloc, World.size_setCell] at hc hf hz; have z1 : w.heap.size < w1.heap.size := (by omega); have z2 : w.heap.size + 1 < w1.heap.size := (by omega)) | (go_at_call 58; refine (c58 _ _).mono ?_; rintro e w1 ⟨_, n, rfl, ⟨v, rfl, hv⟩, rfl⟩) | (go_at_call 14; refine (c14 _ _ _ _ _).mono ?_; rintro e w2 ⟨_, rfl, ⟨x, y, z, rfl, hx, hy, hz⟩, hg2⟩; obtain ⟨hc2, hf2, hz2⟩ := gcell hg2; simp only [World.heap_drewN] at hc2 hf2 hz2; have z3 : w.heap.size + 1 < w2.heap.size := (by omega)))
  · have hn : flt (clean (fcls u)) (chance ⟨fcls a, fcls b, fcls c⟩ k) = false := by have H2 := H.out; grind
    refine bodyPost_ret (v := .tuple #[.agg #[.float .f64 0, .float .f64 0, .float .f64 0], .bool false]) (by simp only [results, Try.results12]; go_simp) rfl ?_
    refine ret_of (isT2_of (isRGB_of ?_ ?_ ?_) (isB_of ?_)) (by repeat (first | exact Grew.refl _ | assumption | refine Grew.drewN ?_ _ | refine Grew.drew ?_ | refine Grew.alloc ?_ _ | refine Grew.setCell ?_ (by simp; try omega) _ | refine Grew.trans ?_ (by assumption)))
    all_goals (rw [playQ_f hn]; try rfl)
  · have hn : flt (clean (fcls u)) (chance ⟨fcls a, fcls b, fcls c⟩ k) = true := by have H2 := H.out; grind
    refine bodyPost_ret (v := .tuple #[.agg #[.float .f64 x, .float .f64 y, .float .f64 z], .bool true]) (by simp only [results, Try.results12]; go_simp) rfl ?_
    refine ret_of (isT2_of (isRGB_of ?_ ?_ ?_) (isB_of ?_)) (by repeat (first | exact Grew.refl _ | assumption | refine Grew.drewN ?_ _ | refine Grew.drew ?_ | refine Grew.alloc ?_ _ | refine Grew.setCell ?_ (by simp; try omega) _ | refine Grew.trans ?_ (by assumption)))
    all_goals (rw [playQ_t hn]; try simp [*, rScale, fop])
end Go.Proofs.Ytfcholpgebcooaa
