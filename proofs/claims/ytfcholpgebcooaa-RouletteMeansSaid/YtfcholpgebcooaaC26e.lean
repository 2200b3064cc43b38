/- The mean of many plays. -/
import Derived.Test.YtfcholpgebcooaaC26d
namespace Go.Proofs.Ytfcholpgebcooaa
open Go.RowKit
set_option linter.unusedSimpArgs false
set_option linter.unusedVariables false

def fint (i : Int) : FV := fcls (floatOfInt .f64 i)
def sumTo (c : RGBv) (k n : Int) : Nat → RGBv
  | 0 => rzero
  | i + 1 => rAdd (sumTo c k n i) (playQ c (chance c k) (fdiv (fint i) (fint n))).1
def meanOf (c : RGBv) (k n : Int) : RGBv := if n < 1 ∨ 4096 < n then rzero else rScale (sumTo c k n n.toNat) (fdiv fone (fint n))
set_option maxHeartbeats 400000 in
theorem c17_bad (a b c : Nat) (k n : Int) (w : World) (hn : n < 1 ∨ 4096 < n) : Calls Try.prog 17 #[.agg #[.float .f64 a, .float .f64 b, .float .f64 c], .int .i64 k, .int .i64 n] w (Ret (isRGB (meanOf ⟨fcls a, fcls b, fcls c⟩ k n)) w) := by
  have hm : meanOf ⟨fcls a, fcls b, fcls c⟩ k n = rzero := by unfold meanOf; rw [if_pos hn]
  rw [hm]
  clear hm
  by_cases h1 : n < 1
  · go_enter Try.func17, Try.ntmps17
    go_wp2
    refine bodyPost_ret (v := .agg #[_, _, _]) (by simp [results, Try.results17, go_sem]; exact ⟨rfl, rfl, rfl⟩) rfl ?_
    exact ret_of (isRGB_of rfl rfl rfl) (by repeat (first | exact Grew.refl _ | assumption | refine Grew.drewN ?_ _ | refine Grew.drew ?_ | refine Grew.alloc ?_ _ | refine Grew.setCell ?_ (by simp; try omega) _ | refine Grew.trans ?_ (by assumption)))
  · have h2 : 4096 < n := by omega
    go_enter Try.func17, Try.ntmps17
    go_wp2
    refine bodyPost_ret (v := .agg #[_, _, _]) (by simp [results, Try.results17, go_sem]; exact ⟨rfl, rfl, rfl⟩) rfl ?_
    exact ret_of (isRGB_of rfl rfl rfl) (by repeat (first | exact Grew.refl _ | assumption | refine Grew.drewN ?_ _ | refine Grew.drew ?_ | refine Grew.alloc ?_ _ | refine Grew.setCell ?_ (by simp; try omega) _ | refine Grew.trans ?_ (by assumption)))
/-- A light in memory: three cells of one block, free to write. -/
def RGBAt (B : Nat) (s : RGBv) (w : World) : Prop := ∃ x y z, w.cell? ⟨B, 0, none⟩ = some (.float .f64 x) ∧ w.cell? ⟨B, 1, none⟩ = some (.float .f64 y) ∧ w.cell? ⟨B, 2, none⟩ = some (.float .f64 z) ∧ fcls x = s.r ∧ fcls y = s.g ∧ fcls z = s.b ∧
  w.frozen? ⟨B, 0, none⟩ = false ∧ w.frozen? ⟨B, 1, none⟩ = false ∧ w.frozen? ⟨B, 2, none⟩ = false
def MeanInv (w : World) (B R p l q a b c : Nat) (s : RGBv) (wr : World) : Prop := Grew w wr ∧ B < wr.heap.size ∧ RGBAt B s wr ∧ RGBAt R rzero wr ∧
  wr.cell? ⟨p, 0, none⟩ = some (.float .f64 q) ∧ wr.cell? ⟨l, 0, none⟩ = some (.float .f64 a) ∧ wr.cell? ⟨l, 1, none⟩ = some (.float .f64 b) ∧ wr.cell? ⟨l, 2, none⟩ = some (.float .f64 c)
set_option maxHeartbeats 400000 in
theorem c17_good (a b c : Nat) (k : Int) (n : Nat) (w : World) (h1 : 1 ≤ n) (h2 : n ≤ 4096) : Calls Try.prog 17 #[.agg #[.float .f64 a, .float .f64 b, .float .f64 c], .int .i64 k, .int .i64 n] w (Ret (isRGB (meanOf ⟨fcls a, fcls b, fcls c⟩ k n)) w) := by
  have hb1 : decide ((n : Int) < 1) = false := by simp; omega
  have hb2 : decide (4096 < (n : Int)) = false := by simp; omega
  go_enter Try.func17, Try.ntmps17
  go_wp2_with (first | (go_at_call 62; refine (c62 _ _ _ _ _).mono ?_; rintro e w1 ⟨q, p, l, rfl, hq, hg, d0, d1, d2, d3⟩; obtain ⟨hc, hf, hz⟩ := gcell hg; simp only [World.heap_drewN, World.size_alloc, World.size_setCell] at hc hf hz; have z1 : w.heap.size < w1.heap.size := (by omega); have z2 : w.heap.size + 1 < w1.heap.size := (by omega)))
  have hp : p < w1.heap.size := World.block_lt_of_cell? w1 _ d0
  have hl : l < w1.heap.size := World.block_lt_of_cell? w1 _ d1
  go_loopw [23] (fun i wr => ∃ j : Nat, j ≤ n ∧ i = .int .i64 j ∧ MeanInv w w1.heap.size (w.heap.size + 1) p l q a b c (sumTo ⟨fcls a, fcls b, fcls c⟩ k n j) wr) (fun i _ => n - (intOf i).toNat)
  case atStart =>
    refine ⟨0, Nat.zero_le _, rfl, (by repeat (first | exact Grew.refl _ | assumption | refine Grew.drewN ?_ _ | refine Grew.drew ?_ | refine Grew.alloc ?_ _ | refine Grew.setCell ?_ (by simp; try omega) _ | refine Grew.trans ?_ (by assumption))), by simp, ⟨0, 0, 0, ?_⟩, ⟨0, 0, 0, ?_⟩, ?_⟩
    · simp only [sumTo]
      refine ⟨?_, ?_, ?_, rfl, rfl, rfl, ?_, ?_, ?_⟩ <;> go_simp
    · refine ⟨?_, ?_, ?_, rfl, rfl, rfl, ?_, ?_, ?_⟩ <;> go_simp
    · refine ⟨?_, ?_, ?_, ?_⟩ <;> go_simp
  case round =>
    clear hc hf hz hg d0 d1 d2 d3
    obtain ⟨j, hj, rfl, hg, hB, ⟨x, y, z, s0, s1, s2, sx, sy, sz, f0, f1, f2⟩, ⟨x', y', z', t0, t1, t2, tx, ty, tz, e0, e1, e2⟩, d0, d1, d2, d3⟩ := hrel
    have n1 : ¬ w1.heap.size = p := by omega
    have n2 : ¬ w1.heap.size = l := by omega
    have n3 : ¬ w1.heap.size = w.heap.size + 1 := by omega
    have q1 : w.heap.size + 1 < wr.heap.size := by omega
    have q2 : p < wr.heap.size := by omega
    have q3 : l < wr.heap.size := by omega
    have Hq := Lib.hid hq
    clear hq
    by_cases hlt : j < n
    · have hlt' : decide ((j : Int) < (n : Int)) = true := by simp; omega
      go_wp2_with (first | (refine wpList_fop rfl rfl rfl rfl rfl ?_; intro r n hr) | (go_at_call 91; refine (c91 _ _ _ _ _ _ _ _ (by assumption) (by assumption) (by assumption) (by assumption)).mono ?_; rintro e w2 ⟨_, rfl, ⟨_, _, rfl, ⟨px, py, pz, rfl, hpx, hpy, hpz⟩, rfl⟩, hg2⟩; obtain ⟨hc2, hf2, hz2⟩ := gcell hg2; simp only [World.heap_drewN] at hc2 hf2 hz2; have z3 : w1.heap.size < w2.heap.size := (by omega); have z4 : w.heap.size + 1 < w2.heap.size := (by omega); have z5 : p < w2.heap.size := (by omega); have z6 : l < w2.heap.size := (by omega)) | (go_at_call 63; refine (c63 _ _ _ _ _ _ _).mono ?_; rintro e w3 ⟨_, rfl, ⟨nx, ny, nz, rfl, hnx, hny, hnz⟩, hg3⟩; obtain ⟨hc3, hf3, hz3⟩ := gcell hg3; simp only [World.size_alloc] at hc3 hf3 hz3; have y3 : w1.heap.size < w2.heap.size + 1 := (by omega); have y4 : w.heap.size + 1 < w2.heap.size + 1 := (by omega); have y5 : p < w2.heap.size + 1 := (by omega); have y6 : l < w2.heap.size + 1 := (by omega); have y7 : w1.heap.size < w3.heap.size := (by omega)))
      go_roundw
      case rel =>
        refine ⟨j + 1, by omega, by go_num, ?_, ?_, ⟨nx, ny, nz, ?_, ?_, ?_, ?_, ?_, ?_, ?_, ?_, ?_⟩, ⟨x', y', z', ?_, ?_, ?_, tx, ty, tz, ?_, ?_, ?_⟩, ?_, ?_, ?_, ?_⟩
        · exact (by repeat (first | exact Grew.refl _ | assumption | refine Grew.drewN ?_ _ | refine Grew.drew ?_ | refine Grew.alloc ?_ _ | refine Grew.setCell ?_ (by simp; try omega) _ | refine Grew.trans ?_ (by assumption)))
        · simp; omega
        case refine_6 => rw [hnx]; simp only [rAdd, sumTo]; rw [sx, hpx, Hq.out]; simp [*, fop, fint]
        case refine_7 => rw [hny]; simp only [rAdd, sumTo]; rw [sy, hpy, Hq.out]; simp [*, fop, fint]
        case refine_8 => rw [hnz]; simp only [rAdd, sumTo]; rw [sz, hpz, Hq.out]; simp [*, fop, fint]
        all_goals go_simp
      case measure => simp [intOf]; omega
    · have hjn : j = n := by omega
      subst hjn
      have hlt' : decide ((j : Int) < (j : Int)) = false := by simp
      go_wp2_with (first | (refine wpList_fop rfl rfl rfl rfl rfl ?_; intro r n hr) | (go_at_call 14; refine (c14 _ _ _ _ _).mono ?_; rintro e w2 ⟨_, rfl, ⟨px, py, pz, rfl, hpx, hpy, hpz⟩, hg2⟩; obtain ⟨hc2, hf2, hz2⟩ := gcell hg2; simp only [World.heap_drewN] at hc2 hf2 hz2) | (go_at_call 64; refine (c64 _ _ _ _ _).mono ?_; rintro e w2 ⟨_, rfl, ⟨px, py, pz, rfl, hpx, hpy, hpz⟩, hg2⟩; obtain ⟨hc2, hf2, hz2⟩ := gcell hg2; simp only [World.heap_drewN] at hc2 hf2 hz2; have z4 : w.heap.size + 1 < wr.heap.size := (by omega)))
      refine bodyPost_ret (v := .agg #[.float .f64 px, .float .f64 py, .float .f64 pz]) (by simp only [results, Try.results17]; go_simp) rfl ?_
      have hm : meanOf ⟨fcls a, fcls b, fcls c⟩ k j = rScale (sumTo ⟨fcls a, fcls b, fcls c⟩ k j j) (fdiv fone (fint j)) := by unfold meanOf; rw [if_neg (by omega)]; rfl
      rw [hm]
      refine ret_of (isRGB_of ?_ ?_ ?_) (by repeat (first | exact Grew.refl _ | assumption | refine Grew.drewN ?_ _ | refine Grew.drew ?_ | refine Grew.alloc ?_ _ | refine Grew.setCell ?_ (by simp; try omega) _ | refine Grew.trans ?_ (by assumption)))
      · rw [hpx]; simp only [rScale]; rw [sx]; simp [*, fop, fint]
      · rw [hpy]; simp only [rScale]; rw [sy]; simp [*, fop, fint]
      · rw [hpz]; simp only [rScale]; rw [sz]; simp [*, fop, fint]
end Go.Proofs.Ytfcholpgebcooaa
