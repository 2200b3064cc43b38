/- The curves that the program makes. -/
import Derived.Test.YtfcholpgebcooaaT43c
namespace Go.Proofs.Ytfcholpgebcooaa
open Go.RowKit
set_option linter.unusedSimpArgs false
set_option linter.unusedVariables false

theorem EndsAt.grew {B : Nat} {w w' : World} {v : Value} {k : Nat} {f : Int → FV} (h : EndsAt B w v k f) (hg : Grew w w') : EndsAt B w' v k f := let ⟨xs, a, b, c⟩ := h; ⟨xs, a, b.grew hg, c⟩
/-- A slice of one new float. -/
def newCell (b0 : Nat) (x : FV) (v : Value) (w : World) : Prop := ∃ g y, v = .slice (some ⟨g, 0, none⟩) 1 1 ∧ b0 ≤ g ∧ w.cell? ⟨g, 0, none⟩ = some (.float .f64 y) ∧ fcls y = x
theorem newCell.grown {b0 : Nat} {x : FV} {v : Value} {w w' : World} {gb : Option Nat} (h : newCell b0 x v w) (hg : w.grownBy w' gb) (hb : ∀ k, gb = some k → k < b0) : newCell b0 x v w' := by
  obtain ⟨g, y, rfl, h1, h2, h3⟩ := h
  exact ⟨g, y, rfl, h1, hg.cell h2 (fun e => by have := hb g e.symm; omega), h3⟩
theorem grownBy_frozen {w w' : World} {gb : Option Nat} (hg : w.grownBy w' gb) {b o : Nat} (hb : b < w.heap.size) (hne : some b ≠ gb) : w'.frozen? ⟨b, o, none⟩ = w.frozen? ⟨b, o, none⟩ := World.frozen?_of_block (w := w) (hg.block b hb hne)
theorem endsAt_setCell {B : Nat} {w : World} {v : Value} {k : Nat} {f : Int → FV} (h : EndsAt B w v k f) {a : Addr} (ha : a.block < B) (u : Value) : EndsAt B (w.setCell a u) v k f := let ⟨xs, a1, b, c⟩ := h; ⟨xs, a1, ownsRow_setCell_below b ha u, c⟩
set_option maxHeartbeats 1000000 in
theorem c75_76 (w0 : World) : Calls Try.prog 75 #[.func (.func 76) #[] #[]] w0 (fun e w' => e = .returned (.pointer (some ⟨w0.heap.size, 0, none⟩)) ∧ Grew w0 w' ∧ ∃ v, w'.cell? ⟨w0.heap.size, 0, none⟩ = some v ∧ EndsAt (w0.heap.size + 1) w' v 255 evenF) := by
  obtain ⟨i0, hi, hz0, hz1, hz2⟩ := info_parts info22
  go_enter Try.func75, Try.ntmps75
  go_wp2
  go_loopw [7] (fun i wr => ∃ k : Nat, k ≤ 255 ∧ i = .int .i64 k ∧ Grew w0 wr ∧ w0.heap.size < wr.heap.size ∧ ∃ v, wr.cell? ⟨w0.heap.size, 0, none⟩ = some v ∧ wr.frozen? ⟨w0.heap.size, 0, none⟩ = false ∧ EndsAt (w0.heap.size + 1) wr v k evenF) (fun i _ => 255 - (intOf i).toNat)
  case atStart => exact ⟨0, Nat.zero_le _, rfl, (by repeat (first | exact Grew.refl _ | assumption | refine Grew.drewN ?_ _ | refine Grew.drew ?_ | refine Grew.alloc ?_ _ | refine Grew.setCell ?_ (by simp; try omega) _ | refine Grew.trans ?_ (by assumption))), by simp, .slice none 0 0, by go_simp, by go_simp, [], rfl, OwnF.nil _ _ _, fun i h => by omega⟩
  case round =>
    obtain ⟨k, hk, rfl, hg, hpw, v, hp0, hpf, xs, hl, hown, ha⟩ := hrel
    have Hl := Lib.hid hl
    have Ha := Lib.hid ha
    clear hl ha
    by_cases hlt : k < 255
    · have hlt' : decide ((k : Int) < 255) = true := by simp; omega
      have hw1 : IntKind.i64.wrap ((k : Int) + 1) = (k : Int) + 1 := IntWalk.i64_in _ (by omega)
      have hpne : some w0.heap.size ≠ v.ownBlock := fun e => by have := (hown.lt e.symm).1; omega
      go_wp2_with fail
      apply wp_region_app 11 10 v.ownBlock (fun w => OwnF 22 (w0.heap.size + 1) w v xs) [inAny (isV _), inAny (isV _), inAny (isV _), inAny (isV _), inAny (isV _), inAny (isV _), inAny (isV _), inAny (isV _), inAny (isF (evenF (k + 1))), newCell wr.heap.size (evenF (k + 1)), fun v w => EndsAt (w0.heap.size + 1) w v (k + 1) evenF] (by kernel_rfl) (by kernel_rfl) (by decide) (fun w1 w2 h hg => h.grew hg) hown (fun k u w1 w2 hk h1 h2 h3 => by rcases k with _ | _ | _ | _ | _ | _ | _ | _ | _ | _ | _ | k <;> first | exact h2 | exact newCell.grown h2 h3 (fun b hb => (hown.lt hb).2) | exact absurd rfl hk) (fun u w1 w2 h hg => EndsAt.grew h hg)
      case hops =>
        simp only [List.take_succ_cons, List.take_zero, List.map_cons, List.map_nil]
        refine allW_cons (fun ν w' hG hO hd => ?_) ?_
        · simp only [deps_mk, deps_nil, deps_data, deps_chain, deps_guard, deps_phase, deps_text, deps_gc, depW_nil, depW_cons, factW_zero, factW_succ, and_true, inAny_eq, isV_eq] at hd
          have hcp := hG.cell hp0 hpne
          refine stepW_plain rfl rfl (by decide) (fun R hR => ?_)
          unfold Oper.gives
          go_simp
          exact hR _ _ (isV_rfl _) (Grew.refl _)
        refine allW_cons (fun ν w' hG hO hd => ?_) ?_
        · simp only [deps_mk, deps_nil, deps_data, deps_chain, deps_guard, deps_phase, deps_text, deps_gc, depW_nil, depW_cons, factW_zero, factW_succ, and_true, inAny_eq, isV_eq] at hd
          have hcp := hG.cell hp0 hpne
          refine stepW_plain rfl rfl (by decide) (fun R hR => ?_)
          unfold Oper.gives
          go_simp
          exact hR _ _ (isV_rfl _) (Grew.refl _)
        refine allW_cons (fun ν w' hG hO hd => ?_) ?_
        · simp only [deps_mk, deps_nil, deps_data, deps_chain, deps_guard, deps_phase, deps_text, deps_gc, depW_nil, depW_cons, factW_zero, factW_succ, and_true, inAny_eq, isV_eq] at hd
          have hcp := hG.cell hp0 hpne
          refine stepW_plain rfl rfl (by decide) (fun R hR => ?_)
          unfold Oper.gives
          go_simp
          exact hR _ _ (isV_rfl _) (Grew.refl _)
        refine allW_cons (fun ν w' hG hO hd => ?_) ?_
        · simp only [deps_mk, deps_nil, deps_data, deps_chain, deps_guard, deps_phase, deps_text, deps_gc, depW_nil, depW_cons, factW_zero, factW_succ, and_true, inAny_eq, isV_eq] at hd
          have hcp := hG.cell hp0 hpne
          refine stepW_plain rfl rfl (by decide) (fun R hR => ?_)
          unfold Oper.gives
          go_simp
          exact hR _ _ (isV_rfl _) (Grew.refl _)
        refine allW_cons (fun ν w' hG hO hd => ?_) ?_
        · simp only [deps_mk, deps_nil, deps_data, deps_chain, deps_guard, deps_phase, deps_text, deps_gc, depW_nil, depW_cons, factW_zero, factW_succ, and_true, inAny_eq, isV_eq] at hd
          have hcp := hG.cell hp0 hpne
          refine stepW_plain rfl rfl (by decide) (fun R hR => ?_)
          unfold Oper.gives
          go_simp
          exact hR _ _ (isV_rfl _) (Grew.refl _)
        refine allW_cons (fun ν w' hG hO hd => ?_) ?_
        · simp only [deps_mk, deps_nil, deps_data, deps_chain, deps_guard, deps_phase, deps_text, deps_gc, depW_nil, depW_cons, factW_zero, factW_succ, and_true, inAny_eq, isV_eq] at hd
          have hcp := hG.cell hp0 hpne
          refine stepW_plain rfl rfl (by decide) (fun R hR => ?_)
          unfold Oper.gives
          go_simp
          exact hR _ _ (isV_rfl _) (Grew.refl _)
        refine allW_cons (fun ν w' hG hO hd => ?_) ?_
        · simp only [deps_mk, deps_nil, deps_data, deps_chain, deps_guard, deps_phase, deps_text, deps_gc, depW_nil, depW_cons, factW_zero, factW_succ, and_true, inAny_eq, isV_eq] at hd
          have hcp := hG.cell hp0 hpne
          refine stepW_plain rfl rfl (by decide) (fun R hR => ?_)
          unfold Oper.gives
          go_simp
          exact hR _ _ (isV_rfl _) (Grew.refl _)
        refine allW_cons (fun ν w' hG hO hd => ?_) ?_
        · simp only [deps_mk, deps_nil, deps_data, deps_chain, deps_guard, deps_phase, deps_text, deps_gc, depW_nil, depW_cons, factW_zero, factW_succ, and_true, inAny_eq, isV_eq] at hd
          have hcp := hG.cell hp0 hpne
          refine stepW_plain rfl rfl (by decide) (fun R hR => ?_)
          unfold Oper.gives
          go_simp
          exact hR _ _ (isV_rfl _) (Grew.refl _)
        refine allW_cons (fun ν w' hG hO hd => ?_) ?_
        · simp only [deps_mk, deps_nil, deps_data, deps_chain, deps_guard, deps_phase, deps_text, deps_gc, depW_nil, depW_cons, factW_zero, factW_succ, and_true, inAny_eq, isV_eq] at hd
          have hcp := hG.cell hp0 hpne
          refine stepW_plain rfl rfl (by decide) (fun R hR => ?_)
          unfold Oper.gives
          go_simp
          refine (c76 _ _).mono ?_
          intro e w2 hq
          obtain ⟨v, rfl, hv, hg⟩ := RetQ.ret hq
          refine ⟨v, rfl, hR v w2 ?_ hg⟩
          exact hv
        refine allW_cons (fun ν w' hG hO hd => ?_) ?_
        · simp only [deps_mk, deps_nil, deps_data, deps_chain, deps_guard, deps_phase, deps_text, deps_gc, depW_nil, depW_cons, factW_zero, factW_succ, and_true, inAny_eq, isV_eq] at hd
          obtain ⟨x8, h8, k8⟩ := hd
          have hcp := hG.cell hp0 hpne
          refine stepW_plain rfl rfl (by decide) (fun R hR => ?_)
          unfold Oper.gives
          go_simp
          refine hR _ _ ⟨w'.heap.size, x8, rfl, hG.size, ?_, k8⟩ ((Grew.refl _).alloc _)
          go_simp
        refine allW_cons (fun ν w' hG hO hd => ?_) (allW_nil _)
        · simp only [deps_mk, deps_nil, deps_data, deps_chain, deps_guard, deps_phase, deps_text, deps_gc, depW_nil, depW_cons, factW_zero, factW_succ, and_true, inAny_eq, isV_eq] at hd
          obtain ⟨g9, y9, h9, b9, c9, k9⟩ := hd.2.1
          obtain ⟨x8, h8, k8⟩ := hd.2.2
          have hcp := hG.cell hp0 hpne
          refine stepW_app rfl rfl (.inl ?_)
          simp only [deps_mk, deps_nil, deps_data, deps_chain, deps_guard, deps_phase, deps_text, deps_gc, frameD_cons, frameD_nil, List.getD_cons_zero, List.getD_cons_succ, Act.put, List.setIfInBounds_toArray, List.set_cons_zero, List.set_cons_succ, hd, h9]
          refine gives_app1 (xs := xs) (B := w0.heap.size + 1) (g := g9) (y := y9) (c := 1) rfl Try.underlying33 hi hz0 hz1 hz2 rfl (hO rfl) rfl c9 (by have := Hl.out; omega) (by have := hG.size; omega) ?_
          intro v' w2 hown' hgrow
          exact ⟨EndsAt.snoc Hl.out hown' Ha.out k9, hgrow⟩
      case hQ =>
        intro ν w' hG hd
        simp only [List.take_succ_cons, List.take_zero, List.map_cons, List.map_nil, List.drop_succ_cons, List.drop_zero, List.range, List.range.loop, depW_nil, depW_cons, factW_zero, factW_succ, and_true, inAny_eq, isV_eq] at hd ⊢
        obtain ⟨x8, h8, k8⟩ := hd.2.2.2.2.2.2.2.2.1
        obtain ⟨g9, y9, h9, b9, c9, k9⟩ := hd.2.2.2.2.2.2.2.2.2.1
        obtain k10 := hd.2.2.2.2.2.2.2.2.2.2
        simp only [frameD_cons, frameD_nil, List.getD_cons_zero, List.getD_cons_succ, Act.put, hd, h8, h9, List.setIfInBounds_toArray, List.set_cons_zero, List.set_cons_succ]
        have hcp := hG.cell hp0 hpne
        have hfp : w'.frozen? ⟨w0.heap.size, 0, none⟩ = false := (grownBy_frozen hG hpw hpne).trans hpf
        have Hk10 := Lib.hid (show EndsAt (w0.heap.size + 1) w' (ν 10) (k + 1) evenF from k10)
        clear k10 hd hw1
        generalize ν 10 = u10 at *
        obtain ⟨g, cap, hu⟩ : ∃ g cap, u10 = .slice (some ⟨g, 0, none⟩) (k + 1) cap := by
          obtain ⟨xs', hl', hown', _⟩ := Hk10.out
          rcases hown'.form with ⟨_, e⟩ | ⟨g, cap, hu, _⟩
          · rw [e] at hl'; simp at hl'
          · exact ⟨g, cap, by rw [hu, hl']⟩
        subst hu
        go_wp2
        go_roundw
        case rel => exact ⟨k + 1, by omega, by go_num, Grew.setCell (Grew.grown hg hG (fun b hb => by have := (hown.lt hb).1; omega)) (Nat.le_refl _) _, by have := hG.size; simp; omega, _, by go_simp, by go_simp, endsAt_setCell Hk10.out (by simp) _⟩
        case measure => simp [intOf]; omega
    · have hk255 : k = 255 := by omega
      subst hk255
      go_wp2
      go_ret
      exact ⟨rfl, hg, v, hp0, xs, Hl.out, hown, Ha.out⟩
set_option maxHeartbeats 1000000 in
theorem c75_77 (w0 : World) : Calls Try.prog 75 #[.func (.func 77) #[] #[]] w0 (fun e w' => e = .returned (.pointer (some ⟨w0.heap.size, 0, none⟩)) ∧ Grew w0 w' ∧ ∃ v, w'.cell? ⟨w0.heap.size, 0, none⟩ = some v ∧ EndsAt (w0.heap.size + 1) w' v 255 squareF) := by
  obtain ⟨i0, hi, hz0, hz1, hz2⟩ := info_parts info22
  go_enter Try.func75, Try.ntmps75
  go_wp2
  go_loopw [7] (fun i wr => ∃ k : Nat, k ≤ 255 ∧ i = .int .i64 k ∧ Grew w0 wr ∧ w0.heap.size < wr.heap.size ∧ ∃ v, wr.cell? ⟨w0.heap.size, 0, none⟩ = some v ∧ wr.frozen? ⟨w0.heap.size, 0, none⟩ = false ∧ EndsAt (w0.heap.size + 1) wr v k squareF) (fun i _ => 255 - (intOf i).toNat)
  case atStart => exact ⟨0, Nat.zero_le _, rfl, (by repeat (first | exact Grew.refl _ | assumption | refine Grew.drewN ?_ _ | refine Grew.drew ?_ | refine Grew.alloc ?_ _ | refine Grew.setCell ?_ (by simp; try omega) _ | refine Grew.trans ?_ (by assumption))), by simp, .slice none 0 0, by go_simp, by go_simp, [], rfl, OwnF.nil _ _ _, fun i h => by omega⟩
  case round =>
    obtain ⟨k, hk, rfl, hg, hpw, v, hp0, hpf, xs, hl, hown, ha⟩ := hrel
    have Hl := Lib.hid hl
    have Ha := Lib.hid ha
    clear hl ha
    by_cases hlt : k < 255
    · have hlt' : decide ((k : Int) < 255) = true := by simp; omega
      have hw1 : IntKind.i64.wrap ((k : Int) + 1) = (k : Int) + 1 := IntWalk.i64_in _ (by omega)
      have hpne : some w0.heap.size ≠ v.ownBlock := fun e => by have := (hown.lt e.symm).1; omega
      go_wp2_with fail
      apply wp_region_app 11 10 v.ownBlock (fun w => OwnF 22 (w0.heap.size + 1) w v xs) [inAny (isV _), inAny (isV _), inAny (isV _), inAny (isV _), inAny (isV _), inAny (isV _), inAny (isV _), inAny (isV _), inAny (isF (squareF (k + 1))), newCell wr.heap.size (squareF (k + 1)), fun v w => EndsAt (w0.heap.size + 1) w v (k + 1) squareF] (by kernel_rfl) (by kernel_rfl) (by decide) (fun w1 w2 h hg => h.grew hg) hown (fun k u w1 w2 hk h1 h2 h3 => by rcases k with _ | _ | _ | _ | _ | _ | _ | _ | _ | _ | _ | k <;> first | exact h2 | exact newCell.grown h2 h3 (fun b hb => (hown.lt hb).2) | exact absurd rfl hk) (fun u w1 w2 h hg => EndsAt.grew h hg)
      case hops =>
        simp only [List.take_succ_cons, List.take_zero, List.map_cons, List.map_nil]
        refine allW_cons (fun ν w' hG hO hd => ?_) ?_
        · simp only [deps_mk, deps_nil, deps_data, deps_chain, deps_guard, deps_phase, deps_text, deps_gc, depW_nil, depW_cons, factW_zero, factW_succ, and_true, inAny_eq, isV_eq] at hd
          have hcp := hG.cell hp0 hpne
          refine stepW_plain rfl rfl (by decide) (fun R hR => ?_)
          unfold Oper.gives
          go_simp
          exact hR _ _ (isV_rfl _) (Grew.refl _)
        refine allW_cons (fun ν w' hG hO hd => ?_) ?_
        · simp only [deps_mk, deps_nil, deps_data, deps_chain, deps_guard, deps_phase, deps_text, deps_gc, depW_nil, depW_cons, factW_zero, factW_succ, and_true, inAny_eq, isV_eq] at hd
          have hcp := hG.cell hp0 hpne
          refine stepW_plain rfl rfl (by decide) (fun R hR => ?_)
          unfold Oper.gives
          go_simp
          exact hR _ _ (isV_rfl _) (Grew.refl _)
        refine allW_cons (fun ν w' hG hO hd => ?_) ?_
        · simp only [deps_mk, deps_nil, deps_data, deps_chain, deps_guard, deps_phase, deps_text, deps_gc, depW_nil, depW_cons, factW_zero, factW_succ, and_true, inAny_eq, isV_eq] at hd
          have hcp := hG.cell hp0 hpne
          refine stepW_plain rfl rfl (by decide) (fun R hR => ?_)
          unfold Oper.gives
          go_simp
          exact hR _ _ (isV_rfl _) (Grew.refl _)
        refine allW_cons (fun ν w' hG hO hd => ?_) ?_
        · simp only [deps_mk, deps_nil, deps_data, deps_chain, deps_guard, deps_phase, deps_text, deps_gc, depW_nil, depW_cons, factW_zero, factW_succ, and_true, inAny_eq, isV_eq] at hd
          have hcp := hG.cell hp0 hpne
          refine stepW_plain rfl rfl (by decide) (fun R hR => ?_)
          unfold Oper.gives
          go_simp
          exact hR _ _ (isV_rfl _) (Grew.refl _)
        refine allW_cons (fun ν w' hG hO hd => ?_) ?_
        · simp only [deps_mk, deps_nil, deps_data, deps_chain, deps_guard, deps_phase, deps_text, deps_gc, depW_nil, depW_cons, factW_zero, factW_succ, and_true, inAny_eq, isV_eq] at hd
          have hcp := hG.cell hp0 hpne
          refine stepW_plain rfl rfl (by decide) (fun R hR => ?_)
          unfold Oper.gives
          go_simp
          exact hR _ _ (isV_rfl _) (Grew.refl _)
        refine allW_cons (fun ν w' hG hO hd => ?_) ?_
        · simp only [deps_mk, deps_nil, deps_data, deps_chain, deps_guard, deps_phase, deps_text, deps_gc, depW_nil, depW_cons, factW_zero, factW_succ, and_true, inAny_eq, isV_eq] at hd
          have hcp := hG.cell hp0 hpne
          refine stepW_plain rfl rfl (by decide) (fun R hR => ?_)
          unfold Oper.gives
          go_simp
          exact hR _ _ (isV_rfl _) (Grew.refl _)
        refine allW_cons (fun ν w' hG hO hd => ?_) ?_
        · simp only [deps_mk, deps_nil, deps_data, deps_chain, deps_guard, deps_phase, deps_text, deps_gc, depW_nil, depW_cons, factW_zero, factW_succ, and_true, inAny_eq, isV_eq] at hd
          have hcp := hG.cell hp0 hpne
          refine stepW_plain rfl rfl (by decide) (fun R hR => ?_)
          unfold Oper.gives
          go_simp
          exact hR _ _ (isV_rfl _) (Grew.refl _)
        refine allW_cons (fun ν w' hG hO hd => ?_) ?_
        · simp only [deps_mk, deps_nil, deps_data, deps_chain, deps_guard, deps_phase, deps_text, deps_gc, depW_nil, depW_cons, factW_zero, factW_succ, and_true, inAny_eq, isV_eq] at hd
          have hcp := hG.cell hp0 hpne
          refine stepW_plain rfl rfl (by decide) (fun R hR => ?_)
          unfold Oper.gives
          go_simp
          exact hR _ _ (isV_rfl _) (Grew.refl _)
        refine allW_cons (fun ν w' hG hO hd => ?_) ?_
        · simp only [deps_mk, deps_nil, deps_data, deps_chain, deps_guard, deps_phase, deps_text, deps_gc, depW_nil, depW_cons, factW_zero, factW_succ, and_true, inAny_eq, isV_eq] at hd
          have hcp := hG.cell hp0 hpne
          refine stepW_plain rfl rfl (by decide) (fun R hR => ?_)
          unfold Oper.gives
          go_simp
          refine (c77 _ _).mono ?_
          intro e w2 hq
          obtain ⟨v, rfl, hv, hg⟩ := RetQ.ret hq
          refine ⟨v, rfl, hR v w2 ?_ hg⟩
          exact hv
        refine allW_cons (fun ν w' hG hO hd => ?_) ?_
        · simp only [deps_mk, deps_nil, deps_data, deps_chain, deps_guard, deps_phase, deps_text, deps_gc, depW_nil, depW_cons, factW_zero, factW_succ, and_true, inAny_eq, isV_eq] at hd
          obtain ⟨x8, h8, k8⟩ := hd
          have hcp := hG.cell hp0 hpne
          refine stepW_plain rfl rfl (by decide) (fun R hR => ?_)
          unfold Oper.gives
          go_simp
          refine hR _ _ ⟨w'.heap.size, x8, rfl, hG.size, ?_, k8⟩ ((Grew.refl _).alloc _)
          go_simp
        refine allW_cons (fun ν w' hG hO hd => ?_) (allW_nil _)
        · simp only [deps_mk, deps_nil, deps_data, deps_chain, deps_guard, deps_phase, deps_text, deps_gc, depW_nil, depW_cons, factW_zero, factW_succ, and_true, inAny_eq, isV_eq] at hd
          obtain ⟨g9, y9, h9, b9, c9, k9⟩ := hd.2.1
          obtain ⟨x8, h8, k8⟩ := hd.2.2
          have hcp := hG.cell hp0 hpne
          refine stepW_app rfl rfl (.inl ?_)
          simp only [deps_mk, deps_nil, deps_data, deps_chain, deps_guard, deps_phase, deps_text, deps_gc, frameD_cons, frameD_nil, List.getD_cons_zero, List.getD_cons_succ, Act.put, List.setIfInBounds_toArray, List.set_cons_zero, List.set_cons_succ, hd, h9]
          refine gives_app1 (xs := xs) (B := w0.heap.size + 1) (g := g9) (y := y9) (c := 1) rfl Try.underlying33 hi hz0 hz1 hz2 rfl (hO rfl) rfl c9 (by have := Hl.out; omega) (by have := hG.size; omega) ?_
          intro v' w2 hown' hgrow
          exact ⟨EndsAt.snoc Hl.out hown' Ha.out k9, hgrow⟩
      case hQ =>
        intro ν w' hG hd
        simp only [List.take_succ_cons, List.take_zero, List.map_cons, List.map_nil, List.drop_succ_cons, List.drop_zero, List.range, List.range.loop, depW_nil, depW_cons, factW_zero, factW_succ, and_true, inAny_eq, isV_eq] at hd ⊢
        obtain ⟨x8, h8, k8⟩ := hd.2.2.2.2.2.2.2.2.1
        obtain ⟨g9, y9, h9, b9, c9, k9⟩ := hd.2.2.2.2.2.2.2.2.2.1
        obtain k10 := hd.2.2.2.2.2.2.2.2.2.2
        simp only [frameD_cons, frameD_nil, List.getD_cons_zero, List.getD_cons_succ, Act.put, hd, h8, h9, List.setIfInBounds_toArray, List.set_cons_zero, List.set_cons_succ]
        have hcp := hG.cell hp0 hpne
        have hfp : w'.frozen? ⟨w0.heap.size, 0, none⟩ = false := (grownBy_frozen hG hpw hpne).trans hpf
        have Hk10 := Lib.hid (show EndsAt (w0.heap.size + 1) w' (ν 10) (k + 1) squareF from k10)
        clear k10 hd hw1
        generalize ν 10 = u10 at *
        obtain ⟨g, cap, hu⟩ : ∃ g cap, u10 = .slice (some ⟨g, 0, none⟩) (k + 1) cap := by
          obtain ⟨xs', hl', hown', _⟩ := Hk10.out
          rcases hown'.form with ⟨_, e⟩ | ⟨g, cap, hu, _⟩
          · rw [e] at hl'; simp at hl'
          · exact ⟨g, cap, by rw [hu, hl']⟩
        subst hu
        go_wp2
        go_roundw
        case rel => exact ⟨k + 1, by omega, by go_num, Grew.setCell (Grew.grown hg hG (fun b hb => by have := (hown.lt hb).1; omega)) (Nat.le_refl _) _, by have := hG.size; simp; omega, _, by go_simp, by go_simp, endsAt_setCell Hk10.out (by simp) _⟩
        case measure => simp [intOf]; omega
    · have hk255 : k = 255 := by omega
      subst hk255
      go_wp2
      go_ret
      exact ⟨rfl, hg, v, hp0, xs, Hl.out, hown, Ha.out⟩
end Go.Proofs.Ytfcholpgebcooaa
