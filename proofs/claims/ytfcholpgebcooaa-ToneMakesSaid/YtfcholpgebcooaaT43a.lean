/- Lists of floats: how many are not above a light; may ends be; the search. -/
import Derived.Test.YtfcholpgebcooaaC26a
import Derived.Test.YtfcholpgebcooaaSl
import Derived.Deep.QuietTactic
import Derived.BigQuiet
import Derived.IntWalk
namespace Go.Proofs.Ytfcholpgebcooaa
open Go.RowKit
set_option linter.unusedSimpArgs false
set_option linter.unusedVariables false

theorem quiet_of_retq {P : Program} {f : FuncId} {args : Array Value} {w : World} {n : Nat} {v : Value} (h : Calls P f args (w.drewN n) (RetQ (isV v) (w.drewN n))) : Calls P f args (w.drewN n) fun e w'' => e = .returned v ∧ ∃ m, w'' = w.drewN m :=
  h.mono fun e w' hq => by
    obtain ⟨u, m, he, hu, hw⟩ := hq
    cases hu
    exact ⟨he, n + m, by rw [hw, World.drewN_drewN]⟩
set_option maxHeartbeats 400000 in
theorem c22 (b off cap x : Nat) (zs : List Nat) (w : World) (hlen : zs.length ≤ maxLen) (hfl : FloatsAt w b off zs) : Calls Try.prog 22 #[.slice (some ⟨b, off, none⟩) zs.length cap, .float .f64 x] w (RetQ (isI (cntTo zs (fcls x) zs.length)) w) := by
  unfold maxLen at hlen
  have Hf := Lib.hid hfl
  clear hfl
  obtain ⟨n, hn⟩ : ∃ n, n = zs.length := ⟨_, rfl⟩
  have Hn := Lib.hid hn
  rw [← hn] at hlen ⊢
  clear hn
  go_enter Try.func22, Try.ntmps22
  go_wp2
  go_loop [5, 6] (fun c i => ∃ k : Nat, k ≤ n ∧ i = .int .i64 k ∧ c = .int .i64 (cntTo zs (fcls x) k)) (fun _ i => n - (intOf i).toNat)
  case atStart => exact ⟨0, Nat.zero_le _, rfl, rfl⟩
  case round =>
    obtain ⟨k, hk, rfl, rfl⟩ := hrel
    have hc := cntTo_le zs (fcls x) k
    by_cases hlt : k < n
    · obtain ⟨z, hz, kz⟩ := Hf.out.get k (by rw [← Hn.out]; exact hlt)
      have hlt' : decide ((k : Int) < (n : Int)) = true := by simp; omega
      have HS := Lib.hid (show cntTo zs (fcls x) (k + 1) = cntTo zs (fcls x) k + if fle (at_ zs k) (fcls x) then 1 else 0 from rfl)
      cases hle : fle (at_ zs k) (fcls x)
      all_goals
        go_wp2
        go_round
        case rel => exact ⟨k + 1, by omega, by go_num, by rw [HS.out]; simp [hle]⟩
        case measure => simp [intOf]; omega
    · have hkn : k = n := by omega
      subst hkn
      have hlt' : decide ((k : Int) < (k : Int)) = false := by simp
      go_wp2
      go_ret
      exact retq_of (isI_of rfl)
set_option maxHeartbeats 2000000 in
theorem c20 (b off cap : Nat) (zs : List Nat) (w : World) (hlen : zs.length ≤ maxLen) (hfl : FloatsAt w b off zs) : Calls Try.prog 20 #[.slice (some ⟨b, off, none⟩) zs.length cap] w (Ret (isB (rightTo zs zs.length)) w) := by
  unfold maxLen at hlen
  have Hf := Lib.hid hfl
  clear hfl
  obtain ⟨n, hn⟩ : ∃ n, n = zs.length := ⟨_, rfl⟩
  have Hn := Lib.hid hn
  rw [← hn] at hlen ⊢
  clear hn
  go_enter Try.func20, Try.ntmps20
  go_wp2
  go_loopw [3] (fun i wr => ∃ k : Nat, k ≤ n ∧ i = .int .i64 k ∧ rightTo zs k = true ∧ Grew w wr) (fun i _ => n - (intOf i).toNat)
  case atStart => exact ⟨0, Nat.zero_le _, rfl, rfl, Grew.refl _⟩
  case round =>
    obtain ⟨k, hk, rfl, hrt, hg⟩ := hrel
    have Hrt := Lib.hid hrt
    clear hrt
    by_cases hlt : k < n
    · obtain ⟨z, hz, kz⟩ := (Hf.out.grew hg).get k (by rw [← Hn.out]; exact hlt)
      have hbw : b < wr.heap.size := World.block_lt_of_cell? wr _ hz
      have hlt' : decide ((k : Int) < (n : Int)) = true := by simp; omega
      have hlt2 : (k : Int) < (n : Int) := by omega
      have h02 : (0 : Int) ≤ (k : Int) := by omega
      have Hok := Lib.hid (okAt_ref (zs := zs) (k := k))
      have h68 := fun w' => c68 z w'
      rw [kz] at h68
      have hno : okAt zs k = false → rightTo zs n = false := fun h => rightTo_false hlt h
      have Hno := Lib.hid hno
      clear hno
      cases hfi : isFin (at_ zs k)
      · rw [hfi] at h68
        have Hr := Lib.hid (Hno.out (by have := Hok.out; rw [hfi] at this; simpa using this))
        go_wp2_with fail
        apply wp_region_pure 29 [isV _, isV _, isV _, isV _, isV _, isV _, isV _, isV _, isV _, isV _, isV _, isV _, isV _, isV _, isV _, isV _, isV _, isV _, isV _, isV _, isV _, isV _, isV _, isV _, isV _, isV _, isV _, isV _, isV _] (by kernel_rfl) (by kernel_rfl)
        case hops =>
          simp only [List.take_succ_cons, List.take_zero, List.map_cons, List.map_nil]
          refine allSteps_cons (fun ν w' hG hd => ?_) ?_
          · simp only [deps_mk, deps_nil, deps_data, deps_chain, deps_guard, deps_phase, deps_text, deps_gc, depFacts_nil, depFacts_cons, factAt_zero, factAt_succ, and_true, isV_eq] at hd
            have hc := (gcell hG).1
            have hf := (gcell hG).2.1
            have hz := (gcell hG).2.2
            refine stepD_plain rfl rfl (fun R hR => ?_)
            unfold Oper.gives
            go_simp
            exact hR _ _ (isV_rfl _) (Grew.refl _)
          refine allSteps_cons (fun ν w' hG hd => ?_) ?_
          · simp only [deps_mk, deps_nil, deps_data, deps_chain, deps_guard, deps_phase, deps_text, deps_gc, depFacts_nil, depFacts_cons, factAt_zero, factAt_succ, and_true, isV_eq] at hd
            have hc := (gcell hG).1
            have hf := (gcell hG).2.1
            have hz := (gcell hG).2.2
            refine stepD_plain rfl rfl (fun R hR => ?_)
            unfold Oper.gives
            go_simp
            exact hR _ _ (isV_rfl _) (Grew.refl _)
          refine allSteps_cons (fun ν w' hG hd => ?_) ?_
          · simp only [deps_mk, deps_nil, deps_data, deps_chain, deps_guard, deps_phase, deps_text, deps_gc, depFacts_nil, depFacts_cons, factAt_zero, factAt_succ, and_true, isV_eq] at hd
            have hc := (gcell hG).1
            have hf := (gcell hG).2.1
            have hz := (gcell hG).2.2
            refine stepD_plain rfl rfl (fun R hR => ?_)
            unfold Oper.gives
            go_simp
            exact hR _ _ (isV_rfl _) (Grew.refl _)
          refine allSteps_cons (fun ν w' hG hd => ?_) ?_
          · simp only [deps_mk, deps_nil, deps_data, deps_chain, deps_guard, deps_phase, deps_text, deps_gc, depFacts_nil, depFacts_cons, factAt_zero, factAt_succ, and_true, isV_eq] at hd
            have hc := (gcell hG).1
            have hf := (gcell hG).2.1
            have hz := (gcell hG).2.2
            refine stepD_plain rfl rfl (fun R hR => ?_)
            unfold Oper.gives
            go_simp
            exact hR _ _ (isV_rfl _) (Grew.refl _)
          refine allSteps_cons (fun ν w' hG hd => ?_) ?_
          · simp only [deps_mk, deps_nil, deps_data, deps_chain, deps_guard, deps_phase, deps_text, deps_gc, depFacts_nil, depFacts_cons, factAt_zero, factAt_succ, and_true, isV_eq] at hd
            have hc := (gcell hG).1
            have hf := (gcell hG).2.1
            have hz := (gcell hG).2.2
            refine stepD_plain rfl rfl (fun R hR => ?_)
            unfold Oper.gives
            go_simp
            refine (h68 _).mono ?_
            intro e w2 hq
            obtain ⟨v, rfl, hv, hg⟩ := RetQ.ret hq
            exact ⟨v, rfl, hR _ _ hv hg⟩
          refine allSteps_cons (fun ν w' hG hd => ?_) ?_
          · simp only [deps_mk, deps_nil, deps_data, deps_chain, deps_guard, deps_phase, deps_text, deps_gc, depFacts_nil, depFacts_cons, factAt_zero, factAt_succ, and_true, isV_eq] at hd
            have hc := (gcell hG).1
            have hf := (gcell hG).2.1
            have hz := (gcell hG).2.2
            refine stepD_plain rfl rfl (fun R hR => ?_)
            unfold Oper.gives
            go_simp
            exact hR _ _ (isV_rfl _) (Grew.refl _)
          refine allSteps_cons (fun ν w' hG hd => ?_) ?_
          · simp only [deps_mk, deps_nil, deps_data, deps_chain, deps_guard, deps_phase, deps_text, deps_gc, depFacts_nil, depFacts_cons, factAt_zero, factAt_succ, and_true, isV_eq] at hd
            have hc := (gcell hG).1
            have hf := (gcell hG).2.1
            have hz := (gcell hG).2.2
            refine stepD_plain rfl rfl (fun R hR => ?_)
            unfold Oper.gives
            go_simp
            exact hR _ _ (isV_rfl _) (Grew.refl _)
          refine allSteps_cons (fun ν w' hG hd => ?_) ?_
          · simp only [deps_mk, deps_nil, deps_data, deps_chain, deps_guard, deps_phase, deps_text, deps_gc, depFacts_nil, depFacts_cons, factAt_zero, factAt_succ, and_true, isV_eq] at hd
            exact stepD_skip rfl (by simp [wantedD, go_sem, undef, *]) (isV_rfl _)
          refine allSteps_cons (fun ν w' hG hd => ?_) ?_
          · simp only [deps_mk, deps_nil, deps_data, deps_chain, deps_guard, deps_phase, deps_text, deps_gc, depFacts_nil, depFacts_cons, factAt_zero, factAt_succ, and_true, isV_eq] at hd
            exact stepD_skip rfl (by simp [wantedD, go_sem, undef, *]) (isV_rfl _)
          refine allSteps_cons (fun ν w' hG hd => ?_) ?_
          · simp only [deps_mk, deps_nil, deps_data, deps_chain, deps_guard, deps_phase, deps_text, deps_gc, depFacts_nil, depFacts_cons, factAt_zero, factAt_succ, and_true, isV_eq] at hd
            exact stepD_skip rfl (by simp [wantedD, go_sem, undef, *]) (isV_rfl _)
          refine allSteps_cons (fun ν w' hG hd => ?_) ?_
          · simp only [deps_mk, deps_nil, deps_data, deps_chain, deps_guard, deps_phase, deps_text, deps_gc, depFacts_nil, depFacts_cons, factAt_zero, factAt_succ, and_true, isV_eq] at hd
            exact stepD_skip rfl (by simp [wantedD, go_sem, undef, *]) (isV_rfl _)
          refine allSteps_cons (fun ν w' hG hd => ?_) ?_
          · simp only [deps_mk, deps_nil, deps_data, deps_chain, deps_guard, deps_phase, deps_text, deps_gc, depFacts_nil, depFacts_cons, factAt_zero, factAt_succ, and_true, isV_eq] at hd
            exact stepD_skip rfl (by simp [wantedD, go_sem, undef, *]) (isV_rfl _)
          refine allSteps_cons (fun ν w' hG hd => ?_) ?_
          · simp only [deps_mk, deps_nil, deps_data, deps_chain, deps_guard, deps_phase, deps_text, deps_gc, depFacts_nil, depFacts_cons, factAt_zero, factAt_succ, and_true, isV_eq] at hd
            have hc := (gcell hG).1
            have hf := (gcell hG).2.1
            have hz := (gcell hG).2.2
            refine stepD_plain rfl rfl (fun R hR => ?_)
            unfold Oper.gives
            go_simp
            exact hR _ _ (isV_rfl _) (Grew.refl _)
          refine allSteps_cons (fun ν w' hG hd => ?_) ?_
          · simp only [deps_mk, deps_nil, deps_data, deps_chain, deps_guard, deps_phase, deps_text, deps_gc, depFacts_nil, depFacts_cons, factAt_zero, factAt_succ, and_true, isV_eq] at hd
            have hc := (gcell hG).1
            have hf := (gcell hG).2.1
            have hz := (gcell hG).2.2
            refine stepD_plain rfl rfl (fun R hR => ?_)
            unfold Oper.gives
            go_simp
            exact hR _ _ (isV_rfl _) (Grew.refl _)
          refine allSteps_cons (fun ν w' hG hd => ?_) ?_
          · simp only [deps_mk, deps_nil, deps_data, deps_chain, deps_guard, deps_phase, deps_text, deps_gc, depFacts_nil, depFacts_cons, factAt_zero, factAt_succ, and_true, isV_eq] at hd
            exact stepD_skip rfl (by simp [wantedD, go_sem, undef, *]) (isV_rfl _)
          refine allSteps_cons (fun ν w' hG hd => ?_) ?_
          · simp only [deps_mk, deps_nil, deps_data, deps_chain, deps_guard, deps_phase, deps_text, deps_gc, depFacts_nil, depFacts_cons, factAt_zero, factAt_succ, and_true, isV_eq] at hd
            exact stepD_skip rfl (by simp [wantedD, go_sem, undef, *]) (isV_rfl _)
          refine allSteps_cons (fun ν w' hG hd => ?_) ?_
          · simp only [deps_mk, deps_nil, deps_data, deps_chain, deps_guard, deps_phase, deps_text, deps_gc, depFacts_nil, depFacts_cons, factAt_zero, factAt_succ, and_true, isV_eq] at hd
            exact stepD_skip rfl (by simp [wantedD, go_sem, undef, *]) (isV_rfl _)
          refine allSteps_cons (fun ν w' hG hd => ?_) ?_
          · simp only [deps_mk, deps_nil, deps_data, deps_chain, deps_guard, deps_phase, deps_text, deps_gc, depFacts_nil, depFacts_cons, factAt_zero, factAt_succ, and_true, isV_eq] at hd
            exact stepD_skip rfl (by simp [wantedD, go_sem, undef, *]) (isV_rfl _)
          refine allSteps_cons (fun ν w' hG hd => ?_) ?_
          · simp only [deps_mk, deps_nil, deps_data, deps_chain, deps_guard, deps_phase, deps_text, deps_gc, depFacts_nil, depFacts_cons, factAt_zero, factAt_succ, and_true, isV_eq] at hd
            exact stepD_skip rfl (by simp [wantedD, go_sem, undef, *]) (isV_rfl _)
          refine allSteps_cons (fun ν w' hG hd => ?_) ?_
          · simp only [deps_mk, deps_nil, deps_data, deps_chain, deps_guard, deps_phase, deps_text, deps_gc, depFacts_nil, depFacts_cons, factAt_zero, factAt_succ, and_true, isV_eq] at hd
            exact stepD_skip rfl (by simp [wantedD, go_sem, undef, *]) (isV_rfl _)
          refine allSteps_cons (fun ν w' hG hd => ?_) ?_
          · simp only [deps_mk, deps_nil, deps_data, deps_chain, deps_guard, deps_phase, deps_text, deps_gc, depFacts_nil, depFacts_cons, factAt_zero, factAt_succ, and_true, isV_eq] at hd
            exact stepD_skip rfl (by simp [wantedD, go_sem, undef, *]) (isV_rfl _)
          refine allSteps_cons (fun ν w' hG hd => ?_) ?_
          · simp only [deps_mk, deps_nil, deps_data, deps_chain, deps_guard, deps_phase, deps_text, deps_gc, depFacts_nil, depFacts_cons, factAt_zero, factAt_succ, and_true, isV_eq] at hd
            exact stepD_skip rfl (by simp [wantedD, go_sem, undef, *]) (isV_rfl _)
          refine allSteps_cons (fun ν w' hG hd => ?_) ?_
          · simp only [deps_mk, deps_nil, deps_data, deps_chain, deps_guard, deps_phase, deps_text, deps_gc, depFacts_nil, depFacts_cons, factAt_zero, factAt_succ, and_true, isV_eq] at hd
            exact stepD_skip rfl (by simp [wantedD, go_sem, undef, *]) (isV_rfl _)
          refine allSteps_cons (fun ν w' hG hd => ?_) ?_
          · simp only [deps_mk, deps_nil, deps_data, deps_chain, deps_guard, deps_phase, deps_text, deps_gc, depFacts_nil, depFacts_cons, factAt_zero, factAt_succ, and_true, isV_eq] at hd
            exact stepD_skip rfl (by simp [wantedD, go_sem, undef, *]) (isV_rfl _)
          refine allSteps_cons (fun ν w' hG hd => ?_) ?_
          · simp only [deps_mk, deps_nil, deps_data, deps_chain, deps_guard, deps_phase, deps_text, deps_gc, depFacts_nil, depFacts_cons, factAt_zero, factAt_succ, and_true, isV_eq] at hd
            exact stepD_skip rfl (by simp [wantedD, go_sem, undef, *]) (isV_rfl _)
          refine allSteps_cons (fun ν w' hG hd => ?_) ?_
          · simp only [deps_mk, deps_nil, deps_data, deps_chain, deps_guard, deps_phase, deps_text, deps_gc, depFacts_nil, depFacts_cons, factAt_zero, factAt_succ, and_true, isV_eq] at hd
            exact stepD_skip rfl (by simp [wantedD, go_sem, undef, *]) (isV_rfl _)
          refine allSteps_cons (fun ν w' hG hd => ?_) ?_
          · simp only [deps_mk, deps_nil, deps_data, deps_chain, deps_guard, deps_phase, deps_text, deps_gc, depFacts_nil, depFacts_cons, factAt_zero, factAt_succ, and_true, isV_eq] at hd
            exact stepD_skip rfl (by simp [wantedD, go_sem, undef, *]) (isV_rfl _)
          refine allSteps_cons (fun ν w' hG hd => ?_) ?_
          · simp only [deps_mk, deps_nil, deps_data, deps_chain, deps_guard, deps_phase, deps_text, deps_gc, depFacts_nil, depFacts_cons, factAt_zero, factAt_succ, and_true, isV_eq] at hd
            exact stepD_skip rfl (by simp [wantedD, go_sem, undef, *]) (isV_rfl _)
          refine allSteps_cons (fun ν w' hG hd => ?_) (allSteps_nil _)
          · simp only [deps_mk, deps_nil, deps_data, deps_chain, deps_guard, deps_phase, deps_text, deps_gc, depFacts_nil, depFacts_cons, factAt_zero, factAt_succ, and_true, isV_eq] at hd
            have hc := (gcell hG).1
            have hf := (gcell hG).2.1
            have hz := (gcell hG).2.2
            refine stepD_plain rfl rfl (fun R hR => ?_)
            unfold Oper.gives
            go_simp
            exact hR _ _ (isV_rfl _) (Grew.refl _)
        case hQ =>
          intro ν w' hG hd
          simp only [List.take_succ_cons, List.take_zero, List.map_cons, List.map_nil, List.drop_succ_cons, List.drop_zero, List.range, List.range.loop, depFacts_nil, depFacts_cons, factAt_zero, factAt_succ, and_true, isV_eq] at hd ⊢
          simp only [frameD_cons, frameD_nil, List.getD_cons_zero, List.getD_cons_succ, Act.put, hd, List.setIfInBounds_toArray, List.set_cons_zero, List.set_cons_succ]
          clear hd
          have hc := (gcell hG).1
          have hf := (gcell hG).2.1
          have hz := (gcell hG).2.2
          go_wp2
          go_ret
          exact ret_of (isB_of Hr.out.symm) (by repeat (first | exact Grew.refl _ | assumption | refine Grew.drewN ?_ _ | refine Grew.drew ?_ | refine Grew.alloc ?_ _ | refine Grew.setCell ?_ (by simp; try omega) _ | refine Grew.trans ?_ (by assumption)))
      · rw [hfi] at h68
        cases hle : fle (at_ zs k) fzero
        · by_cases h0 : k = 0
          · subst h0
            have hz0 : wr.cell? ⟨b, off, none⟩ = some (.float .f64 z) := hz
            have Hr := Lib.hid (show rightTo zs (0 + 1) = true by have := Hok.out; rw [hfi, hle] at this; simp at this; simp only [rightTo, this]; rfl)
            go_wp2_with fail
            apply wp_region_pure 29 [isV _, isV _, isV _, isV _, isV _, isV _, isV _, isV _, isV _, isV _, isV _, isV _, isV _, isV _, isV _, isV _, isV _, isV _, isV _, isV _, isV _, isV _, isV _, isV _, isV _, isV _, isV _, isV _, isV _] (by kernel_rfl) (by kernel_rfl)
            case hops =>
              simp only [List.take_succ_cons, List.take_zero, List.map_cons, List.map_nil]
              refine allSteps_cons (fun ν w' hG hd => ?_) ?_
              · simp only [deps_mk, deps_nil, deps_data, deps_chain, deps_guard, deps_phase, deps_text, deps_gc, depFacts_nil, depFacts_cons, factAt_zero, factAt_succ, and_true, isV_eq] at hd
                have hc := (gcell hG).1
                have hf := (gcell hG).2.1
                have hz := (gcell hG).2.2
                refine stepD_plain rfl rfl (fun R hR => ?_)
                unfold Oper.gives
                go_simp
                exact hR _ _ (isV_rfl _) (Grew.refl _)
              refine allSteps_cons (fun ν w' hG hd => ?_) ?_
              · simp only [deps_mk, deps_nil, deps_data, deps_chain, deps_guard, deps_phase, deps_text, deps_gc, depFacts_nil, depFacts_cons, factAt_zero, factAt_succ, and_true, isV_eq] at hd
                have hc := (gcell hG).1
                have hf := (gcell hG).2.1
                have hz := (gcell hG).2.2
                refine stepD_plain rfl rfl (fun R hR => ?_)
                unfold Oper.gives
                go_simp
                exact hR _ _ (isV_rfl _) (Grew.refl _)
              refine allSteps_cons (fun ν w' hG hd => ?_) ?_
              · simp only [deps_mk, deps_nil, deps_data, deps_chain, deps_guard, deps_phase, deps_text, deps_gc, depFacts_nil, depFacts_cons, factAt_zero, factAt_succ, and_true, isV_eq] at hd
                have hc := (gcell hG).1
                have hf := (gcell hG).2.1
                have hz := (gcell hG).2.2
                refine stepD_plain rfl rfl (fun R hR => ?_)
                unfold Oper.gives
                go_simp
                exact hR _ _ (isV_rfl _) (Grew.refl _)
              refine allSteps_cons (fun ν w' hG hd => ?_) ?_
              · simp only [deps_mk, deps_nil, deps_data, deps_chain, deps_guard, deps_phase, deps_text, deps_gc, depFacts_nil, depFacts_cons, factAt_zero, factAt_succ, and_true, isV_eq] at hd
                have hc := (gcell hG).1
                have hf := (gcell hG).2.1
                have hz := (gcell hG).2.2
                refine stepD_plain rfl rfl (fun R hR => ?_)
                unfold Oper.gives
                go_simp
                exact hR _ _ (isV_rfl _) (Grew.refl _)
              refine allSteps_cons (fun ν w' hG hd => ?_) ?_
              · simp only [deps_mk, deps_nil, deps_data, deps_chain, deps_guard, deps_phase, deps_text, deps_gc, depFacts_nil, depFacts_cons, factAt_zero, factAt_succ, and_true, isV_eq] at hd
                have hc := (gcell hG).1
                have hf := (gcell hG).2.1
                have hz := (gcell hG).2.2
                refine stepD_plain rfl rfl (fun R hR => ?_)
                unfold Oper.gives
                go_simp
                refine (h68 _).mono ?_
                intro e w2 hq
                obtain ⟨v, rfl, hv, hg⟩ := RetQ.ret hq
                exact ⟨v, rfl, hR _ _ hv hg⟩
              refine allSteps_cons (fun ν w' hG hd => ?_) ?_
              · simp only [deps_mk, deps_nil, deps_data, deps_chain, deps_guard, deps_phase, deps_text, deps_gc, depFacts_nil, depFacts_cons, factAt_zero, factAt_succ, and_true, isV_eq] at hd
                have hc := (gcell hG).1
                have hf := (gcell hG).2.1
                have hz := (gcell hG).2.2
                refine stepD_plain rfl rfl (fun R hR => ?_)
                unfold Oper.gives
                go_simp
                exact hR _ _ (isV_rfl _) (Grew.refl _)
              refine allSteps_cons (fun ν w' hG hd => ?_) ?_
              · simp only [deps_mk, deps_nil, deps_data, deps_chain, deps_guard, deps_phase, deps_text, deps_gc, depFacts_nil, depFacts_cons, factAt_zero, factAt_succ, and_true, isV_eq] at hd
                have hc := (gcell hG).1
                have hf := (gcell hG).2.1
                have hz := (gcell hG).2.2
                refine stepD_plain rfl rfl (fun R hR => ?_)
                unfold Oper.gives
                go_simp
                exact hR _ _ (isV_rfl _) (Grew.refl _)
              refine allSteps_cons (fun ν w' hG hd => ?_) ?_
              · simp only [deps_mk, deps_nil, deps_data, deps_chain, deps_guard, deps_phase, deps_text, deps_gc, depFacts_nil, depFacts_cons, factAt_zero, factAt_succ, and_true, isV_eq] at hd
                have hc := (gcell hG).1
                have hf := (gcell hG).2.1
                have hz := (gcell hG).2.2
                refine stepD_plain rfl (by simp [wantedD, go_sem, *]) (fun R hR => ?_)
                unfold Oper.gives
                go_simp
                exact hR _ _ (isV_rfl _) (Grew.refl _)
              refine allSteps_cons (fun ν w' hG hd => ?_) ?_
              · simp only [deps_mk, deps_nil, deps_data, deps_chain, deps_guard, deps_phase, deps_text, deps_gc, depFacts_nil, depFacts_cons, factAt_zero, factAt_succ, and_true, isV_eq] at hd
                have hc := (gcell hG).1
                have hf := (gcell hG).2.1
                have hz := (gcell hG).2.2
                refine stepD_plain rfl (by simp [wantedD, go_sem, *]) (fun R hR => ?_)
                unfold Oper.gives
                go_simp
                exact hR _ _ (isV_rfl _) (Grew.refl _)
              refine allSteps_cons (fun ν w' hG hd => ?_) ?_
              · simp only [deps_mk, deps_nil, deps_data, deps_chain, deps_guard, deps_phase, deps_text, deps_gc, depFacts_nil, depFacts_cons, factAt_zero, factAt_succ, and_true, isV_eq] at hd
                have hc := (gcell hG).1
                have hf := (gcell hG).2.1
                have hz := (gcell hG).2.2
                refine stepD_plain rfl (by simp [wantedD, go_sem, *]) (fun R hR => ?_)
                unfold Oper.gives
                go_simp
                exact hR _ _ (isV_rfl _) (Grew.refl _)
              refine allSteps_cons (fun ν w' hG hd => ?_) ?_
              · simp only [deps_mk, deps_nil, deps_data, deps_chain, deps_guard, deps_phase, deps_text, deps_gc, depFacts_nil, depFacts_cons, factAt_zero, factAt_succ, and_true, isV_eq] at hd
                have hc := (gcell hG).1
                have hf := (gcell hG).2.1
                have hz := (gcell hG).2.2
                refine stepD_plain rfl (by simp [wantedD, go_sem, *]) (fun R hR => ?_)
                unfold Oper.gives
                go_simp
                exact hR _ _ (isV_rfl _) (Grew.refl _)
              refine allSteps_cons (fun ν w' hG hd => ?_) ?_
              · simp only [deps_mk, deps_nil, deps_data, deps_chain, deps_guard, deps_phase, deps_text, deps_gc, depFacts_nil, depFacts_cons, factAt_zero, factAt_succ, and_true, isV_eq] at hd
                have hc := (gcell hG).1
                have hf := (gcell hG).2.1
                have hz := (gcell hG).2.2
                refine stepD_plain rfl (by simp [wantedD, go_sem, *]) (fun R hR => ?_)
                unfold Oper.gives
                go_simp
                exact hR _ _ (isV_rfl _) (Grew.refl _)
              refine allSteps_cons (fun ν w' hG hd => ?_) ?_
              · simp only [deps_mk, deps_nil, deps_data, deps_chain, deps_guard, deps_phase, deps_text, deps_gc, depFacts_nil, depFacts_cons, factAt_zero, factAt_succ, and_true, isV_eq] at hd
                have hc := (gcell hG).1
                have hf := (gcell hG).2.1
                have hz := (gcell hG).2.2
                refine stepD_plain rfl rfl (fun R hR => ?_)
                unfold Oper.gives
                go_simp
                exact hR _ _ (isV_rfl _) (Grew.refl _)
              refine allSteps_cons (fun ν w' hG hd => ?_) ?_
              · simp only [deps_mk, deps_nil, deps_data, deps_chain, deps_guard, deps_phase, deps_text, deps_gc, depFacts_nil, depFacts_cons, factAt_zero, factAt_succ, and_true, isV_eq] at hd
                have hc := (gcell hG).1
                have hf := (gcell hG).2.1
                have hz := (gcell hG).2.2
                refine stepD_plain rfl rfl (fun R hR => ?_)
                unfold Oper.gives
                go_simp
                exact hR _ _ (isV_rfl _) (Grew.refl _)
              refine allSteps_cons (fun ν w' hG hd => ?_) ?_
              · simp only [deps_mk, deps_nil, deps_data, deps_chain, deps_guard, deps_phase, deps_text, deps_gc, depFacts_nil, depFacts_cons, factAt_zero, factAt_succ, and_true, isV_eq] at hd
                have hc := (gcell hG).1
                have hf := (gcell hG).2.1
                have hz := (gcell hG).2.2
                refine stepD_plain rfl (by simp [wantedD, go_sem, *]) (fun R hR => ?_)
                unfold Oper.gives
                go_simp
                exact hR _ _ (isV_rfl _) (Grew.refl _)
              refine allSteps_cons (fun ν w' hG hd => ?_) ?_
              · simp only [deps_mk, deps_nil, deps_data, deps_chain, deps_guard, deps_phase, deps_text, deps_gc, depFacts_nil, depFacts_cons, factAt_zero, factAt_succ, and_true, isV_eq] at hd
                have hc := (gcell hG).1
                have hf := (gcell hG).2.1
                have hz := (gcell hG).2.2
                refine stepD_plain rfl (by simp [wantedD, go_sem, *]) (fun R hR => ?_)
                unfold Oper.gives
                go_simp
                exact hR _ _ (isV_rfl _) (Grew.refl _)
              refine allSteps_cons (fun ν w' hG hd => ?_) ?_
              · simp only [deps_mk, deps_nil, deps_data, deps_chain, deps_guard, deps_phase, deps_text, deps_gc, depFacts_nil, depFacts_cons, factAt_zero, factAt_succ, and_true, isV_eq] at hd
                have hc := (gcell hG).1
                have hf := (gcell hG).2.1
                have hz := (gcell hG).2.2
                refine stepD_plain rfl (by simp [wantedD, go_sem, *]) (fun R hR => ?_)
                unfold Oper.gives
                go_simp
                exact hR _ _ (isV_rfl _) (Grew.refl _)
              refine allSteps_cons (fun ν w' hG hd => ?_) ?_
              · simp only [deps_mk, deps_nil, deps_data, deps_chain, deps_guard, deps_phase, deps_text, deps_gc, depFacts_nil, depFacts_cons, factAt_zero, factAt_succ, and_true, isV_eq] at hd
                exact stepD_skip rfl (by simp [wantedD, go_sem, undef, *]) (isV_rfl _)
              refine allSteps_cons (fun ν w' hG hd => ?_) ?_
              · simp only [deps_mk, deps_nil, deps_data, deps_chain, deps_guard, deps_phase, deps_text, deps_gc, depFacts_nil, depFacts_cons, factAt_zero, factAt_succ, and_true, isV_eq] at hd
                exact stepD_skip rfl (by simp [wantedD, go_sem, undef, *]) (isV_rfl _)
              refine allSteps_cons (fun ν w' hG hd => ?_) ?_
              · simp only [deps_mk, deps_nil, deps_data, deps_chain, deps_guard, deps_phase, deps_text, deps_gc, depFacts_nil, depFacts_cons, factAt_zero, factAt_succ, and_true, isV_eq] at hd
                exact stepD_skip rfl (by simp [wantedD, go_sem, undef, *]) (isV_rfl _)
              refine allSteps_cons (fun ν w' hG hd => ?_) ?_
              · simp only [deps_mk, deps_nil, deps_data, deps_chain, deps_guard, deps_phase, deps_text, deps_gc, depFacts_nil, depFacts_cons, factAt_zero, factAt_succ, and_true, isV_eq] at hd
                exact stepD_skip rfl (by simp [wantedD, go_sem, undef, *]) (isV_rfl _)
              refine allSteps_cons (fun ν w' hG hd => ?_) ?_
              · simp only [deps_mk, deps_nil, deps_data, deps_chain, deps_guard, deps_phase, deps_text, deps_gc, depFacts_nil, depFacts_cons, factAt_zero, factAt_succ, and_true, isV_eq] at hd
                exact stepD_skip rfl (by simp [wantedD, go_sem, undef, *]) (isV_rfl _)
              refine allSteps_cons (fun ν w' hG hd => ?_) ?_
              · simp only [deps_mk, deps_nil, deps_data, deps_chain, deps_guard, deps_phase, deps_text, deps_gc, depFacts_nil, depFacts_cons, factAt_zero, factAt_succ, and_true, isV_eq] at hd
                exact stepD_skip rfl (by simp [wantedD, go_sem, undef, *]) (isV_rfl _)
              refine allSteps_cons (fun ν w' hG hd => ?_) ?_
              · simp only [deps_mk, deps_nil, deps_data, deps_chain, deps_guard, deps_phase, deps_text, deps_gc, depFacts_nil, depFacts_cons, factAt_zero, factAt_succ, and_true, isV_eq] at hd
                exact stepD_skip rfl (by simp [wantedD, go_sem, undef, *]) (isV_rfl _)
              refine allSteps_cons (fun ν w' hG hd => ?_) ?_
              · simp only [deps_mk, deps_nil, deps_data, deps_chain, deps_guard, deps_phase, deps_text, deps_gc, depFacts_nil, depFacts_cons, factAt_zero, factAt_succ, and_true, isV_eq] at hd
                exact stepD_skip rfl (by simp [wantedD, go_sem, undef, *]) (isV_rfl _)
              refine allSteps_cons (fun ν w' hG hd => ?_) ?_
              · simp only [deps_mk, deps_nil, deps_data, deps_chain, deps_guard, deps_phase, deps_text, deps_gc, depFacts_nil, depFacts_cons, factAt_zero, factAt_succ, and_true, isV_eq] at hd
                exact stepD_skip rfl (by simp [wantedD, go_sem, undef, *]) (isV_rfl _)
              refine allSteps_cons (fun ν w' hG hd => ?_) ?_
              · simp only [deps_mk, deps_nil, deps_data, deps_chain, deps_guard, deps_phase, deps_text, deps_gc, depFacts_nil, depFacts_cons, factAt_zero, factAt_succ, and_true, isV_eq] at hd
                exact stepD_skip rfl (by simp [wantedD, go_sem, undef, *]) (isV_rfl _)
              refine allSteps_cons (fun ν w' hG hd => ?_) ?_
              · simp only [deps_mk, deps_nil, deps_data, deps_chain, deps_guard, deps_phase, deps_text, deps_gc, depFacts_nil, depFacts_cons, factAt_zero, factAt_succ, and_true, isV_eq] at hd
                have hc := (gcell hG).1
                have hf := (gcell hG).2.1
                have hz := (gcell hG).2.2
                refine stepD_plain rfl (by simp [wantedD, go_sem, *]) (fun R hR => ?_)
                unfold Oper.gives
                go_simp
                exact hR _ _ (isV_rfl _) (Grew.refl _)
              refine allSteps_cons (fun ν w' hG hd => ?_) (allSteps_nil _)
              · simp only [deps_mk, deps_nil, deps_data, deps_chain, deps_guard, deps_phase, deps_text, deps_gc, depFacts_nil, depFacts_cons, factAt_zero, factAt_succ, and_true, isV_eq] at hd
                have hc := (gcell hG).1
                have hf := (gcell hG).2.1
                have hz := (gcell hG).2.2
                refine stepD_plain rfl rfl (fun R hR => ?_)
                unfold Oper.gives
                go_simp
                exact hR _ _ (isV_rfl _) (Grew.refl _)
            case hQ =>
              intro ν w' hG hd
              simp only [List.take_succ_cons, List.take_zero, List.map_cons, List.map_nil, List.drop_succ_cons, List.drop_zero, List.range, List.range.loop, depFacts_nil, depFacts_cons, factAt_zero, factAt_succ, and_true, isV_eq] at hd ⊢
              simp only [frameD_cons, frameD_nil, List.getD_cons_zero, List.getD_cons_succ, Act.put, hd, List.setIfInBounds_toArray, List.set_cons_zero, List.set_cons_succ]
              clear hd
              have hc := (gcell hG).1
              have hf := (gcell hG).2.1
              have hz := (gcell hG).2.2
              go_wp2
              go_roundw
              case rel => exact ⟨0 + 1, by omega, (by first | rfl | go_num), Hr.out, (by repeat (first | exact Grew.refl _ | assumption | refine Grew.drewN ?_ _ | refine Grew.drew ?_ | refine Grew.alloc ?_ _ | refine Grew.setCell ?_ (by simp; try omega) _ | refine Grew.trans ?_ (by assumption)))⟩
              case measure => simp [intOf] <;> omega
          · obtain ⟨j, rfl⟩ : ∃ j, k = j + 1 := ⟨k - 1, by omega⟩
            obtain ⟨y, hy, ky⟩ := (Hf.out.grew hg).get j (by rw [← Hn.out]; omega)
            have hpos : decide ((0 : Int) < (((j + 1 : Nat)) : Int)) = true := by simp
            have hj : ((((j + 1 : Nat)) : Int)) - 1 = (j : Int) := by omega
            have hj2 : (j : Int) < (n : Int) := by omega
            have hj3 : (0 : Int) ≤ (j : Int) := by omega
            have hjw : IntKind.i64.wrap (j : Int) = j := IntWalk.i64_in _ (by omega)
            cases hlp : fle (at_ zs (j + 1)) (at_ zs j)
            · have Hr := Lib.hid (show rightTo zs (j + 1 + 1) = true by have := Hok.out; simp only [Nat.add_sub_cancel] at this; rw [hfi, hle, hlp] at this; simp at this; rw [rightTo, Hrt.out, this]; rfl)
              go_wp2_with fail
              apply wp_region_pure 29 [isV _, isV _, isV _, isV _, isV _, isV _, isV _, isV _, isV _, isV _, isV _, isV _, isV _, isV _, isV _, isV _, isV _, isV _, isV _, isV _, isV _, isV _, isV _, isV _, isV _, isV _, isV _, isV _, isV _] (by kernel_rfl) (by kernel_rfl)
              case hops =>
                simp only [List.take_succ_cons, List.take_zero, List.map_cons, List.map_nil]
                refine allSteps_cons (fun ν w' hG hd => ?_) ?_
                · simp only [deps_mk, deps_nil, deps_data, deps_chain, deps_guard, deps_phase, deps_text, deps_gc, depFacts_nil, depFacts_cons, factAt_zero, factAt_succ, and_true, isV_eq] at hd
                  have hc := (gcell hG).1
                  have hf := (gcell hG).2.1
                  have hz := (gcell hG).2.2
                  refine stepD_plain rfl rfl (fun R hR => ?_)
                  unfold Oper.gives
                  go_simp
                  exact hR _ _ (isV_rfl _) (Grew.refl _)
                refine allSteps_cons (fun ν w' hG hd => ?_) ?_
                · simp only [deps_mk, deps_nil, deps_data, deps_chain, deps_guard, deps_phase, deps_text, deps_gc, depFacts_nil, depFacts_cons, factAt_zero, factAt_succ, and_true, isV_eq] at hd
                  have hc := (gcell hG).1
                  have hf := (gcell hG).2.1
                  have hz := (gcell hG).2.2
                  refine stepD_plain rfl rfl (fun R hR => ?_)
                  unfold Oper.gives
                  go_simp
                  exact hR _ _ (isV_rfl _) (Grew.refl _)
                refine allSteps_cons (fun ν w' hG hd => ?_) ?_
                · simp only [deps_mk, deps_nil, deps_data, deps_chain, deps_guard, deps_phase, deps_text, deps_gc, depFacts_nil, depFacts_cons, factAt_zero, factAt_succ, and_true, isV_eq] at hd
                  have hc := (gcell hG).1
                  have hf := (gcell hG).2.1
                  have hz := (gcell hG).2.2
                  refine stepD_plain rfl rfl (fun R hR => ?_)
                  unfold Oper.gives
                  go_simp
                  exact hR _ _ (isV_rfl _) (Grew.refl _)
                refine allSteps_cons (fun ν w' hG hd => ?_) ?_
                · simp only [deps_mk, deps_nil, deps_data, deps_chain, deps_guard, deps_phase, deps_text, deps_gc, depFacts_nil, depFacts_cons, factAt_zero, factAt_succ, and_true, isV_eq] at hd
                  have hc := (gcell hG).1
                  have hf := (gcell hG).2.1
                  have hz := (gcell hG).2.2
                  refine stepD_plain rfl rfl (fun R hR => ?_)
                  unfold Oper.gives
                  go_simp
                  exact hR _ _ (isV_rfl _) (Grew.refl _)
                refine allSteps_cons (fun ν w' hG hd => ?_) ?_
                · simp only [deps_mk, deps_nil, deps_data, deps_chain, deps_guard, deps_phase, deps_text, deps_gc, depFacts_nil, depFacts_cons, factAt_zero, factAt_succ, and_true, isV_eq] at hd
                  have hc := (gcell hG).1
                  have hf := (gcell hG).2.1
                  have hz := (gcell hG).2.2
                  refine stepD_plain rfl rfl (fun R hR => ?_)
                  unfold Oper.gives
                  go_simp
                  refine (h68 _).mono ?_
                  intro e w2 hq
                  obtain ⟨v, rfl, hv, hg⟩ := RetQ.ret hq
                  exact ⟨v, rfl, hR _ _ hv hg⟩
                refine allSteps_cons (fun ν w' hG hd => ?_) ?_
                · simp only [deps_mk, deps_nil, deps_data, deps_chain, deps_guard, deps_phase, deps_text, deps_gc, depFacts_nil, depFacts_cons, factAt_zero, factAt_succ, and_true, isV_eq] at hd
                  have hc := (gcell hG).1
                  have hf := (gcell hG).2.1
                  have hz := (gcell hG).2.2
                  refine stepD_plain rfl rfl (fun R hR => ?_)
                  unfold Oper.gives
                  go_simp
                  exact hR _ _ (isV_rfl _) (Grew.refl _)
                refine allSteps_cons (fun ν w' hG hd => ?_) ?_
                · simp only [deps_mk, deps_nil, deps_data, deps_chain, deps_guard, deps_phase, deps_text, deps_gc, depFacts_nil, depFacts_cons, factAt_zero, factAt_succ, and_true, isV_eq] at hd
                  have hc := (gcell hG).1
                  have hf := (gcell hG).2.1
                  have hz := (gcell hG).2.2
                  refine stepD_plain rfl rfl (fun R hR => ?_)
                  unfold Oper.gives
                  go_simp
                  exact hR _ _ (isV_rfl _) (Grew.refl _)
                refine allSteps_cons (fun ν w' hG hd => ?_) ?_
                · simp only [deps_mk, deps_nil, deps_data, deps_chain, deps_guard, deps_phase, deps_text, deps_gc, depFacts_nil, depFacts_cons, factAt_zero, factAt_succ, and_true, isV_eq] at hd
                  have hc := (gcell hG).1
                  have hf := (gcell hG).2.1
                  have hz := (gcell hG).2.2
                  refine stepD_plain rfl (by simp [wantedD, go_sem, *]) (fun R hR => ?_)
                  unfold Oper.gives
                  go_simp
                  exact hR _ _ (isV_rfl _) (Grew.refl _)
                refine allSteps_cons (fun ν w' hG hd => ?_) ?_
                · simp only [deps_mk, deps_nil, deps_data, deps_chain, deps_guard, deps_phase, deps_text, deps_gc, depFacts_nil, depFacts_cons, factAt_zero, factAt_succ, and_true, isV_eq] at hd
                  have hc := (gcell hG).1
                  have hf := (gcell hG).2.1
                  have hz := (gcell hG).2.2
                  refine stepD_plain rfl (by simp [wantedD, go_sem, *]) (fun R hR => ?_)
                  unfold Oper.gives
                  go_simp
                  exact hR _ _ (isV_rfl _) (Grew.refl _)
                refine allSteps_cons (fun ν w' hG hd => ?_) ?_
                · simp only [deps_mk, deps_nil, deps_data, deps_chain, deps_guard, deps_phase, deps_text, deps_gc, depFacts_nil, depFacts_cons, factAt_zero, factAt_succ, and_true, isV_eq] at hd
                  have hc := (gcell hG).1
                  have hf := (gcell hG).2.1
                  have hz := (gcell hG).2.2
                  refine stepD_plain rfl (by simp [wantedD, go_sem, *]) (fun R hR => ?_)
                  unfold Oper.gives
                  go_simp
                  exact hR _ _ (isV_rfl _) (Grew.refl _)
                refine allSteps_cons (fun ν w' hG hd => ?_) ?_
                · simp only [deps_mk, deps_nil, deps_data, deps_chain, deps_guard, deps_phase, deps_text, deps_gc, depFacts_nil, depFacts_cons, factAt_zero, factAt_succ, and_true, isV_eq] at hd
                  have hc := (gcell hG).1
                  have hf := (gcell hG).2.1
                  have hz := (gcell hG).2.2
                  refine stepD_plain rfl (by simp [wantedD, go_sem, *]) (fun R hR => ?_)
                  unfold Oper.gives
                  go_simp
                  exact hR _ _ (isV_rfl _) (Grew.refl _)
                refine allSteps_cons (fun ν w' hG hd => ?_) ?_
                · simp only [deps_mk, deps_nil, deps_data, deps_chain, deps_guard, deps_phase, deps_text, deps_gc, depFacts_nil, depFacts_cons, factAt_zero, factAt_succ, and_true, isV_eq] at hd
                  have hc := (gcell hG).1
                  have hf := (gcell hG).2.1
                  have hz := (gcell hG).2.2
                  refine stepD_plain rfl (by simp [wantedD, go_sem, *]) (fun R hR => ?_)
                  unfold Oper.gives
                  go_simp
                  exact hR _ _ (isV_rfl _) (Grew.refl _)
                refine allSteps_cons (fun ν w' hG hd => ?_) ?_
                · simp only [deps_mk, deps_nil, deps_data, deps_chain, deps_guard, deps_phase, deps_text, deps_gc, depFacts_nil, depFacts_cons, factAt_zero, factAt_succ, and_true, isV_eq] at hd
                  have hc := (gcell hG).1
                  have hf := (gcell hG).2.1
                  have hz := (gcell hG).2.2
                  refine stepD_plain rfl rfl (fun R hR => ?_)
                  unfold Oper.gives
                  go_simp
                  exact hR _ _ (isV_rfl _) (Grew.refl _)
                refine allSteps_cons (fun ν w' hG hd => ?_) ?_
                · simp only [deps_mk, deps_nil, deps_data, deps_chain, deps_guard, deps_phase, deps_text, deps_gc, depFacts_nil, depFacts_cons, factAt_zero, factAt_succ, and_true, isV_eq] at hd
                  have hc := (gcell hG).1
                  have hf := (gcell hG).2.1
                  have hz := (gcell hG).2.2
                  refine stepD_plain rfl rfl (fun R hR => ?_)
                  unfold Oper.gives
                  go_simp
                  exact hR _ _ (isV_rfl _) (Grew.refl _)
                refine allSteps_cons (fun ν w' hG hd => ?_) ?_
                · simp only [deps_mk, deps_nil, deps_data, deps_chain, deps_guard, deps_phase, deps_text, deps_gc, depFacts_nil, depFacts_cons, factAt_zero, factAt_succ, and_true, isV_eq] at hd
                  have hc := (gcell hG).1
                  have hf := (gcell hG).2.1
                  have hz := (gcell hG).2.2
                  refine stepD_plain rfl (by simp [wantedD, go_sem, *]) (fun R hR => ?_)
                  unfold Oper.gives
                  go_simp
                  exact hR _ _ (isV_rfl _) (Grew.refl _)
                refine allSteps_cons (fun ν w' hG hd => ?_) ?_
                · simp only [deps_mk, deps_nil, deps_data, deps_chain, deps_guard, deps_phase, deps_text, deps_gc, depFacts_nil, depFacts_cons, factAt_zero, factAt_succ, and_true, isV_eq] at hd
                  have hc := (gcell hG).1
                  have hf := (gcell hG).2.1
                  have hz := (gcell hG).2.2
                  refine stepD_plain rfl (by simp [wantedD, go_sem, *]) (fun R hR => ?_)
                  unfold Oper.gives
                  go_simp
                  exact hR _ _ (isV_rfl _) (Grew.refl _)
                refine allSteps_cons (fun ν w' hG hd => ?_) ?_
                · simp only [deps_mk, deps_nil, deps_data, deps_chain, deps_guard, deps_phase, deps_text, deps_gc, depFacts_nil, depFacts_cons, factAt_zero, factAt_succ, and_true, isV_eq] at hd
                  have hc := (gcell hG).1
                  have hf := (gcell hG).2.1
                  have hz := (gcell hG).2.2
                  refine stepD_plain rfl (by simp [wantedD, go_sem, *]) (fun R hR => ?_)
                  unfold Oper.gives
                  go_simp
                  exact hR _ _ (isV_rfl _) (Grew.refl _)
                refine allSteps_cons (fun ν w' hG hd => ?_) ?_
                · simp only [deps_mk, deps_nil, deps_data, deps_chain, deps_guard, deps_phase, deps_text, deps_gc, depFacts_nil, depFacts_cons, factAt_zero, factAt_succ, and_true, isV_eq] at hd
                  have hc := (gcell hG).1
                  have hf := (gcell hG).2.1
                  have hz := (gcell hG).2.2
                  refine stepD_plain rfl (by simp [wantedD, go_sem, *]) (fun R hR => ?_)
                  unfold Oper.gives
                  go_simp
                  exact hR _ _ (isV_rfl _) (Grew.refl _)
                refine allSteps_cons (fun ν w' hG hd => ?_) ?_
                · simp only [deps_mk, deps_nil, deps_data, deps_chain, deps_guard, deps_phase, deps_text, deps_gc, depFacts_nil, depFacts_cons, factAt_zero, factAt_succ, and_true, isV_eq] at hd
                  have hc := (gcell hG).1
                  have hf := (gcell hG).2.1
                  have hz := (gcell hG).2.2
                  refine stepD_plain rfl (by simp [wantedD, go_sem, *]) (fun R hR => ?_)
                  unfold Oper.gives
                  go_simp
                  exact hR _ _ (isV_rfl _) (Grew.refl _)
                refine allSteps_cons (fun ν w' hG hd => ?_) ?_
                · simp only [deps_mk, deps_nil, deps_data, deps_chain, deps_guard, deps_phase, deps_text, deps_gc, depFacts_nil, depFacts_cons, factAt_zero, factAt_succ, and_true, isV_eq] at hd
                  have hc := (gcell hG).1
                  have hf := (gcell hG).2.1
                  have hz := (gcell hG).2.2
                  refine stepD_plain rfl (by simp [wantedD, go_sem, *]) (fun R hR => ?_)
                  unfold Oper.gives
                  go_simp
                  exact hR _ _ (isV_rfl _) (Grew.refl _)
                refine allSteps_cons (fun ν w' hG hd => ?_) ?_
                · simp only [deps_mk, deps_nil, deps_data, deps_chain, deps_guard, deps_phase, deps_text, deps_gc, depFacts_nil, depFacts_cons, factAt_zero, factAt_succ, and_true, isV_eq] at hd
                  have hc := (gcell hG).1
                  have hf := (gcell hG).2.1
                  have hz := (gcell hG).2.2
                  refine stepD_plain rfl (by simp [wantedD, go_sem, *]) (fun R hR => ?_)
                  unfold Oper.gives
                  go_simp
                  exact hR _ _ (isV_rfl _) (Grew.refl _)
                refine allSteps_cons (fun ν w' hG hd => ?_) ?_
                · simp only [deps_mk, deps_nil, deps_data, deps_chain, deps_guard, deps_phase, deps_text, deps_gc, depFacts_nil, depFacts_cons, factAt_zero, factAt_succ, and_true, isV_eq] at hd
                  have hc := (gcell hG).1
                  have hf := (gcell hG).2.1
                  have hz := (gcell hG).2.2
                  refine stepD_plain rfl (by simp [wantedD, go_sem, *]) (fun R hR => ?_)
                  unfold Oper.gives
                  go_simp
                  exact hR _ _ (isV_rfl _) (Grew.refl _)
                refine allSteps_cons (fun ν w' hG hd => ?_) ?_
                · simp only [deps_mk, deps_nil, deps_data, deps_chain, deps_guard, deps_phase, deps_text, deps_gc, depFacts_nil, depFacts_cons, factAt_zero, factAt_succ, and_true, isV_eq] at hd
                  have hc := (gcell hG).1
                  have hf := (gcell hG).2.1
                  have hz := (gcell hG).2.2
                  refine stepD_plain rfl (by simp [wantedD, go_sem, *]) (fun R hR => ?_)
                  unfold Oper.gives
                  go_simp
                  exact hR _ _ (isV_rfl _) (Grew.refl _)
                refine allSteps_cons (fun ν w' hG hd => ?_) ?_
                · simp only [deps_mk, deps_nil, deps_data, deps_chain, deps_guard, deps_phase, deps_text, deps_gc, depFacts_nil, depFacts_cons, factAt_zero, factAt_succ, and_true, isV_eq] at hd
                  have hc := (gcell hG).1
                  have hf := (gcell hG).2.1
                  have hz := (gcell hG).2.2
                  refine stepD_plain rfl (by simp [wantedD, go_sem, *]) (fun R hR => ?_)
                  unfold Oper.gives
                  go_simp
                  exact hR _ _ (isV_rfl _) (Grew.refl _)
                refine allSteps_cons (fun ν w' hG hd => ?_) ?_
                · simp only [deps_mk, deps_nil, deps_data, deps_chain, deps_guard, deps_phase, deps_text, deps_gc, depFacts_nil, depFacts_cons, factAt_zero, factAt_succ, and_true, isV_eq] at hd
                  have hc := (gcell hG).1
                  have hf := (gcell hG).2.1
                  have hz := (gcell hG).2.2
                  refine stepD_plain rfl (by simp [wantedD, go_sem, *]) (fun R hR => ?_)
                  unfold Oper.gives
                  go_simp
                  exact hR _ _ (isV_rfl _) (Grew.refl _)
                refine allSteps_cons (fun ν w' hG hd => ?_) ?_
                · simp only [deps_mk, deps_nil, deps_data, deps_chain, deps_guard, deps_phase, deps_text, deps_gc, depFacts_nil, depFacts_cons, factAt_zero, factAt_succ, and_true, isV_eq] at hd
                  have hc := (gcell hG).1
                  have hf := (gcell hG).2.1
                  have hz := (gcell hG).2.2
                  refine stepD_plain rfl (by simp [wantedD, go_sem, *]) (fun R hR => ?_)
                  unfold Oper.gives
                  go_simp
                  exact hR _ _ (isV_rfl _) (Grew.refl _)
                refine allSteps_cons (fun ν w' hG hd => ?_) ?_
                · simp only [deps_mk, deps_nil, deps_data, deps_chain, deps_guard, deps_phase, deps_text, deps_gc, depFacts_nil, depFacts_cons, factAt_zero, factAt_succ, and_true, isV_eq] at hd
                  have hc := (gcell hG).1
                  have hf := (gcell hG).2.1
                  have hz := (gcell hG).2.2
                  refine stepD_plain rfl (by simp [wantedD, go_sem, *]) (fun R hR => ?_)
                  unfold Oper.gives
                  go_simp
                  exact hR _ _ (isV_rfl _) (Grew.refl _)
                refine allSteps_cons (fun ν w' hG hd => ?_) ?_
                · simp only [deps_mk, deps_nil, deps_data, deps_chain, deps_guard, deps_phase, deps_text, deps_gc, depFacts_nil, depFacts_cons, factAt_zero, factAt_succ, and_true, isV_eq] at hd
                  have hc := (gcell hG).1
                  have hf := (gcell hG).2.1
                  have hz := (gcell hG).2.2
                  refine stepD_plain rfl (by simp [wantedD, go_sem, *]) (fun R hR => ?_)
                  unfold Oper.gives
                  go_simp
                  exact hR _ _ (isV_rfl _) (Grew.refl _)
                refine allSteps_cons (fun ν w' hG hd => ?_) (allSteps_nil _)
                · simp only [deps_mk, deps_nil, deps_data, deps_chain, deps_guard, deps_phase, deps_text, deps_gc, depFacts_nil, depFacts_cons, factAt_zero, factAt_succ, and_true, isV_eq] at hd
                  have hc := (gcell hG).1
                  have hf := (gcell hG).2.1
                  have hz := (gcell hG).2.2
                  refine stepD_plain rfl rfl (fun R hR => ?_)
                  unfold Oper.gives
                  go_simp
                  exact hR _ _ (isV_rfl _) (Grew.refl _)
              case hQ =>
                intro ν w' hG hd
                simp only [List.take_succ_cons, List.take_zero, List.map_cons, List.map_nil, List.drop_succ_cons, List.drop_zero, List.range, List.range.loop, depFacts_nil, depFacts_cons, factAt_zero, factAt_succ, and_true, isV_eq] at hd ⊢
                simp only [frameD_cons, frameD_nil, List.getD_cons_zero, List.getD_cons_succ, Act.put, hd, List.setIfInBounds_toArray, List.set_cons_zero, List.set_cons_succ]
                clear hd
                have hc := (gcell hG).1
                have hf := (gcell hG).2.1
                have hz := (gcell hG).2.2
                go_wp2
                go_roundw
                case rel => exact ⟨j + 1 + 1, by omega, (by first | rfl | go_num), Hr.out, (by repeat (first | exact Grew.refl _ | assumption | refine Grew.drewN ?_ _ | refine Grew.drew ?_ | refine Grew.alloc ?_ _ | refine Grew.setCell ?_ (by simp; try omega) _ | refine Grew.trans ?_ (by assumption)))⟩
                case measure => simp [intOf] <;> omega
            · have Hr := Lib.hid (Hno.out (by have := Hok.out; simp only [Nat.add_sub_cancel] at this; rw [hfi, hle, hlp] at this; simpa using this))
              go_wp2_with fail
              apply wp_region_pure 29 [isV _, isV _, isV _, isV _, isV _, isV _, isV _, isV _, isV _, isV _, isV _, isV _, isV _, isV _, isV _, isV _, isV _, isV _, isV _, isV _, isV _, isV _, isV _, isV _, isV _, isV _, isV _, isV _, isV _] (by kernel_rfl) (by kernel_rfl)
              case hops =>
                simp only [List.take_succ_cons, List.take_zero, List.map_cons, List.map_nil]
                refine allSteps_cons (fun ν w' hG hd => ?_) ?_
                · simp only [deps_mk, deps_nil, deps_data, deps_chain, deps_guard, deps_phase, deps_text, deps_gc, depFacts_nil, depFacts_cons, factAt_zero, factAt_succ, and_true, isV_eq] at hd
                  have hc := (gcell hG).1
                  have hf := (gcell hG).2.1
                  have hz := (gcell hG).2.2
                  refine stepD_plain rfl rfl (fun R hR => ?_)
                  unfold Oper.gives
                  go_simp
                  exact hR _ _ (isV_rfl _) (Grew.refl _)
                refine allSteps_cons (fun ν w' hG hd => ?_) ?_
                · simp only [deps_mk, deps_nil, deps_data, deps_chain, deps_guard, deps_phase, deps_text, deps_gc, depFacts_nil, depFacts_cons, factAt_zero, factAt_succ, and_true, isV_eq] at hd
                  have hc := (gcell hG).1
                  have hf := (gcell hG).2.1
                  have hz := (gcell hG).2.2
                  refine stepD_plain rfl rfl (fun R hR => ?_)
                  unfold Oper.gives
                  go_simp
                  exact hR _ _ (isV_rfl _) (Grew.refl _)
                refine allSteps_cons (fun ν w' hG hd => ?_) ?_
                · simp only [deps_mk, deps_nil, deps_data, deps_chain, deps_guard, deps_phase, deps_text, deps_gc, depFacts_nil, depFacts_cons, factAt_zero, factAt_succ, and_true, isV_eq] at hd
                  have hc := (gcell hG).1
                  have hf := (gcell hG).2.1
                  have hz := (gcell hG).2.2
                  refine stepD_plain rfl rfl (fun R hR => ?_)
                  unfold Oper.gives
                  go_simp
                  exact hR _ _ (isV_rfl _) (Grew.refl _)
                refine allSteps_cons (fun ν w' hG hd => ?_) ?_
                · simp only [deps_mk, deps_nil, deps_data, deps_chain, deps_guard, deps_phase, deps_text, deps_gc, depFacts_nil, depFacts_cons, factAt_zero, factAt_succ, and_true, isV_eq] at hd
                  have hc := (gcell hG).1
                  have hf := (gcell hG).2.1
                  have hz := (gcell hG).2.2
                  refine stepD_plain rfl rfl (fun R hR => ?_)
                  unfold Oper.gives
                  go_simp
                  exact hR _ _ (isV_rfl _) (Grew.refl _)
                refine allSteps_cons (fun ν w' hG hd => ?_) ?_
                · simp only [deps_mk, deps_nil, deps_data, deps_chain, deps_guard, deps_phase, deps_text, deps_gc, depFacts_nil, depFacts_cons, factAt_zero, factAt_succ, and_true, isV_eq] at hd
                  have hc := (gcell hG).1
                  have hf := (gcell hG).2.1
                  have hz := (gcell hG).2.2
                  refine stepD_plain rfl rfl (fun R hR => ?_)
                  unfold Oper.gives
                  go_simp
                  refine (h68 _).mono ?_
                  intro e w2 hq
                  obtain ⟨v, rfl, hv, hg⟩ := RetQ.ret hq
                  exact ⟨v, rfl, hR _ _ hv hg⟩
                refine allSteps_cons (fun ν w' hG hd => ?_) ?_
                · simp only [deps_mk, deps_nil, deps_data, deps_chain, deps_guard, deps_phase, deps_text, deps_gc, depFacts_nil, depFacts_cons, factAt_zero, factAt_succ, and_true, isV_eq] at hd
                  have hc := (gcell hG).1
                  have hf := (gcell hG).2.1
                  have hz := (gcell hG).2.2
                  refine stepD_plain rfl rfl (fun R hR => ?_)
                  unfold Oper.gives
                  go_simp
                  exact hR _ _ (isV_rfl _) (Grew.refl _)
                refine allSteps_cons (fun ν w' hG hd => ?_) ?_
                · simp only [deps_mk, deps_nil, deps_data, deps_chain, deps_guard, deps_phase, deps_text, deps_gc, depFacts_nil, depFacts_cons, factAt_zero, factAt_succ, and_true, isV_eq] at hd
                  have hc := (gcell hG).1
                  have hf := (gcell hG).2.1
                  have hz := (gcell hG).2.2
                  refine stepD_plain rfl rfl (fun R hR => ?_)
                  unfold Oper.gives
                  go_simp
                  exact hR _ _ (isV_rfl _) (Grew.refl _)
                refine allSteps_cons (fun ν w' hG hd => ?_) ?_
                · simp only [deps_mk, deps_nil, deps_data, deps_chain, deps_guard, deps_phase, deps_text, deps_gc, depFacts_nil, depFacts_cons, factAt_zero, factAt_succ, and_true, isV_eq] at hd
                  have hc := (gcell hG).1
                  have hf := (gcell hG).2.1
                  have hz := (gcell hG).2.2
                  refine stepD_plain rfl (by simp [wantedD, go_sem, *]) (fun R hR => ?_)
                  unfold Oper.gives
                  go_simp
                  exact hR _ _ (isV_rfl _) (Grew.refl _)
                refine allSteps_cons (fun ν w' hG hd => ?_) ?_
                · simp only [deps_mk, deps_nil, deps_data, deps_chain, deps_guard, deps_phase, deps_text, deps_gc, depFacts_nil, depFacts_cons, factAt_zero, factAt_succ, and_true, isV_eq] at hd
                  have hc := (gcell hG).1
                  have hf := (gcell hG).2.1
                  have hz := (gcell hG).2.2
                  refine stepD_plain rfl (by simp [wantedD, go_sem, *]) (fun R hR => ?_)
                  unfold Oper.gives
                  go_simp
                  exact hR _ _ (isV_rfl _) (Grew.refl _)
                refine allSteps_cons (fun ν w' hG hd => ?_) ?_
                · simp only [deps_mk, deps_nil, deps_data, deps_chain, deps_guard, deps_phase, deps_text, deps_gc, depFacts_nil, depFacts_cons, factAt_zero, factAt_succ, and_true, isV_eq] at hd
                  have hc := (gcell hG).1
                  have hf := (gcell hG).2.1
                  have hz := (gcell hG).2.2
                  refine stepD_plain rfl (by simp [wantedD, go_sem, *]) (fun R hR => ?_)
                  unfold Oper.gives
                  go_simp
                  exact hR _ _ (isV_rfl _) (Grew.refl _)
                refine allSteps_cons (fun ν w' hG hd => ?_) ?_
                · simp only [deps_mk, deps_nil, deps_data, deps_chain, deps_guard, deps_phase, deps_text, deps_gc, depFacts_nil, depFacts_cons, factAt_zero, factAt_succ, and_true, isV_eq] at hd
                  have hc := (gcell hG).1
                  have hf := (gcell hG).2.1
                  have hz := (gcell hG).2.2
                  refine stepD_plain rfl (by simp [wantedD, go_sem, *]) (fun R hR => ?_)
                  unfold Oper.gives
                  go_simp
                  exact hR _ _ (isV_rfl _) (Grew.refl _)
                refine allSteps_cons (fun ν w' hG hd => ?_) ?_
                · simp only [deps_mk, deps_nil, deps_data, deps_chain, deps_guard, deps_phase, deps_text, deps_gc, depFacts_nil, depFacts_cons, factAt_zero, factAt_succ, and_true, isV_eq] at hd
                  have hc := (gcell hG).1
                  have hf := (gcell hG).2.1
                  have hz := (gcell hG).2.2
                  refine stepD_plain rfl (by simp [wantedD, go_sem, *]) (fun R hR => ?_)
                  unfold Oper.gives
                  go_simp
                  exact hR _ _ (isV_rfl _) (Grew.refl _)
                refine allSteps_cons (fun ν w' hG hd => ?_) ?_
                · simp only [deps_mk, deps_nil, deps_data, deps_chain, deps_guard, deps_phase, deps_text, deps_gc, depFacts_nil, depFacts_cons, factAt_zero, factAt_succ, and_true, isV_eq] at hd
                  have hc := (gcell hG).1
                  have hf := (gcell hG).2.1
                  have hz := (gcell hG).2.2
                  refine stepD_plain rfl rfl (fun R hR => ?_)
                  unfold Oper.gives
                  go_simp
                  exact hR _ _ (isV_rfl _) (Grew.refl _)
                refine allSteps_cons (fun ν w' hG hd => ?_) ?_
                · simp only [deps_mk, deps_nil, deps_data, deps_chain, deps_guard, deps_phase, deps_text, deps_gc, depFacts_nil, depFacts_cons, factAt_zero, factAt_succ, and_true, isV_eq] at hd
                  have hc := (gcell hG).1
                  have hf := (gcell hG).2.1
                  have hz := (gcell hG).2.2
                  refine stepD_plain rfl rfl (fun R hR => ?_)
                  unfold Oper.gives
                  go_simp
                  exact hR _ _ (isV_rfl _) (Grew.refl _)
                refine allSteps_cons (fun ν w' hG hd => ?_) ?_
                · simp only [deps_mk, deps_nil, deps_data, deps_chain, deps_guard, deps_phase, deps_text, deps_gc, depFacts_nil, depFacts_cons, factAt_zero, factAt_succ, and_true, isV_eq] at hd
                  have hc := (gcell hG).1
                  have hf := (gcell hG).2.1
                  have hz := (gcell hG).2.2
                  refine stepD_plain rfl (by simp [wantedD, go_sem, *]) (fun R hR => ?_)
                  unfold Oper.gives
                  go_simp
                  exact hR _ _ (isV_rfl _) (Grew.refl _)
                refine allSteps_cons (fun ν w' hG hd => ?_) ?_
                · simp only [deps_mk, deps_nil, deps_data, deps_chain, deps_guard, deps_phase, deps_text, deps_gc, depFacts_nil, depFacts_cons, factAt_zero, factAt_succ, and_true, isV_eq] at hd
                  have hc := (gcell hG).1
                  have hf := (gcell hG).2.1
                  have hz := (gcell hG).2.2
                  refine stepD_plain rfl (by simp [wantedD, go_sem, *]) (fun R hR => ?_)
                  unfold Oper.gives
                  go_simp
                  exact hR _ _ (isV_rfl _) (Grew.refl _)
                refine allSteps_cons (fun ν w' hG hd => ?_) ?_
                · simp only [deps_mk, deps_nil, deps_data, deps_chain, deps_guard, deps_phase, deps_text, deps_gc, depFacts_nil, depFacts_cons, factAt_zero, factAt_succ, and_true, isV_eq] at hd
                  have hc := (gcell hG).1
                  have hf := (gcell hG).2.1
                  have hz := (gcell hG).2.2
                  refine stepD_plain rfl (by simp [wantedD, go_sem, *]) (fun R hR => ?_)
                  unfold Oper.gives
                  go_simp
                  exact hR _ _ (isV_rfl _) (Grew.refl _)
                refine allSteps_cons (fun ν w' hG hd => ?_) ?_
                · simp only [deps_mk, deps_nil, deps_data, deps_chain, deps_guard, deps_phase, deps_text, deps_gc, depFacts_nil, depFacts_cons, factAt_zero, factAt_succ, and_true, isV_eq] at hd
                  have hc := (gcell hG).1
                  have hf := (gcell hG).2.1
                  have hz := (gcell hG).2.2
                  refine stepD_plain rfl (by simp [wantedD, go_sem, *]) (fun R hR => ?_)
                  unfold Oper.gives
                  go_simp
                  exact hR _ _ (isV_rfl _) (Grew.refl _)
                refine allSteps_cons (fun ν w' hG hd => ?_) ?_
                · simp only [deps_mk, deps_nil, deps_data, deps_chain, deps_guard, deps_phase, deps_text, deps_gc, depFacts_nil, depFacts_cons, factAt_zero, factAt_succ, and_true, isV_eq] at hd
                  have hc := (gcell hG).1
                  have hf := (gcell hG).2.1
                  have hz := (gcell hG).2.2
                  refine stepD_plain rfl (by simp [wantedD, go_sem, *]) (fun R hR => ?_)
                  unfold Oper.gives
                  go_simp
                  exact hR _ _ (isV_rfl _) (Grew.refl _)
                refine allSteps_cons (fun ν w' hG hd => ?_) ?_
                · simp only [deps_mk, deps_nil, deps_data, deps_chain, deps_guard, deps_phase, deps_text, deps_gc, depFacts_nil, depFacts_cons, factAt_zero, factAt_succ, and_true, isV_eq] at hd
                  have hc := (gcell hG).1
                  have hf := (gcell hG).2.1
                  have hz := (gcell hG).2.2
                  refine stepD_plain rfl (by simp [wantedD, go_sem, *]) (fun R hR => ?_)
                  unfold Oper.gives
                  go_simp
                  exact hR _ _ (isV_rfl _) (Grew.refl _)
                refine allSteps_cons (fun ν w' hG hd => ?_) ?_
                · simp only [deps_mk, deps_nil, deps_data, deps_chain, deps_guard, deps_phase, deps_text, deps_gc, depFacts_nil, depFacts_cons, factAt_zero, factAt_succ, and_true, isV_eq] at hd
                  have hc := (gcell hG).1
                  have hf := (gcell hG).2.1
                  have hz := (gcell hG).2.2
                  refine stepD_plain rfl (by simp [wantedD, go_sem, *]) (fun R hR => ?_)
                  unfold Oper.gives
                  go_simp
                  exact hR _ _ (isV_rfl _) (Grew.refl _)
                refine allSteps_cons (fun ν w' hG hd => ?_) ?_
                · simp only [deps_mk, deps_nil, deps_data, deps_chain, deps_guard, deps_phase, deps_text, deps_gc, depFacts_nil, depFacts_cons, factAt_zero, factAt_succ, and_true, isV_eq] at hd
                  have hc := (gcell hG).1
                  have hf := (gcell hG).2.1
                  have hz := (gcell hG).2.2
                  refine stepD_plain rfl (by simp [wantedD, go_sem, *]) (fun R hR => ?_)
                  unfold Oper.gives
                  go_simp
                  exact hR _ _ (isV_rfl _) (Grew.refl _)
                refine allSteps_cons (fun ν w' hG hd => ?_) ?_
                · simp only [deps_mk, deps_nil, deps_data, deps_chain, deps_guard, deps_phase, deps_text, deps_gc, depFacts_nil, depFacts_cons, factAt_zero, factAt_succ, and_true, isV_eq] at hd
                  have hc := (gcell hG).1
                  have hf := (gcell hG).2.1
                  have hz := (gcell hG).2.2
                  refine stepD_plain rfl (by simp [wantedD, go_sem, *]) (fun R hR => ?_)
                  unfold Oper.gives
                  go_simp
                  exact hR _ _ (isV_rfl _) (Grew.refl _)
                refine allSteps_cons (fun ν w' hG hd => ?_) ?_
                · simp only [deps_mk, deps_nil, deps_data, deps_chain, deps_guard, deps_phase, deps_text, deps_gc, depFacts_nil, depFacts_cons, factAt_zero, factAt_succ, and_true, isV_eq] at hd
                  have hc := (gcell hG).1
                  have hf := (gcell hG).2.1
                  have hz := (gcell hG).2.2
                  refine stepD_plain rfl (by simp [wantedD, go_sem, *]) (fun R hR => ?_)
                  unfold Oper.gives
                  go_simp
                  exact hR _ _ (isV_rfl _) (Grew.refl _)
                refine allSteps_cons (fun ν w' hG hd => ?_) ?_
                · simp only [deps_mk, deps_nil, deps_data, deps_chain, deps_guard, deps_phase, deps_text, deps_gc, depFacts_nil, depFacts_cons, factAt_zero, factAt_succ, and_true, isV_eq] at hd
                  have hc := (gcell hG).1
                  have hf := (gcell hG).2.1
                  have hz := (gcell hG).2.2
                  refine stepD_plain rfl (by simp [wantedD, go_sem, *]) (fun R hR => ?_)
                  unfold Oper.gives
                  go_simp
                  exact hR _ _ (isV_rfl _) (Grew.refl _)
                refine allSteps_cons (fun ν w' hG hd => ?_) ?_
                · simp only [deps_mk, deps_nil, deps_data, deps_chain, deps_guard, deps_phase, deps_text, deps_gc, depFacts_nil, depFacts_cons, factAt_zero, factAt_succ, and_true, isV_eq] at hd
                  have hc := (gcell hG).1
                  have hf := (gcell hG).2.1
                  have hz := (gcell hG).2.2
                  refine stepD_plain rfl (by simp [wantedD, go_sem, *]) (fun R hR => ?_)
                  unfold Oper.gives
                  go_simp
                  exact hR _ _ (isV_rfl _) (Grew.refl _)
                refine allSteps_cons (fun ν w' hG hd => ?_) ?_
                · simp only [deps_mk, deps_nil, deps_data, deps_chain, deps_guard, deps_phase, deps_text, deps_gc, depFacts_nil, depFacts_cons, factAt_zero, factAt_succ, and_true, isV_eq] at hd
                  have hc := (gcell hG).1
                  have hf := (gcell hG).2.1
                  have hz := (gcell hG).2.2
                  refine stepD_plain rfl (by simp [wantedD, go_sem, *]) (fun R hR => ?_)
                  unfold Oper.gives
                  go_simp
                  exact hR _ _ (isV_rfl _) (Grew.refl _)
                refine allSteps_cons (fun ν w' hG hd => ?_) ?_
                · simp only [deps_mk, deps_nil, deps_data, deps_chain, deps_guard, deps_phase, deps_text, deps_gc, depFacts_nil, depFacts_cons, factAt_zero, factAt_succ, and_true, isV_eq] at hd
                  have hc := (gcell hG).1
                  have hf := (gcell hG).2.1
                  have hz := (gcell hG).2.2
                  refine stepD_plain rfl (by simp [wantedD, go_sem, *]) (fun R hR => ?_)
                  unfold Oper.gives
                  go_simp
                  exact hR _ _ (isV_rfl _) (Grew.refl _)
                refine allSteps_cons (fun ν w' hG hd => ?_) (allSteps_nil _)
                · simp only [deps_mk, deps_nil, deps_data, deps_chain, deps_guard, deps_phase, deps_text, deps_gc, depFacts_nil, depFacts_cons, factAt_zero, factAt_succ, and_true, isV_eq] at hd
                  have hc := (gcell hG).1
                  have hf := (gcell hG).2.1
                  have hz := (gcell hG).2.2
                  refine stepD_plain rfl rfl (fun R hR => ?_)
                  unfold Oper.gives
                  go_simp
                  exact hR _ _ (isV_rfl _) (Grew.refl _)
              case hQ =>
                intro ν w' hG hd
                simp only [List.take_succ_cons, List.take_zero, List.map_cons, List.map_nil, List.drop_succ_cons, List.drop_zero, List.range, List.range.loop, depFacts_nil, depFacts_cons, factAt_zero, factAt_succ, and_true, isV_eq] at hd ⊢
                simp only [frameD_cons, frameD_nil, List.getD_cons_zero, List.getD_cons_succ, Act.put, hd, List.setIfInBounds_toArray, List.set_cons_zero, List.set_cons_succ]
                clear hd
                have hc := (gcell hG).1
                have hf := (gcell hG).2.1
                have hz := (gcell hG).2.2
                go_wp2
                go_ret
                exact ret_of (isB_of Hr.out.symm) (by repeat (first | exact Grew.refl _ | assumption | refine Grew.drewN ?_ _ | refine Grew.drew ?_ | refine Grew.alloc ?_ _ | refine Grew.setCell ?_ (by simp; try omega) _ | refine Grew.trans ?_ (by assumption)))
        · have Hr := Lib.hid (Hno.out (by have := Hok.out; rw [hfi, hle] at this; simpa using this))
          go_wp2_with fail
          apply wp_region_pure 29 [isV _, isV _, isV _, isV _, isV _, isV _, isV _, isV _, isV _, isV _, isV _, isV _, isV _, isV _, isV _, isV _, isV _, isV _, isV _, isV _, isV _, isV _, isV _, isV _, isV _, isV _, isV _, isV _, isV _] (by kernel_rfl) (by kernel_rfl)
          case hops =>
            simp only [List.take_succ_cons, List.take_zero, List.map_cons, List.map_nil]
            refine allSteps_cons (fun ν w' hG hd => ?_) ?_
            · simp only [deps_mk, deps_nil, deps_data, deps_chain, deps_guard, deps_phase, deps_text, deps_gc, depFacts_nil, depFacts_cons, factAt_zero, factAt_succ, and_true, isV_eq] at hd
              have hc := (gcell hG).1
              have hf := (gcell hG).2.1
              have hz := (gcell hG).2.2
              refine stepD_plain rfl rfl (fun R hR => ?_)
              unfold Oper.gives
              go_simp
              exact hR _ _ (isV_rfl _) (Grew.refl _)
            refine allSteps_cons (fun ν w' hG hd => ?_) ?_
            · simp only [deps_mk, deps_nil, deps_data, deps_chain, deps_guard, deps_phase, deps_text, deps_gc, depFacts_nil, depFacts_cons, factAt_zero, factAt_succ, and_true, isV_eq] at hd
              have hc := (gcell hG).1
              have hf := (gcell hG).2.1
              have hz := (gcell hG).2.2
              refine stepD_plain rfl rfl (fun R hR => ?_)
              unfold Oper.gives
              go_simp
              exact hR _ _ (isV_rfl _) (Grew.refl _)
            refine allSteps_cons (fun ν w' hG hd => ?_) ?_
            · simp only [deps_mk, deps_nil, deps_data, deps_chain, deps_guard, deps_phase, deps_text, deps_gc, depFacts_nil, depFacts_cons, factAt_zero, factAt_succ, and_true, isV_eq] at hd
              have hc := (gcell hG).1
              have hf := (gcell hG).2.1
              have hz := (gcell hG).2.2
              refine stepD_plain rfl rfl (fun R hR => ?_)
              unfold Oper.gives
              go_simp
              exact hR _ _ (isV_rfl _) (Grew.refl _)
            refine allSteps_cons (fun ν w' hG hd => ?_) ?_
            · simp only [deps_mk, deps_nil, deps_data, deps_chain, deps_guard, deps_phase, deps_text, deps_gc, depFacts_nil, depFacts_cons, factAt_zero, factAt_succ, and_true, isV_eq] at hd
              have hc := (gcell hG).1
              have hf := (gcell hG).2.1
              have hz := (gcell hG).2.2
              refine stepD_plain rfl rfl (fun R hR => ?_)
              unfold Oper.gives
              go_simp
              exact hR _ _ (isV_rfl _) (Grew.refl _)
            refine allSteps_cons (fun ν w' hG hd => ?_) ?_
            · simp only [deps_mk, deps_nil, deps_data, deps_chain, deps_guard, deps_phase, deps_text, deps_gc, depFacts_nil, depFacts_cons, factAt_zero, factAt_succ, and_true, isV_eq] at hd
              have hc := (gcell hG).1
              have hf := (gcell hG).2.1
              have hz := (gcell hG).2.2
              refine stepD_plain rfl rfl (fun R hR => ?_)
              unfold Oper.gives
              go_simp
              refine (h68 _).mono ?_
              intro e w2 hq
              obtain ⟨v, rfl, hv, hg⟩ := RetQ.ret hq
              exact ⟨v, rfl, hR _ _ hv hg⟩
            refine allSteps_cons (fun ν w' hG hd => ?_) ?_
            · simp only [deps_mk, deps_nil, deps_data, deps_chain, deps_guard, deps_phase, deps_text, deps_gc, depFacts_nil, depFacts_cons, factAt_zero, factAt_succ, and_true, isV_eq] at hd
              have hc := (gcell hG).1
              have hf := (gcell hG).2.1
              have hz := (gcell hG).2.2
              refine stepD_plain rfl rfl (fun R hR => ?_)
              unfold Oper.gives
              go_simp
              exact hR _ _ (isV_rfl _) (Grew.refl _)
            refine allSteps_cons (fun ν w' hG hd => ?_) ?_
            · simp only [deps_mk, deps_nil, deps_data, deps_chain, deps_guard, deps_phase, deps_text, deps_gc, depFacts_nil, depFacts_cons, factAt_zero, factAt_succ, and_true, isV_eq] at hd
              have hc := (gcell hG).1
              have hf := (gcell hG).2.1
              have hz := (gcell hG).2.2
              refine stepD_plain rfl rfl (fun R hR => ?_)
              unfold Oper.gives
              go_simp
              exact hR _ _ (isV_rfl _) (Grew.refl _)
            refine allSteps_cons (fun ν w' hG hd => ?_) ?_
            · simp only [deps_mk, deps_nil, deps_data, deps_chain, deps_guard, deps_phase, deps_text, deps_gc, depFacts_nil, depFacts_cons, factAt_zero, factAt_succ, and_true, isV_eq] at hd
              have hc := (gcell hG).1
              have hf := (gcell hG).2.1
              have hz := (gcell hG).2.2
              refine stepD_plain rfl (by simp [wantedD, go_sem, *]) (fun R hR => ?_)
              unfold Oper.gives
              go_simp
              exact hR _ _ (isV_rfl _) (Grew.refl _)
            refine allSteps_cons (fun ν w' hG hd => ?_) ?_
            · simp only [deps_mk, deps_nil, deps_data, deps_chain, deps_guard, deps_phase, deps_text, deps_gc, depFacts_nil, depFacts_cons, factAt_zero, factAt_succ, and_true, isV_eq] at hd
              have hc := (gcell hG).1
              have hf := (gcell hG).2.1
              have hz := (gcell hG).2.2
              refine stepD_plain rfl (by simp [wantedD, go_sem, *]) (fun R hR => ?_)
              unfold Oper.gives
              go_simp
              exact hR _ _ (isV_rfl _) (Grew.refl _)
            refine allSteps_cons (fun ν w' hG hd => ?_) ?_
            · simp only [deps_mk, deps_nil, deps_data, deps_chain, deps_guard, deps_phase, deps_text, deps_gc, depFacts_nil, depFacts_cons, factAt_zero, factAt_succ, and_true, isV_eq] at hd
              have hc := (gcell hG).1
              have hf := (gcell hG).2.1
              have hz := (gcell hG).2.2
              refine stepD_plain rfl (by simp [wantedD, go_sem, *]) (fun R hR => ?_)
              unfold Oper.gives
              go_simp
              exact hR _ _ (isV_rfl _) (Grew.refl _)
            refine allSteps_cons (fun ν w' hG hd => ?_) ?_
            · simp only [deps_mk, deps_nil, deps_data, deps_chain, deps_guard, deps_phase, deps_text, deps_gc, depFacts_nil, depFacts_cons, factAt_zero, factAt_succ, and_true, isV_eq] at hd
              have hc := (gcell hG).1
              have hf := (gcell hG).2.1
              have hz := (gcell hG).2.2
              refine stepD_plain rfl (by simp [wantedD, go_sem, *]) (fun R hR => ?_)
              unfold Oper.gives
              go_simp
              exact hR _ _ (isV_rfl _) (Grew.refl _)
            refine allSteps_cons (fun ν w' hG hd => ?_) ?_
            · simp only [deps_mk, deps_nil, deps_data, deps_chain, deps_guard, deps_phase, deps_text, deps_gc, depFacts_nil, depFacts_cons, factAt_zero, factAt_succ, and_true, isV_eq] at hd
              have hc := (gcell hG).1
              have hf := (gcell hG).2.1
              have hz := (gcell hG).2.2
              refine stepD_plain rfl (by simp [wantedD, go_sem, *]) (fun R hR => ?_)
              unfold Oper.gives
              go_simp
              exact hR _ _ (isV_rfl _) (Grew.refl _)
            refine allSteps_cons (fun ν w' hG hd => ?_) ?_
            · simp only [deps_mk, deps_nil, deps_data, deps_chain, deps_guard, deps_phase, deps_text, deps_gc, depFacts_nil, depFacts_cons, factAt_zero, factAt_succ, and_true, isV_eq] at hd
              have hc := (gcell hG).1
              have hf := (gcell hG).2.1
              have hz := (gcell hG).2.2
              refine stepD_plain rfl rfl (fun R hR => ?_)
              unfold Oper.gives
              go_simp
              exact hR _ _ (isV_rfl _) (Grew.refl _)
            refine allSteps_cons (fun ν w' hG hd => ?_) ?_
            · simp only [deps_mk, deps_nil, deps_data, deps_chain, deps_guard, deps_phase, deps_text, deps_gc, depFacts_nil, depFacts_cons, factAt_zero, factAt_succ, and_true, isV_eq] at hd
              have hc := (gcell hG).1
              have hf := (gcell hG).2.1
              have hz := (gcell hG).2.2
              refine stepD_plain rfl rfl (fun R hR => ?_)
              unfold Oper.gives
              go_simp
              exact hR _ _ (isV_rfl _) (Grew.refl _)
            refine allSteps_cons (fun ν w' hG hd => ?_) ?_
            · simp only [deps_mk, deps_nil, deps_data, deps_chain, deps_guard, deps_phase, deps_text, deps_gc, depFacts_nil, depFacts_cons, factAt_zero, factAt_succ, and_true, isV_eq] at hd
              exact stepD_skip rfl (by simp [wantedD, go_sem, undef, *]) (isV_rfl _)
            refine allSteps_cons (fun ν w' hG hd => ?_) ?_
            · simp only [deps_mk, deps_nil, deps_data, deps_chain, deps_guard, deps_phase, deps_text, deps_gc, depFacts_nil, depFacts_cons, factAt_zero, factAt_succ, and_true, isV_eq] at hd
              exact stepD_skip rfl (by simp [wantedD, go_sem, undef, *]) (isV_rfl _)
            refine allSteps_cons (fun ν w' hG hd => ?_) ?_
            · simp only [deps_mk, deps_nil, deps_data, deps_chain, deps_guard, deps_phase, deps_text, deps_gc, depFacts_nil, depFacts_cons, factAt_zero, factAt_succ, and_true, isV_eq] at hd
              exact stepD_skip rfl (by simp [wantedD, go_sem, undef, *]) (isV_rfl _)
            refine allSteps_cons (fun ν w' hG hd => ?_) ?_
            · simp only [deps_mk, deps_nil, deps_data, deps_chain, deps_guard, deps_phase, deps_text, deps_gc, depFacts_nil, depFacts_cons, factAt_zero, factAt_succ, and_true, isV_eq] at hd
              exact stepD_skip rfl (by simp [wantedD, go_sem, undef, *]) (isV_rfl _)
            refine allSteps_cons (fun ν w' hG hd => ?_) ?_
            · simp only [deps_mk, deps_nil, deps_data, deps_chain, deps_guard, deps_phase, deps_text, deps_gc, depFacts_nil, depFacts_cons, factAt_zero, factAt_succ, and_true, isV_eq] at hd
              exact stepD_skip rfl (by simp [wantedD, go_sem, undef, *]) (isV_rfl _)
            refine allSteps_cons (fun ν w' hG hd => ?_) ?_
            · simp only [deps_mk, deps_nil, deps_data, deps_chain, deps_guard, deps_phase, deps_text, deps_gc, depFacts_nil, depFacts_cons, factAt_zero, factAt_succ, and_true, isV_eq] at hd
              exact stepD_skip rfl (by simp [wantedD, go_sem, undef, *]) (isV_rfl _)
            refine allSteps_cons (fun ν w' hG hd => ?_) ?_
            · simp only [deps_mk, deps_nil, deps_data, deps_chain, deps_guard, deps_phase, deps_text, deps_gc, depFacts_nil, depFacts_cons, factAt_zero, factAt_succ, and_true, isV_eq] at hd
              exact stepD_skip rfl (by simp [wantedD, go_sem, undef, *]) (isV_rfl _)
            refine allSteps_cons (fun ν w' hG hd => ?_) ?_
            · simp only [deps_mk, deps_nil, deps_data, deps_chain, deps_guard, deps_phase, deps_text, deps_gc, depFacts_nil, depFacts_cons, factAt_zero, factAt_succ, and_true, isV_eq] at hd
              exact stepD_skip rfl (by simp [wantedD, go_sem, undef, *]) (isV_rfl _)
            refine allSteps_cons (fun ν w' hG hd => ?_) ?_
            · simp only [deps_mk, deps_nil, deps_data, deps_chain, deps_guard, deps_phase, deps_text, deps_gc, depFacts_nil, depFacts_cons, factAt_zero, factAt_succ, and_true, isV_eq] at hd
              exact stepD_skip rfl (by simp [wantedD, go_sem, undef, *]) (isV_rfl _)
            refine allSteps_cons (fun ν w' hG hd => ?_) ?_
            · simp only [deps_mk, deps_nil, deps_data, deps_chain, deps_guard, deps_phase, deps_text, deps_gc, depFacts_nil, depFacts_cons, factAt_zero, factAt_succ, and_true, isV_eq] at hd
              exact stepD_skip rfl (by simp [wantedD, go_sem, undef, *]) (isV_rfl _)
            refine allSteps_cons (fun ν w' hG hd => ?_) ?_
            · simp only [deps_mk, deps_nil, deps_data, deps_chain, deps_guard, deps_phase, deps_text, deps_gc, depFacts_nil, depFacts_cons, factAt_zero, factAt_succ, and_true, isV_eq] at hd
              exact stepD_skip rfl (by simp [wantedD, go_sem, undef, *]) (isV_rfl _)
            refine allSteps_cons (fun ν w' hG hd => ?_) ?_
            · simp only [deps_mk, deps_nil, deps_data, deps_chain, deps_guard, deps_phase, deps_text, deps_gc, depFacts_nil, depFacts_cons, factAt_zero, factAt_succ, and_true, isV_eq] at hd
              exact stepD_skip rfl (by simp [wantedD, go_sem, undef, *]) (isV_rfl _)
            refine allSteps_cons (fun ν w' hG hd => ?_) ?_
            · simp only [deps_mk, deps_nil, deps_data, deps_chain, deps_guard, deps_phase, deps_text, deps_gc, depFacts_nil, depFacts_cons, factAt_zero, factAt_succ, and_true, isV_eq] at hd
              exact stepD_skip rfl (by simp [wantedD, go_sem, undef, *]) (isV_rfl _)
            refine allSteps_cons (fun ν w' hG hd => ?_) ?_
            · simp only [deps_mk, deps_nil, deps_data, deps_chain, deps_guard, deps_phase, deps_text, deps_gc, depFacts_nil, depFacts_cons, factAt_zero, factAt_succ, and_true, isV_eq] at hd
              exact stepD_skip rfl (by simp [wantedD, go_sem, undef, *]) (isV_rfl _)
            refine allSteps_cons (fun ν w' hG hd => ?_) (allSteps_nil _)
            · simp only [deps_mk, deps_nil, deps_data, deps_chain, deps_guard, deps_phase, deps_text, deps_gc, depFacts_nil, depFacts_cons, factAt_zero, factAt_succ, and_true, isV_eq] at hd
              have hc := (gcell hG).1
              have hf := (gcell hG).2.1
              have hz := (gcell hG).2.2
              refine stepD_plain rfl rfl (fun R hR => ?_)
              unfold Oper.gives
              go_simp
              exact hR _ _ (isV_rfl _) (Grew.refl _)
          case hQ =>
            intro ν w' hG hd
            simp only [List.take_succ_cons, List.take_zero, List.map_cons, List.map_nil, List.drop_succ_cons, List.drop_zero, List.range, List.range.loop, depFacts_nil, depFacts_cons, factAt_zero, factAt_succ, and_true, isV_eq] at hd ⊢
            simp only [frameD_cons, frameD_nil, List.getD_cons_zero, List.getD_cons_succ, Act.put, hd, List.setIfInBounds_toArray, List.set_cons_zero, List.set_cons_succ]
            clear hd
            have hc := (gcell hG).1
            have hf := (gcell hG).2.1
            have hz := (gcell hG).2.2
            go_wp2
            go_ret
            exact ret_of (isB_of Hr.out.symm) (by repeat (first | exact Grew.refl _ | assumption | refine Grew.drewN ?_ _ | refine Grew.drew ?_ | refine Grew.alloc ?_ _ | refine Grew.setCell ?_ (by simp; try omega) _ | refine Grew.trans ?_ (by assumption)))
    · have hkn : k = n := by omega
      subst hkn
      have hlt' : decide ((k : Int) < (k : Int)) = false := by simp
      go_wp2
      go_ret
      exact ret_of (isB_of Hrt.out.symm) (by repeat (first | exact Grew.refl _ | assumption | refine Grew.drewN ?_ _ | refine Grew.drew ?_ | refine Grew.alloc ?_ _ | refine Grew.setCell ?_ (by simp; try omega) _ | refine Grew.trans ?_ (by assumption)))
end Go.Proofs.Ytfcholpgebcooaa
