/- A curve of any ends. -/
import Derived.Test.YtfcholpgebcooaaT43e
namespace Go.Proofs.Ytfcholpgebcooaa
open Go.RowKit
set_option linter.unusedSimpArgs false
set_option linter.unusedVariables false

set_option maxHeartbeats 400000 in
theorem c19_size (a : Option Addr) (n cap : Nat) (hne : n ≠ 255) (w : World) : Calls Try.prog 19 #[.slice a n cap] w (RetQ (isV (.tuple #[.pointer none, .int .i64 14])) w) := by
  go_enter Try.func19, Try.ntmps19
  have hd : decide ((n : Int) = 255) = false := by simp; omega
  go_wp2
  go_ret2
  exact retq_of (isV_rfl _)
def NewRes (zs : List Nat) (v : Value) (w' : World) : Prop := (rightTo zs 255 = false ∧ v = .tuple #[.pointer none, .int .i64 2]) ∨ (rightTo zs 255 = true ∧ ∃ p g cap, v = .tuple #[.pointer (some ⟨p, 0, none⟩), .int .i64 0] ∧ CurveAt w' p g 0 cap zs)
theorem newRes_bad {zs : List Nat} {w w' : World} (h : rightTo zs 255 = false) (hg : Grew w w') : RetW (NewRes zs) w (.returned (.tuple #[.pointer none, .int .i64 2])) w' := ⟨_, rfl, .inl ⟨h, rfl⟩, hg⟩
set_option maxHeartbeats 1000000 in
theorem c19_good (b off cap : Nat) (zs : List Nat) (w : World) (hlen : zs.length = 255) (hfl : FloatsAt w b off zs) : Calls Try.prog 19 #[.slice (some ⟨b, off, none⟩) (255 : Nat) cap] w (RetW (NewRes zs) w) := by
  obtain ⟨i0, hi, hz0, hz1, hz2⟩ := info_parts info22
  have Hf := Lib.hid hfl
  clear hfl
  go_enter Try.func19, Try.ntmps19
  go_wp2
  obtain ⟨n, hn⟩ : ∃ n : Nat, n = 255 := ⟨_, rfl⟩
  rw [show (255 : Int) = (n : Int) by omega, show (255 : Nat) = n from hn.symm]
  have Hn := Lib.hid (hn.trans hlen.symm)
  have HN := Lib.hid hn
  have hnb : n ≤ 1000 := by omega
  clear hn hlen
  go_loopw [11] (fun i wr => ∃ k m : Nat, k ≤ n ∧ i = .int .i64 k ∧ rightTo zs k = true ∧ wr = w.drewN m) (fun i _ => n - (intOf i).toNat)
  case atStart => exact ⟨0, 0, Nat.zero_le _, rfl, rfl, rfl⟩
  case round =>
    obtain ⟨k, m, hk, rfl, hrt, rfl⟩ := hrel
    have Hrt := Lib.hid hrt
    clear hrt
    by_cases hlt : k < n
    · obtain ⟨z, hz, kz⟩ := Hf.out.get k (by rw [← Hn.out]; exact hlt)
      have hlt' : decide ((k : Int) < (n : Int)) = true := by simp; omega
      have hlt2 : (k : Int) < (n : Int) := by omega
      have h02 : (0 : Int) ≤ (k : Int) := by omega
      have Hok := Lib.hid (okAt_prog (zs := zs) (k := k))
      have hno : okAt zs k = false → rightTo zs 255 = false := fun h => rightTo_false (HN.out ▸ hlt) h
      have Hno := Lib.hid hno
      clear hno
      cases hfi : flt fzero (at_ zs k)
      · have Hr := Lib.hid (Hno.out (by have := Hok.out; rw [hfi] at this; simpa using this))
        go_wp2_with (go_at_call 67; refine (c67 _ _).mono ?_; rintro e w1 ⟨_, n', rfl, rfl, rfl⟩)
        go_ret2
        exact newRes_bad Hr.out ((by repeat (first | exact Grew.refl _ | assumption | refine Grew.drewN ?_ _ | refine Grew.drew ?_ | refine Grew.alloc ?_ _ | refine Grew.setCell ?_ (by simp; try omega) _ | refine Grew.trans ?_ (by assumption))))
      · cases hle : isFin (at_ zs k)
        · have Hr := Lib.hid (Hno.out (by have := Hok.out; rw [hfi, hle] at this; simpa using this))
          go_wp2_with (go_at_call 67; refine (c67 _ _).mono ?_; rintro e w1 ⟨_, n', rfl, rfl, rfl⟩)
          go_ret2
          exact newRes_bad Hr.out ((by repeat (first | exact Grew.refl _ | assumption | refine Grew.drewN ?_ _ | refine Grew.drew ?_ | refine Grew.alloc ?_ _ | refine Grew.setCell ?_ (by simp; try omega) _ | refine Grew.trans ?_ (by assumption))))
        · by_cases h0 : k = 0
          · subst h0
            have hz0' : w.cell? ⟨b, off, none⟩ = some (.float .f64 z) := hz
            have Hr := Lib.hid (show rightTo zs (0 + 1) = true by have := Hok.out; rw [hfi, hle] at this; simp at this; simp only [rightTo, this]; rfl)
            go_wp2_with (go_at_call 67; refine (c67 _ _).mono ?_; rintro e w1 ⟨_, n', rfl, rfl, rfl⟩)
            go_roundw
            case rel => exact ⟨0 + 1, _, by omega, (by first | rfl | go_num), Hr.out, rfl⟩
            case measure => simp [intOf] <;> omega
          · obtain ⟨j, hjk⟩ : ∃ j, k - 1 = j := ⟨k - 1, rfl⟩
            obtain ⟨y, hy, ky⟩ := Hf.out.get j (by rw [← Hn.out]; omega)
            have hpos : decide ((0 : Int) < (k : Int)) = true := by simp; omega
            have hj : ((k : Int)) - 1 = (j : Int) := by omega
            have hj2 : (j : Int) < (n : Int) := by omega
            have hj3 : (0 : Int) ≤ (j : Int) := by omega
            have hjw : IntKind.i64.wrap (j : Int) = j := IntWalk.i64_in _ (by omega)
            have hpos' : decide (0 < k) = true := by simp; omega
            have Hjk := Lib.hid hjk
            clear hjk
            cases hlp : fle (at_ zs k) (at_ zs j)
            · have Hr := Lib.hid (show rightTo zs (k + 1) = true by have := Hok.out; rw [Hjk.out, hfi, hle, hlp] at this; rw [hpos'] at this; simp at this; rw [rightTo, Hrt.out, this]; rfl)
              go_wp2_with (go_at_call 67; refine (c67 _ _).mono ?_; rintro e w1 ⟨_, n', rfl, rfl, rfl⟩)
              go_roundw
              case rel => exact ⟨k + 1, _, by omega, (by first | rfl | go_num), Hr.out, rfl⟩
              case measure => simp [intOf] <;> omega
            · have Hr := Lib.hid (Hno.out (by have := Hok.out; rw [Hjk.out, hfi, hle, hlp, hpos'] at this; simpa using this))
              go_wp2_with (go_at_call 67; refine (c67 _ _).mono ?_; rintro e w1 ⟨_, n', rfl, rfl, rfl⟩)
              go_ret2
              exact newRes_bad Hr.out ((by repeat (first | exact Grew.refl _ | assumption | refine Grew.drewN ?_ _ | refine Grew.drew ?_ | refine Grew.alloc ?_ _ | refine Grew.setCell ?_ (by simp; try omega) _ | refine Grew.trans ?_ (by assumption))))
    · have hkn : k = n := by omega
      subst hkn
      have hlt' : decide ((k : Int) < (k : Int)) = false := by simp
      have hnews : ∀ wx : World, Grew w wx → ∀ j u, (zs.map (Value.float .f64))[j]? = some u → wx.cell? ((⟨b, off, none⟩ : Addr).add j) = some u := by
        intro wx hg j u hu
        rw [List.getElem?_map] at hu
        rcases hzj : zs[j]? with _ | y
        · rw [hzj] at hu; simp at hu
        · rw [hzj] at hu
          simp only [Option.map_some, Option.some.injEq] at hu
          have := Hf.out j (List.getElem?_eq_some_iff.1 hzj).1
          rw [List.getD_eq_getElem?_getD, hzj, Option.getD_some, hu] at this
          have he : (⟨b, off, none⟩ : Addr).add j = ⟨b, off + j, none⟩ := by unfold Addr.add; split <;> simp_all
          rw [he]
          exact hg.cell this
      have Hnews := Lib.hid hnews
      clear hnews
      go_wp2_with (at_builtin; go_must (refine wpList_append_own _ rfl _ _ _ rfl w.heap.size 22 i0 (.float .f64 0) 1 8 Try.underlying33 hi hz0 hz1 hz2 rfl (by decide) (.slice none 0 0) 0 [] rfl (World.ownsRow_nil _ _ _ _) ⟨b, off, none⟩ k cap (zs.map (Value.float .f64)) rfl ?hl ?hnews ?h1 ?h63 ?hbytes ?hbase ?_); (rw [List.length_map, Nat.mul_one]; exact Hn.out.symm); exact Hnews.out _ ((by repeat (first | exact Grew.refl _ | assumption | refine Grew.drewN ?_ _ | refine Grew.drew ?_ | refine Grew.alloc ?_ _ | refine Grew.setCell ?_ (by simp; try omega) _ | refine Grew.trans ?_ (by assumption)))); (simp [Value.oneCell']); (unfold maxLen; omega); omega; (simp); intro v' w' hown' hgrow hnil; rcases OwnF.form (xs := zs) (by unfold OwnF; simpa [← Hn.out] using hown') with ⟨e1, e2⟩ | ⟨g, cap', rfl, hBg, hgw, hg4, hg5, hfl'⟩; (exfalso; have hq := Hn.out; rw [e2, HN.out] at hq; simp at hq))
      go_ret2
      have hGx : Grew w w' := Grew.grown (show Grew w (w.drewN m) from (by repeat (first | exact Grew.refl _ | assumption | refine Grew.drewN ?_ _ | refine Grew.drew ?_ | refine Grew.alloc ?_ _ | refine Grew.setCell ?_ (by simp; try omega) _ | refine Grew.trans ?_ (by assumption)))) hgrow (fun k hk => by cases hk)
      exact ⟨_, rfl, .inr ⟨by rw [← HN.out]; exact Hrt.out, w'.heap.size, g, cap', rfl, by go_simp, hfl'.grew (Grew.alloc (Grew.refl _) _)⟩, Grew.alloc hGx _⟩
end Go.Proofs.Ytfcholpgebcooaa
