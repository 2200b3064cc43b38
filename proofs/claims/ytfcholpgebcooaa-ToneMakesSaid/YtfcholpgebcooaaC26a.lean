/- The colours, the tape and their references: what each call gives. -/
import Derived.Test.YtfcholpgebcooaaProg
import Derived.Test.YtfcholpgebcooaaCon
namespace Go.Proofs.Ytfcholpgebcooaa
open Go.RowKit
set_option linter.unusedSimpArgs false
set_option linter.unusedVariables false

set_option maxHeartbeats 400000 in
theorem c67 (a : Nat) (w : World) : Calls Try.prog 67 #[.float .f64 a] w (RetQ (isB (isFin (fcls a))) w) := by
  have hx := number_fin (fcls_ok a)
  rw [← max_facts.1, ← max_facts.2.1] at hx
  have Hx := Lib.hid hx
  clear hx
  go_enter Try.func67, Try.ntmps67
  go_wp2
  all_goals
    go_ret
    refine retq_of (isB_of ?_)
    rw [← Hx.out]
    simp [*]
set_option maxHeartbeats 400000 in
theorem c68 (a : Nat) (w : World) : Calls Try.prog 68 #[.float .f64 a] w (RetQ (isB (isFin (fcls a))) w) := by
  have hx := sub_self_fin (fcls a) (fcls_ok a)
  rw [← max_facts.2.2] at hx
  have Hx := Lib.hid hx
  clear hx
  go_enter Try.func68, Try.ntmps68
  go_wp2_with (refine wpList_fop rfl rfl rfl rfl rfl ?_; intro r n hr)
  go_ret
  exact retq_drewN (isB_of Hx.out)
set_option maxHeartbeats 400000 in
theorem c61 (a b : Nat) (w : World) : Calls Try.prog 61 #[.float .f64 a, .float .f64 b] w (RetQ (isB (fsame (fcls a) (fcls b))) w) := by
  go_enter Try.func61, Try.ntmps61
  go_wp2
  all_goals
    go_ret
    exact retq_of (isB_of (by simp [fsame, *]))
set_option maxHeartbeats 400000 in
theorem c102 (a b : Nat) (w : World) : Calls Try.prog 102 #[.float .f64 a, .float .f64 b] w (RetQ (isF (fhi (fcls a) (fcls b))) w) := by
  go_enter Try.func102, Try.ntmps102
  go_wp2
  all_goals
    go_ret
    exact retq_of (isF_of (by simp [fhi, *]))
set_option maxHeartbeats 400000 in
theorem c92 (a : Nat) (w : World) : Calls Try.prog 92 #[.float .f64 a] w (RetQ (isF (clean (fcls a))) w) := by
  go_enter Try.func92, Try.ntmps92
  go_wp2
  all_goals
    go_ret
    exact retq_of (isF_of (by simp [clean, *]))
set_option maxHeartbeats 400000 in
theorem c58 (a : Nat) (w : World) : Calls Try.prog 58 #[.float .f64 a] w (RetQ (isF (clean (fcls a))) w) := by
  have Hx := Lib.hid (clean_other (fcls a) (fcls_ok a))
  go_enter Try.func58, Try.ntmps58
  go_wp2
  all_goals
    go_ret
    exact retq_of (isF_of (by rw [← Hx.out]; simp [*]))
set_option maxHeartbeats 400000 in
theorem c101 (a : Nat) (w : World) : Calls Try.prog 101 #[.float .f64 a] w (RetQ (isB (fle fzero (fcls a) && isFin (fcls a))) w) := by
  go_enter Try.func101, Try.ntmps101
  go_wp2_with (go_at_call 67; refine (c67 _ _).mono ?_; rintro e w1 ⟨_, n, rfl, rfl, rfl⟩)
  all_goals
    go_ret
    first | exact retq_of (isB_of (by simp [*])) | exact retq_drewN (isB_of (by simp [*]))
set_option maxHeartbeats 400000 in
theorem c86 (r g b : Nat) (w : World) : Calls Try.prog 86 #[.agg #[.float .f64 r, .float .f64 g, .float .f64 b]] w (Ret (isB (rGood ⟨fcls r, fcls g, fcls b⟩)) w) := by
  go_enter Try.func86, Try.ntmps86
  go_wp2_with (go_at_call 101; refine (c101 _ _).mono ?_; rintro e w1 ⟨_, n, rfl, rfl, rfl⟩)
  all_goals
    go_ret
    exact ret_of (isB_of (by grind [rGood])) (by first | exact ((Grew.refl _).alloc _).drewN _)
set_option maxHeartbeats 400000 in
theorem c52 (r g b : Nat) (w : World) : Calls Try.prog 52 #[.agg #[.float .f64 r, .float .f64 g, .float .f64 b]] w (Ret (isB (rGood ⟨fcls r, fcls g, fcls b⟩)) w) := by
  go_enter Try.func52, Try.ntmps52
  go_wp2_with (go_at_call 68; refine (c68 _ _).mono ?_; rintro e w1 ⟨_, n, rfl, rfl, rfl⟩)
  all_goals
    go_ret
    exact ret_of (isB_of (by grind [rGood])) (by first | exact ((Grew.refl _).alloc _).drewN _)

end Go.Proofs.Ytfcholpgebcooaa
