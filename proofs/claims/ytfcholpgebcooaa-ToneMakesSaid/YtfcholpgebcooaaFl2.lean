/- min and max of floats, for the walk. -/
import Derived.Test.YtfcholpgebcooaaFlOrd
namespace Go
set_option linter.unusedSimpArgs false
set_option linter.unusedVariables false
/-- The greater of two, as Go's 'max' has it: of a NaN a NaN, of two zeros the positive one. -/
def fmaxv (x y : FV) : FV := x.bind fun a => y.bind fun b =>
  match FD.order a b with
  | none => none
  | some .lt => some b
  | some .gt => some a
  | some .eq => some (if (FD.read a).neg then b else a)
def fminv (x y : FV) : FV := x.bind fun a => y.bind fun b =>
  match FD.order a b with
  | none => none
  | some .lt => some a
  | some .gt => some b
  | some .eq => some (if (FD.read a).neg then a else b)
def fmm (mx : Bool) : FV → FV → FV := if mx then fmaxv else fminv
def mmB (mx : Bool) : Builtin := if mx then .max else .min

theorem order_none_iff {a b : Nat} (h : FD.order a b = none) : fcls a = none ∨ fcls b = none := by
  cases ha : (FD.read a).isNaN
  · cases hb : (FD.read b).isNaN
    · rw [order_fkey ha hb] at h; cases h
    · right; simp [fcls, hb]
  · left; simp [fcls, ha]
theorem run_fmm {P : Program} (w : World) (mx : Bool) (a b : Nat) :
    ∃ r n, ((if mx then Builtin.max2 else Builtin.min2) (.float .f64 a) (.float .f64 b)).run P w = .ok (.float .f64 r) (w.drewN n) ∧ fcls r = fmm mx (fcls a) (fcls b) := by
  have hf : (FloatKind.format .f64) = FD := rfl
  cases h : FD.order a b with
  | none =>
    refine ⟨(Question.nanMinMax .f64 mx a b).cut (w.tape w.drawn (.nanMinMax .f64 mx a b)), 1, ?_, ?_⟩
    · cases mx <;> simp [Builtin.max2, Builtin.min2, hf, h, choose, Sem.run, Question.forced, World.drewN]
    · rw [cut_nan (.inr ⟨_, _, _, rfl⟩)]
      rcases order_none_iff h with h | h <;> rw [h] <;> cases mx <;> simp [fmm, fmaxv, fminv]
  | some o =>
    have hna : ∃ a', fcls a = some a' := by
      cases hh : fcls a with
      | some a' => exact ⟨a', rfl⟩
      | none => rw [order_cls, hh] at h; cases h
    have hnb : ∃ b', fcls b = some b' := by
      cases hh : fcls b with
      | some b' => exact ⟨b', rfl⟩
      | none => rw [order_cls, hh, ford_none_right] at h; cases h
    obtain ⟨a', ha⟩ := hna
    obtain ⟨b', hb⟩ := hnb
    have ha2 : a' = a % W64 := by
      unfold fcls at ha; split at ha
      · cases ha
      · exact (Option.some.inj ha).symm
    have hb2 : b' = b % W64 := by
      unfold fcls at hb; split at hb
      · cases hb
      · exact (Option.some.inj hb).symm
    have ho : FD.order a' b' = some o := by rw [ha2, hb2, order_mod]; exact h
    have hr : FD.read a' = FD.read a := by rw [ha2, read_mod]
    have hd : (FloatKind.decode .f64 a) = FD.read a := rfl
    cases o
    · cases mx
      · exact ⟨a, 0, by simp [Builtin.min2, hf, h, World.drewN], by simp [fmm, fminv, ha, hb, ho]⟩
      · exact ⟨b, 0, by simp [Builtin.max2, hf, h, World.drewN], by simp [fmm, fmaxv, ha, hb, ho]⟩
    · cases hn : (FD.read a).neg
      · cases mx
        · exact ⟨b, 0, by simp [Builtin.min2, hf, h, World.drewN, hd, hn], by simp [fmm, fminv, ha, hb, ho, hr, hn]⟩
        · exact ⟨a, 0, by simp [Builtin.max2, hf, h, World.drewN, hd, hn], by simp [fmm, fmaxv, ha, hb, ho, hr, hn]⟩
      · cases mx
        · exact ⟨a, 0, by simp [Builtin.min2, hf, h, World.drewN, hd, hn], by simp [fmm, fminv, ha, hb, ho, hr, hn]⟩
        · exact ⟨b, 0, by simp [Builtin.max2, hf, h, World.drewN, hd, hn], by simp [fmm, fmaxv, ha, hb, ho, hr, hn]⟩
    · cases mx
      · exact ⟨b, 0, by simp [Builtin.min2, hf, h, World.drewN], by simp [fmm, fminv, ha, hb, ho]⟩
      · exact ⟨a, 0, by simp [Builtin.max2, hf, h, World.drewN], by simp [fmm, fmaxv, ha, hb, ho]⟩

theorem run_fmm_op {P : Program} (w : World) (mx : Bool) (o : Oper) (ρ : Operand → Value) (x y : Operand) (ts : Array TypeId) (a b : Nat)
    (hop : o.op = .call { callee := .builtin (mmB mx), args := #[x, y], argTypes := ts }) (hx : ρ x = .float .f64 a) (hy : ρ y = .float .f64 b) :
    ∃ r n, (execOp ρ o).run P w = .ok (.value (.float .f64 r)) (w.drewN n) ∧ fcls r = fmm mx (fcls a) (fcls b) := by
  obtain ⟨r, n, hr, hc⟩ := run_fmm (P := P) w mx a b
  refine ⟨r, n, ?_, hc⟩
  have hrs : resolve ρ { callee := .builtin (mmB mx), args := #[x, y], argTypes := ts } o.type = pure { target := .builtin (mmB mx) ts o.type (#[x, y].map fun | .const _ => true | _ => false), args := #[.float .f64 a, .float .f64 b] } := by
    simp [resolve, hx, hy]
    rfl
  unfold execOp
  simp only [hop, hrs]
  cases mx <;> simp [mmB, invoke, builtin, Builtin.max_, Builtin.min_] at hr ⊢
  · simp [hr]
  · simp [hr]

theorem wpList_fmm {P : Program} {ops : Array Oper} {Q : Exit → Act → World → Prop} {rest : List Oper} {a : Act} {w : World} {o : Oper} (mx : Bool) {x y : Operand} {ts : Array TypeId} {bx by' : Nat}
    (hg : o.guard = none) (hop : o.op = .call { callee := .builtin (mmB mx), args := #[x, y], argTypes := ts }) (hx : a.eval x = .float .f64 bx) (hy : a.eval y = .float .f64 by')
    (h : ∀ r n, fcls r = fmm mx (fcls bx) (fcls by') → wpList P ops Q rest (a.put o.dst (.float .f64 r)) (w.drewN n)) : wpList P ops Q (o :: rest) a w := by
  refine wpList_plain hg fun K hK => ?_
  obtain ⟨r, n, hr, hc⟩ := run_fmm_op (P := P) w mx o a.eval x y ts bx by' hop hx hy
  unfold Oper.wp
  rw [hr]
  exact hK _ _ (h r n hc)
theorem fmm_true : fmm true = fmaxv := rfl
theorem fmm_false : fmm false = fminv := rfl

/-- max and min against a positive number. -/
theorem fmaxv_pos {x : FV} {c : Nat} (hx : FVok x) (nx : x ≠ none) (hc : FVok (some c)) (h0 : 0 < fkey c) : fmaxv x (some c) = if flt x (some c) then some c else x := by
  cases x with
  | none => exact absurd rfl nx
  | some a =>
    have ho := ford_some hx hc
    have hf := flt_iff hx hc
    simp only [fmaxv, Option.bind_some]
    simp only [ford, Option.bind_some] at ho
    rw [ho]
    rcases Int.lt_trichotomy (fkey a) (fkey c) with h | h | h
    · have := hf.2 h
      simp [icmp_lt.2 h, this]
    · have : flt (some a) (some c) = false := by rw [← Bool.not_eq_true, hf]; omega
      have e : a = c := fkey_inj (hx a rfl).1 (hc c rfl).1 h (by omega)
      subst e
      simp [this]
    · have : flt (some a) (some c) = false := by rw [← Bool.not_eq_true, hf]; omega
      simp [icmp_gt.2 h, this]
theorem fminv_pos {x : FV} {c : Nat} (hx : FVok x) (nx : x ≠ none) (hc : FVok (some c)) (h0 : 0 < fkey c) : fminv x (some c) = if flt (some c) x then some c else x := by
  cases x with
  | none => exact absurd rfl nx
  | some a =>
    have ho := ford_some hx hc
    have hf := flt_iff hc hx
    simp only [fminv, Option.bind_some]
    simp only [ford, Option.bind_some] at ho
    rw [ho]
    rcases Int.lt_trichotomy (fkey a) (fkey c) with h | h | h
    · have : flt (some c) (some a) = false := by rw [← Bool.not_eq_true, hf]; omega
      simp [icmp_lt.2 h, this]
    · have : flt (some c) (some a) = false := by rw [← Bool.not_eq_true, hf]; omega
      have e : a = c := fkey_inj (hx a rfl).1 (hc c rfl).1 h (by omega)
      subst e
      simp [this]
    · have := hf.2 h
      simp [icmp_gt.2 h, this]
end Go
