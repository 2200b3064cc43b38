/- The order of float64: each class has a whole number by which it stands; the laws of '<', '<=' and '==' that follow. No program here. -/
import Derived.Test.YtfcholpgebcooaaFl
namespace Go
set_option linter.unusedSimpArgs false
set_option linter.unusedVariables false

theorem icmp_lt {x y : Int} : compare x y = .lt ↔ x < y := by
  show compareOfLessAndEq x y = .lt ↔ x < y
  unfold compareOfLessAndEq
  split
  · simp [*]
  · split <;> simp [*]
theorem icmp_eq {x y : Int} : compare x y = .eq ↔ x = y := by
  show compareOfLessAndEq x y = .eq ↔ x = y
  unfold compareOfLessAndEq
  split
  · simp; omega
  · split <;> simp [*]
theorem icmp_gt {x y : Int} : compare x y = .gt ↔ y < x := by
  show compareOfLessAndEq x y = .gt ↔ y < x
  unfold compareOfLessAndEq
  split
  · simp; omega
  · split
    · simp; omega
    · simp; omega

/-- The magnitude of a rung, in units of the least. -/
def rungV (B r : Nat) : Nat := if r < B then r else (B + r % B) * 2 ^ (r / B - 1)

theorem rungV_succ {B : Nat} (hB : 0 < B) (r : Nat) : rungV B r < rungV B (r + 1) := by
  unfold rungV
  by_cases h : r < B
  · rw [if_pos h]
    by_cases h1 : r + 1 < B
    · rw [if_pos h1]; omega
    · have e : r + 1 = B := by omega
      rw [if_neg h1, e, Nat.mod_self, Nat.div_self hB]
      simp; omega
  · rw [if_neg h, if_neg (by omega)]
    have hq : 1 ≤ r / B := (Nat.le_div_iff_mul_le hB).2 (by omega)
    have hm : r % B < B := Nat.mod_lt _ hB
    have hr : B * (r / B) + r % B = r := Nat.div_add_mod r B
    by_cases h1 : r % B + 1 < B
    · have e1 : (r + 1) / B = r / B := by
        rw [← hr, Nat.add_assoc, Nat.mul_add_div hB, Nat.div_eq_of_lt h1, Nat.add_zero, Nat.mul_add_div hB, Nat.div_eq_of_lt hm, Nat.add_zero]
      have e2 : (r + 1) % B = r % B + 1 := by
        rw [← hr, Nat.add_assoc, Nat.mul_add_mod, Nat.mod_eq_of_lt h1, Nat.mul_add_mod, Nat.mod_mod]
      rw [e1, e2]
      exact Nat.mul_lt_mul_of_pos_right (by omega) (Nat.two_pow_pos _)
    · have e0 : r % B + 1 = B := by omega
      have e : r + 1 = B * (r / B + 1) := by rw [Nat.mul_add, Nat.mul_one]; omega
      rw [e, Nat.mul_mod_right, Nat.mul_div_cancel_left _ hB, Nat.add_zero, Nat.add_sub_cancel]
      obtain ⟨q, hq'⟩ : ∃ q, r / B = q + 1 := ⟨r / B - 1, by omega⟩
      rw [hq', Nat.add_sub_cancel, Nat.pow_succ, ← Nat.mul_assoc, Nat.mul_right_comm]
      exact Nat.mul_lt_mul_of_pos_right (by omega) (Nat.two_pow_pos _)
theorem rungV_lt {B : Nat} (hB : 0 < B) {r s : Nat} (h : r < s) : rungV B r < rungV B s := by
  induction s with
  | zero => omega
  | succ s ih =>
    rcases Nat.lt_or_ge r s with h' | h'
    · exact Nat.lt_trans (ih h') (rungV_succ hB s)
    · have : r = s := by omega
      subst this; exact rungV_succ hB r
theorem rungV_inj {B : Nat} (hB : 0 < B) {r s : Nat} (h : rungV B r = rungV B s) : r = s := by
  rcases Nat.lt_trichotomy r s with h' | h' | h'
  · have := rungV_lt hB h'; omega
  · exact h'
  · have := rungV_lt hB h'; omega
theorem rungV_zero {B : Nat} (hB : 0 < B) : rungV B 0 = 0 := by unfold rungV; rw [if_pos hB]
theorem rungV_pos {B : Nat} (hB : 0 < B) {r : Nat} (h : 0 < r) : 0 < rungV B r := by
  have := rungV_lt hB h
  rw [rungV_zero hB] at this
  exact this

/-- Where a word stands. -/
def fkey (c : Nat) : Int :=
  let v := rungV FD.binade (c % FD.signWeight)
  if c / FD.signWeight % 2 == 1 then -(v : Int) else v

theorem binade_pos : 0 < FD.binade := Nat.two_pow_pos _

theorem signed_mul (s : Bool) (m u k : Nat) : Ieee.signed s m (u + k) = Ieee.signed s m u * (2 ^ k : Nat) := by
  have h : m <<< (u + k) = m <<< u * 2 ^ k := by rw [Nat.shiftLeft_eq, Nat.shiftLeft_eq, Nat.pow_add, Nat.mul_assoc]
  unfold Ieee.signed
  rw [h]
  split
  · rw [Int.neg_mul, Int.natCast_mul]
  · rw [Int.natCast_mul]
theorem compare_mul (x y : Int) {k : Nat} (hk : 0 < k) : compare (x * (k : Int)) (y * (k : Int)) = compare x y := by
  have hk' : (0 : Int) < (k : Int) := by omega
  rcases Int.lt_trichotomy x y with h | h | h
  · rw [icmp_lt.2 h, icmp_lt.2 (Int.mul_lt_mul_of_pos_right h hk')]
  · subst h; rw [Std.compare_self, Std.compare_self]
  · rw [icmp_gt.2 h, icmp_gt.2 (Int.mul_lt_mul_of_pos_right h hk')]

/-- What a word's datum is, by its key. -/
inductive KeyOf (c : Nat) : Ieee.Datum → Prop
  | number (s : Bool) (m e : Nat) (hk : fkey c = Ieee.signed s m e) (hr : c % FD.signWeight < FD.infRung) (hs : s = (c / FD.signWeight % 2 == 1)) : KeyOf c (.number s m (FD.leastPlace + e))
  | infinity (s : Bool) (hr : c % FD.signWeight = FD.infRung) (hs : s = (c / FD.signWeight % 2 == 1)) : KeyOf c (.infinity s)

theorem keyOf_read {c : Nat} (h : (FD.read c).isNaN = false) : KeyOf c (FD.read c) := by
  unfold Ieee.Format.read at h ⊢
  dsimp only at h ⊢
  have hi : FD.binade ≤ FD.infRung := by obtain ⟨_, h2, h3⟩ := double_consts; omega
  split
  · rename_i hlt
    have := KeyOf.number (c := c) (c / FD.signWeight % 2 == 1) (c % FD.signWeight) 0 (by
      unfold fkey Ieee.signed rungV
      simp only [hlt, if_true, Nat.shiftLeft_zero]) (by omega) rfl
    simpa using this
  · rename_i hge
    split
    · rename_i hlt
      refine KeyOf.number (c := c) _ _ _ ?_ hlt rfl
      unfold fkey Ieee.signed rungV
      simp only [hge, if_false, Nat.shiftLeft_eq]
    · split
      · rename_i he; exact .infinity _ he rfl
      · simp_all [Ieee.Datum.isNaN]

theorem fkey_abs_lt {c : Nat} (hr : c % FD.signWeight < FD.infRung) : -(rungV FD.binade FD.infRung : Int) < fkey c ∧ fkey c < rungV FD.binade FD.infRung := by
  have := rungV_lt binade_pos hr
  unfold fkey
  dsimp only
  split <;> omega
theorem fkey_inf {c : Nat} {s : Bool} (hr : c % FD.signWeight = FD.infRung) (hs : s = (c / FD.signWeight % 2 == 1)) : fkey c = if s then -(rungV FD.binade FD.infRung : Int) else rungV FD.binade FD.infRung := by
  unfold fkey
  rw [hr, hs]

theorem order_fkey {a b : Nat} (ha : (FD.read a).isNaN = false) (hb : (FD.read b).isNaN = false) : FD.order a b = some (compare (fkey a) (fkey b)) := by
  have hpos : 0 < rungV FD.binade FD.infRung := rungV_pos binade_pos (by obtain ⟨_, h2, h3⟩ := double_consts; omega)
  unfold Ieee.Format.order
  generalize hA : FD.read a = A
  generalize hB : FD.read b = B
  have ka := keyOf_read ha
  have kb := keyOf_read hb
  rw [hA] at ka
  rw [hB] at kb
  cases ka with
  | number s m e hk hr hs =>
    cases kb with
    | number t n f hk' hr' hs' =>
      simp only [Ieee.Datum.order, Option.some.injEq]
      rw [hk, hk']
      have h1 : (FD.leastPlace + (e : Int) - min (FD.leastPlace + e) (FD.leastPlace + f)).toNat = e - min e f := by omega
      have h2 : (FD.leastPlace + (f : Int) - min (FD.leastPlace + e) (FD.leastPlace + f)).toNat = f - min e f := by omega
      rw [h1, h2]
      have e1 : e = (e - min e f) + min e f := by omega
      have e2 : f = (f - min e f) + min e f := by omega
      have r1 := signed_mul s m (e - min e f) (min e f)
      have r2 := signed_mul t n (f - min e f) (min e f)
      rw [← e1] at r1
      rw [← e2] at r2
      rw [r1, r2, compare_mul _ _ (Nat.two_pow_pos _)]
    | infinity t hr' hs' =>
      simp only [Ieee.Datum.order, Option.some.injEq]
      have := fkey_abs_lt hr
      rw [fkey_inf hr' hs']
      cases t
      · exact (icmp_lt.2 (by simpa using this.2)).symm
      · exact (icmp_gt.2 (by simpa using this.1)).symm
  | infinity s hr hs =>
    cases kb with
    | number t n f hk' hr' hs' =>
      simp only [Ieee.Datum.order, Option.some.injEq]
      have := fkey_abs_lt hr'
      rw [fkey_inf hr hs]
      cases s
      · exact (icmp_gt.2 (by simpa using this.2)).symm
      · exact (icmp_lt.2 (by simpa using this.1)).symm
    | infinity t hr' hs' =>
      simp only [Ieee.Datum.order, Option.some.injEq]
      rw [fkey_inf hr hs, fkey_inf hr' hs']
      cases s <;> cases t <;> simp
      · exact (icmp_gt.2 (by omega)).symm
      · exact (icmp_lt.2 (by omega)).symm

/-- A class that a word has. -/
def FVok (x : FV) : Prop := ∀ c, x = some c → c < W64 ∧ (FD.read c).isNaN = false
theorem fcls_ok (b : Nat) : FVok (fcls b) := by
  intro c h
  unfold fcls at h
  split at h
  · cases h
  · rename_i hn
    cases h
    exact ⟨Nat.mod_lt _ (by decide), by rw [read_mod]; simpa using hn⟩
theorem FVok_none : FVok none := fun c h => by cases h

theorem ford_some {a b : Nat} (ha : FVok (some a)) (hb : FVok (some b)) : ford (some a) (some b) = some (compare (fkey a) (fkey b)) :=
  order_fkey (ha a rfl).2 (hb b rfl).2
theorem ford_none_left (y : FV) : ford none y = none := rfl
theorem ford_none_right (x : FV) : ford x none = none := by cases x <;> rfl

theorem flt_iff {a b : Nat} (ha : FVok (some a)) (hb : FVok (some b)) : flt (some a) (some b) = true ↔ fkey a < fkey b := by
  unfold flt
  rw [ford_some ha hb, ← icmp_lt (x := fkey a)]
  cases compare (fkey a) (fkey b) <;> simp
theorem feq_iff {a b : Nat} (ha : FVok (some a)) (hb : FVok (some b)) : feq (some a) (some b) = true ↔ fkey a = fkey b := by
  unfold feq
  rw [ford_some ha hb, ← icmp_eq (x := fkey a)]
  cases compare (fkey a) (fkey b) <;> simp
theorem fle_iff {a b : Nat} (ha : FVok (some a)) (hb : FVok (some b)) : fle (some a) (some b) = true ↔ fkey a ≤ fkey b := by
  rw [fle_def, Bool.or_eq_true, flt_iff ha hb, feq_iff ha hb]; omega
theorem flt_none_left (y : FV) : flt none y = false := rfl
theorem flt_none_right (x : FV) : flt x none = false := by cases x <;> rfl
theorem feq_none_left (y : FV) : feq none y = false := rfl
theorem feq_none_right (x : FV) : feq x none = false := by cases x <;> rfl
theorem fle_none_left (y : FV) : fle none y = false := rfl
theorem fle_none_right (x : FV) : fle x none = false := by cases x <;> rfl

theorem flt_trans {x y z : FV} (hx : FVok x) (hy : FVok y) (hz : FVok z) (h : flt x y = true) (h' : flt y z = true) : flt x z = true := by
  cases x with
  | none => rw [flt_none_left] at h; cases h
  | some a =>
    cases y with
    | none => rw [flt_none_right] at h; cases h
    | some b =>
      cases z with
      | none => rw [flt_none_right] at h'; cases h'
      | some c =>
        rw [flt_iff hx hy] at h; rw [flt_iff hy hz] at h'; rw [flt_iff hx hz]; omega
theorem flt_le_trans {x y z : FV} (hx : FVok x) (hy : FVok y) (hz : FVok z) (h : flt x y = true) (h' : fle y z = true) : flt x z = true := by
  cases x with
  | none => rw [flt_none_left] at h; cases h
  | some a =>
    cases y with
    | none => rw [flt_none_right] at h; cases h
    | some b =>
      cases z with
      | none => rw [fle_none_right] at h'; cases h'
      | some c =>
        rw [flt_iff hx hy] at h; rw [fle_iff hy hz] at h'; rw [flt_iff hx hz]; omega
theorem fle_lt_trans {x y z : FV} (hx : FVok x) (hy : FVok y) (hz : FVok z) (h : fle x y = true) (h' : flt y z = true) : flt x z = true := by
  cases x with
  | none => rw [fle_none_left] at h; cases h
  | some a =>
    cases y with
    | none => rw [fle_none_right] at h; cases h
    | some b =>
      cases z with
      | none => rw [flt_none_right] at h'; cases h'
      | some c =>
        rw [fle_iff hx hy] at h; rw [flt_iff hy hz] at h'; rw [flt_iff hx hz]; omega
theorem fle_trans {x y z : FV} (hx : FVok x) (hy : FVok y) (hz : FVok z) (h : fle x y = true) (h' : fle y z = true) : fle x z = true := by
  cases x with
  | none => rw [fle_none_left] at h; cases h
  | some a =>
    cases y with
    | none => rw [fle_none_right] at h; cases h
    | some b =>
      cases z with
      | none => rw [fle_none_right] at h'; cases h'
      | some c =>
        rw [fle_iff hx hy] at h; rw [fle_iff hy hz] at h'; rw [fle_iff hx hz]; omega
theorem flt_fle {x y : FV} (h : flt x y = true) : fle x y = true := by rw [fle_def, h]; rfl
theorem not_fle_iff {x y : FV} (hx : FVok x) (hy : FVok y) (nx : x ≠ none) (ny : y ≠ none) : fle x y = false ↔ flt y x = true := by
  cases x with
  | none => exact absurd rfl nx
  | some a =>
    cases y with
    | none => exact absurd rfl ny
    | some b => rw [flt_iff hy hx, ← Bool.not_eq_true, fle_iff hx hy]; omega
theorem not_flt_iff {x y : FV} (hx : FVok x) (hy : FVok y) (nx : x ≠ none) (ny : y ≠ none) : flt x y = false ↔ fle y x = true := by
  cases x with
  | none => exact absurd rfl nx
  | some a =>
    cases y with
    | none => exact absurd rfl ny
    | some b => rw [fle_iff hy hx, ← Bool.not_eq_true, flt_iff hx hy]; omega
theorem feq_self {x : FV} (hx : FVok x) (nx : x ≠ none) : feq x x = true := by
  cases x with
  | none => exact absurd rfl nx
  | some a => rw [feq_iff hx hx]
/-- Two words that stand alike are one, but for the zeros. -/
theorem fkey_inj {a b : Nat} (ha : a < W64) (hb : b < W64) (h : fkey a = fkey b) (h0 : fkey a ≠ 0) : a = b := by
  obtain ⟨c1, c2, c3⟩ := double_consts
  have hw : W64 = 18446744073709551616 := rfl
  unfold fkey at h h0
  dsimp only at h h0
  have key : a % FD.signWeight = b % FD.signWeight ∧ (a / FD.signWeight % 2 == 1) = (b / FD.signWeight % 2 == 1) := by
    by_cases h1 : (a / FD.signWeight % 2 == 1) = true <;> by_cases h2 : (b / FD.signWeight % 2 == 1) = true
    · rw [if_pos h1, if_pos h2] at h
      exact ⟨rungV_inj binade_pos (by omega), by rw [h1, h2]⟩
    · rw [if_pos h1, if_neg h2] at h; rw [if_pos h1] at h0; omega
    · rw [if_neg h1, if_pos h2] at h; rw [if_neg h1] at h0; omega
    · rw [if_neg h1, if_neg h2] at h
      exact ⟨rungV_inj binade_pos (by omega), by simp only [Bool.not_eq_true] at h1 h2; rw [h1, h2]⟩
  obtain ⟨k1, k2⟩ := key
  rw [c1] at k1 k2
  have k4 : a / 9223372036854775808 % 2 = 1 ↔ b / 9223372036854775808 % 2 = 1 := by
    rw [← beq_iff_eq, ← beq_iff_eq (b := 1), k2]
  omega
theorem feq_eq {x y : FV} (hx : FVok x) (hy : FVok y) (h : feq x y = true) : x = y ∨ ∃ a b, x = some a ∧ y = some b ∧ fkey a = 0 ∧ fkey b = 0 := by
  cases x with
  | none => rw [feq_none_left] at h; cases h
  | some a =>
    cases y with
    | none => rw [feq_none_right] at h; cases h
    | some b =>
      rw [feq_iff hx hy] at h
      by_cases h0 : fkey a = 0
      · exact .inr ⟨a, b, rfl, rfl, h0, by omega⟩
      · exact .inl (congrArg some (fkey_inj (hx a rfl).1 (hy b rfl).1 h h0))
/-- Is it a finite number? -/
def isFin (x : FV) : Bool := match x with
  | none => false
  | some c => decide (c % FD.signWeight < FD.infRung)

theorem rung_le {c : Nat} (h : (FD.read c).isNaN = false) : c % FD.signWeight ≤ FD.infRung := by
  have k := keyOf_read h
  generalize FD.read c = d at *
  cases k with
  | number s m e hk hr hs => omega
  | infinity s hr hs => omega
theorem isFin_none : isFin none = false := rfl
/-- The greatest finite number, and the least. -/
def fMax : FV := some 9218868437227405311
def fMin : FV := some 18442240474082181119
theorem max_facts : fcls 9218868437227405311 = fMax ∧ fcls 18442240474082181119 = fMin ∧ fcls 0 = some 0 := by decide +kernel
theorem fMax_ok : FVok fMax := max_facts.1 ▸ fcls_ok _
theorem fMin_ok : FVok fMin := max_facts.2.1 ▸ fcls_ok _
theorem zero_ok : FVok (some 0) := max_facts.2.2 ▸ fcls_ok _
theorem fkey_max : fkey 9218868437227405311 = rungV FD.binade (FD.infRung - 1) ∧ fkey 18442240474082181119 = -(rungV FD.binade (FD.infRung - 1) : Int) ∧ fkey 0 = 0 := by
  decide +kernel
theorem number_fin {x : FV} (hx : FVok x) : (fle fMin x && fle x fMax) = isFin x := by
  cases x with
  | none => rw [fle_none_right]; rfl
  | some c =>
    have hr := rung_le (hx c rfl).2
    have h1 := fkey_max.1
    have h2 := fkey_max.2.1
    have hi : 0 < FD.infRung := by obtain ⟨_, h2, h3⟩ := double_consts; omega
    have hlt := rungV_lt binade_pos (show FD.infRung - 1 < FD.infRung by omega)
    rw [Bool.eq_iff_iff, Bool.and_eq_true, fMin, fMax, fle_iff fMin_ok hx, fle_iff hx fMax_ok, h1, h2]
    simp only [isFin, decide_eq_true_eq]
    rcases Nat.lt_or_ge (c % FD.signWeight) FD.infRung with h | h
    · have hle : rungV FD.binade (c % FD.signWeight) ≤ rungV FD.binade (FD.infRung - 1) := by
        rcases Nat.lt_or_ge (c % FD.signWeight) (FD.infRung - 1) with h' | h'
        · exact Nat.le_of_lt (rungV_lt binade_pos h')
        · rw [show c % FD.signWeight = FD.infRung - 1 by omega]; exact Nat.le_refl _
      refine ⟨fun _ => h, fun _ => ?_⟩
      unfold fkey
      dsimp only
      split <;> omega
    · have he : c % FD.signWeight = FD.infRung := by omega
      refine ⟨fun ⟨k1, k2⟩ => ?_, fun h' => by omega⟩
      exfalso
      have hk := fkey_inf (c := c) he rfl
      rw [hk] at k1 k2
      split at k1 <;> simp_all <;> omega
theorem sub_self_fin (x : FV) (hx : FVok x) : feq (fsub x x) (some 0) = isFin x := by
  cases x with
  | none => rfl
  | some c =>
    have k := keyOf_read (hx c rfl).2
    have hs : fsub (some c) (some c) = FD.sub c c := rfl
    rw [hs]
    unfold Ieee.Format.sub isFin
    generalize FD.read c = d at *
    cases k with
    | number s m e hk hr hs =>
      have h0 : ∀ s : Bool, ∀ u : Nat, Ieee.signed s m u + Ieee.signed (!s) m u = 0 := by intro s u; cases s <;> simp [Ieee.signed] <;> omega
      simp only [Ieee.Datum.opposite, Ieee.Datum.sum, Int.min_self, h0, if_true, Option.map_some, hr, decide_true]
      have hz : (s && !s) = false := by cases s <;> rfl
      rw [hz]
      have : FD.write (.number false (0 : Int).natAbs (FD.leastPlace + e)) = 0 := rfl
      rw [this]
      exact feq_self zero_ok (by simp)
    | infinity s hr hs =>
      have hz : (s = !s) = False := by cases s <;> simp
      simp only [Ieee.Datum.opposite, Ieee.Datum.sum, hz, if_false, Option.map_none, feq_none_left, hr]
      simp
/-- '>= 0' of a class that is a number. -/
theorem same_eq (x y : FV) (hx : FVok x) (hy : FVok y) (h : x = y) : (feq x y || (!feq x x && !feq y y)) = true := by
  subst h
  cases feq x x <;> rfl
end Go
