/- What the functions of the tone give, on lists of classes. No program here. -/
import Derived.Test.YtfcholpgebcooaaSpec
namespace Go
set_option linter.unusedSimpArgs false
set_option linter.unusedVariables false
@[simp, go_sem] theorem leq_all (a b : FV) : (flt a b || feq a b) = fle a b := rfl
@[simp, go_sem] theorem geq_all (a b : FV) : (flt b a || feq a b) = fle b a := by rw [feq_comm]; rfl
/-- The class of the i-th of some words. -/
def at_ (zs : List Nat) (i : Nat) : FV := fcls (zs.getD i 0)
theorem at_ok (zs : List Nat) (i : Nat) : FVok (at_ zs i) := fcls_ok _
/-- How many of the first k are not above x. -/
def cntTo (zs : List Nat) (x : FV) : Nat → Nat
  | 0 => 0
  | k + 1 => cntTo zs x k + if fle (at_ zs k) x then 1 else 0
theorem cntTo_le (zs : List Nat) (x : FV) (k : Nat) : cntTo zs x k ≤ k := by
  induction k with
  | zero => simp [cntTo]
  | succ k ih => simp only [cntTo]; split <;> omega
/-- May the i-th be? -/
def okAt (zs : List Nat) (i : Nat) : Bool := isFin (at_ zs i) && flt fzero (at_ zs i) && (i == 0 || !fle (at_ zs i) (at_ zs (i - 1)))
def rightTo (zs : List Nat) : Nat → Bool
  | 0 => true
  | k + 1 => rightTo zs k && okAt zs k
theorem rightTo_false {zs : List Nat} {k n : Nat} (h : k < n) (hk : okAt zs k = false) : rightTo zs n = false := by
  induction n with
  | zero => omega
  | succ n ih =>
    simp only [rightTo]
    rcases Nat.lt_or_ge k n with h' | h'
    · rw [ih h']; rfl
    · have : k = n := by omega
      subst this; rw [hk, Bool.and_false]
theorem rightTo_mem {zs : List Nat} {n : Nat} (h : rightTo zs n = true) {k : Nat} (hk : k < n) : okAt zs k = true := by
  cases hh : okAt zs k with
  | true => rfl
  | false => rw [rightTo_false hk hh] at h; cases h
/-- Ends that may be rise. -/
def Rises (zs : List Nat) (n : Nat) : Prop := ∀ i j, i < j → j < n → flt (at_ zs i) (at_ zs j) = true
theorem fin_ne {zs : List Nat} {k : Nat} (h : okAt zs k = true) : at_ zs k ≠ none := by
  simp only [okAt, Bool.and_eq_true] at h
  exact isFin_ne h.1.1
theorem rises_of_right {zs : List Nat} {n : Nat} (h : rightTo zs n = true) : Rises zs n := by
  intro i j hij
  induction j with
  | zero => omega
  | succ j ih =>
    intro hj
    have h1 := rightTo_mem h hj
    have h2 := rightTo_mem h (show j < n by omega)
    have h3 : fle (at_ zs (j + 1)) (at_ zs j) = false := by
      simp only [okAt, Bool.and_eq_true, Nat.add_sub_cancel] at h1
      simpa using h1.2
    have h4 := (not_fle_iff (at_ok zs _) (at_ok zs _) (fin_ne h1) (fin_ne h2)).1 h3
    rcases Nat.lt_or_ge i j with h' | h'
    · exact flt_trans (at_ok zs _) (at_ok zs _) (at_ok zs _) (ih h' (by omega)) h4
    · have : i = j := by omega
      subst this; exact h4
/-- A place that splits those not above x from the others is their count. -/
theorem cnt_split {zs : List Nat} {x : FV} {n m : Nat} (hm : m ≤ n) (h1 : ∀ i, i < m → fle (at_ zs i) x = true) (h2 : ∀ i, m ≤ i → i < n → fle (at_ zs i) x = false) : cntTo zs x n = m := by
  induction n with
  | zero => simp [cntTo]; omega
  | succ n ih =>
    simp only [cntTo]
    rcases Nat.lt_or_ge m (n + 1) with h' | h'
    · rw [ih (by omega) (fun i h h3 => h2 i h (by omega)), h2 n (by omega) (by omega)]; rfl
    · have hmn : m = n + 1 := by omega
      have : ∀ k, k ≤ n + 1 → cntTo zs x k = k := by
        intro k hk
        induction k with
        | zero => rfl
        | succ k ihk => simp only [cntTo]; rw [ihk (by omega), h1 k (by omega)]; rfl
      have := this (n + 1) (Nat.le_refl _)
      simp only [cntTo] at this
      rw [this, hmn]
theorem fle_below {zs : List Nat} {x : FV} (hx : FVok x) {n i j : Nat} (hr : Rises zs n) (hij : i ≤ j) (hj : j < n) (h : fle (at_ zs j) x = true) : fle (at_ zs i) x = true := by
  rcases Nat.lt_or_ge i j with h' | h'
  · exact flt_fle (flt_le_trans (at_ok zs _) (at_ok zs _) hx (hr i j h' hj) h)
  · have : i = j := by omega
    subst this; exact h
theorem fle_above {zs : List Nat} {x : FV} (hx : FVok x) {n i j : Nat} (hr : Rises zs n) (hij : j ≤ i) (hi : i < n) (h : fle (at_ zs j) x = false) : fle (at_ zs i) x = false := by
  cases h' : fle (at_ zs i) x with
  | false => rfl
  | true => rw [fle_below hx hr hij hi h'] at h; cases h
/-- A greater light's number is not less. -/
theorem cnt_mono {zs : List Nat} {x y : FV} (hx : FVok x) (hy : FVok y) (h : fle x y = true) (k : Nat) : cntTo zs x k ≤ cntTo zs y k := by
  induction k with
  | zero => exact Nat.le_refl _
  | succ k ih =>
    simp only [cntTo]
    cases h1 : fle (at_ zs k) x
    · simp only [Bool.false_eq_true, if_false]; split <;> omega
    · rw [fle_trans (at_ok zs k) hx hy h1 h]; simp only [if_true]; omega
/-- What the two texts ask of an end, said alike. -/
theorem okAt_ref {zs : List Nat} {k : Nat} : (!isFin (at_ zs k) || fle (at_ zs k) fzero || (decide (0 < k) && fle (at_ zs k) (at_ zs (k - 1)))) = !okAt zs k := by
  unfold okAt
  cases hf : isFin (at_ zs k)
  · simp
  · have n0 : fzero ≠ none := by rw [fone_some.2.2]; simp
    have := not_fle_iff (at_ok zs k) (fcls_ok 0) (isFin_ne hf) n0
    cases h1 : fle (at_ zs k) fzero
    · rw [this.1 h1]
      cases k <;> simp
    · have h2 : flt fzero (at_ zs k) = false := by
        cases h3 : flt fzero (at_ zs k) with
        | false => rfl
        | true => rw [this.2 h3] at h1; cases h1
      rw [h2]; simp
theorem okAt_prog {zs : List Nat} {k : Nat} : (!flt fzero (at_ zs k) || !isFin (at_ zs k) || (decide (0 < k) && fle (at_ zs k) (at_ zs (k - 1)))) = !okAt zs k := by
  unfold okAt
  cases hf : isFin (at_ zs k) <;> cases h1 : flt fzero (at_ zs k) <;> simp
  cases k <;> simp
end Go
