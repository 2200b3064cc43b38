/- What the functions of the colours, the tape and the roulette give, on classes of floats. No program here. -/
import Derived.Test.YtfcholpgebcooaaFl2
namespace Go
set_option linter.unusedSimpArgs false
set_option linter.unusedVariables false

abbrev fzero : FV := fcls 0
abbrev fone : FV := fcls 4607182418800017408
abbrev fleast : FV := fcls 4589168020290535424
structure RGBv where
  r : FV
  g : FV
  b : FV
def RGBv.ok (c : RGBv) : Prop := FVok c.r ∧ FVok c.g ∧ FVok c.b
def rzero : RGBv := ⟨fzero, fzero, fzero⟩
def rAdd (a b : RGBv) : RGBv := ⟨fadd a.r b.r, fadd a.g b.g, fadd a.b b.b⟩
def rMul (a b : RGBv) : RGBv := ⟨fmul a.r b.r, fmul a.g b.g, fmul a.b b.b⟩
def rScale (a : RGBv) (k : FV) : RGBv := ⟨fmul a.r k, fmul a.g k, fmul a.b k⟩
def rGood (c : RGBv) : Bool := isFin c.r && isFin c.g && isFin c.b && fle fzero c.r && fle fzero c.g && fle fzero c.b
def fhi (a b : FV) : FV := if flt a b then b else a
def rMost (c : RGBv) : FV := fhi (fhi c.r c.g) c.b
def clean (x : FV) : FV := if fle fzero x && flt x fone then x else fzero
def chance (c : RGBv) (k : Int) : FV :=
  if k < 3 ∨ rGood c = false then fone
  else if flt (rMost c) fleast then fleast
  else if flt fone (rMost c) then fone else rMost c
def fsame (x y : FV) : Bool := feq x y || (!feq x x && !feq y y)
def rsame (a b : RGBv) : Bool := fsame a.r b.r && fsame a.g b.g && fsame a.b b.b
def play (c : RGBv) (k : Int) (u : FV) : RGBv × Bool :=
  if flt (clean u) (chance c k) then (rScale c (fdiv fone (chance c k)), true) else (rzero, false)

theorem fcls_ne_none {x : FV} {b : Nat} (h : fcls b = x) : FVok x := h ▸ fcls_ok b
theorem fop_ok {op : BinOp} (ho : isFop op = true) (a b : Nat) : FVok (fop op (fcls a) (fcls b)) := by
  cases h : floatBits op .f64 a b with
  | some r => exact fres_cls ho h ▸ fcls_ok r
  | none => rw [fop_none ho h]; exact FVok_none
theorem fone_some : fone = some 4607182418800017408 ∧ fleast = some 4589168020290535424 ∧ fzero = some 0 := by decide +kernel
theorem ok_some {x : FV} (hx : FVok x) (h : x ≠ none) : ∃ a, x = some a ∧ fcls a = some a := by
  cases x with
  | none => exact absurd rfl h
  | some a =>
    refine ⟨a, rfl, ?_⟩
    obtain ⟨h1, h2⟩ := hx a rfl
    unfold fcls
    rw [h2, Nat.mod_eq_of_lt h1]; rfl
theorem isFin_ne {x : FV} (h : isFin x = true) : x ≠ none := by intro e; subst e; cases h
theorem fhi_ok {a b : FV} (ha : FVok a) (hb : FVok b) : FVok (fhi a b) := by unfold fhi; split <;> assumption
theorem fhi_ne {a b : FV} (ha : a ≠ none) (hb : b ≠ none) : fhi a b ≠ none := by unfold fhi; split <;> assumption
theorem rMost_ok {c : RGBv} (h : c.ok) : FVok (rMost c) := fhi_ok (fhi_ok h.1 h.2.1) h.2.2
theorem rGood_fin {c : RGBv} (h : rGood c = true) : isFin c.r = true ∧ isFin c.g = true ∧ isFin c.b = true ∧ fle fzero c.r = true ∧ fle fzero c.g = true ∧ fle fzero c.b = true := by
  simp only [rGood, Bool.and_eq_true] at h
  exact ⟨h.1.1.1.1.1, h.1.1.1.1.2, h.1.1.1.2, h.1.1.2, h.1.2, h.2⟩
theorem rMost_ne {c : RGBv} (h : rGood c = true) : rMost c ≠ none := by
  obtain ⟨h1, h2, h3, _⟩ := rGood_fin h
  exact fhi_ne (fhi_ne (isFin_ne h1) (isFin_ne h2)) (isFin_ne h3)
theorem chance_ok {c : RGBv} (h : c.ok) (k : Int) : FVok (chance c k) := by
  unfold chance
  split
  · exact fcls_ok _
  · split
    · exact fcls_ok _
    · split
      · exact fcls_ok _
      · exact rMost_ok h
theorem chance_ne (c : RGBv) (k : Int) : chance c k ≠ none := by
  have h1 := fone_some
  unfold chance
  split
  · rw [h1.1]; simp
  · rename_i hk
    split
    · rw [h1.2.1]; simp
    · split
      · rw [h1.1]; simp
      · exact rMost_ne (by cases h : rGood c; · exact absurd (.inr h) hk
                           · rfl)
theorem clean_ok {x : FV} (h : FVok x) : FVok (clean x) := by unfold clean; split; · exact h
                                                              · exact fcls_ok _
theorem clean_ne (x : FV) : clean x ≠ none := by
  unfold clean
  split
  · rename_i h
    intro e
    subst e
    rw [fle_none_right] at h
    cases h
  · rw [fone_some.2.2]; simp

/-- The greater of two by Go's 'max', the least by 'min': of the words. -/
theorem fsame_refl (x : FV) : fsame x x = true := by unfold fsame; cases feq x x <;> rfl
theorem rsame_refl (c : RGBv) : rsame c c = true := by unfold rsame; rw [fsame_refl, fsame_refl, fsame_refl]; rfl

/-- 'x < 0 || x >= 1 || x != x' says the same as the other way round. -/
theorem clean_other (x : FV) (hx : FVok x) : (if (flt x fzero || fle fone x || !feq x x) = true then fzero else x) = clean x := by
  unfold clean
  cases x with
  | none => rw [flt_none_left, fle_none_right, feq_none_left, fle_none_right]; rfl
  | some a =>
    have n0 : fzero ≠ none := by rw [fone_some.2.2]; simp
    have n1 : fone ≠ none := by rw [fone_some.1]; simp
    have na : (some a : FV) ≠ none := by simp
    rw [feq_self hx na]
    cases h1 : flt (some a) fzero
    · have := (not_flt_iff hx (fcls_ok 0) na n0).1 h1
      rw [this]
      cases h2 : fle fone (some a)
      · have := (not_fle_iff (fcls_ok _) hx n1 na).1 h2
        rw [this]; rfl
      · have : flt (some a) fone = false := (not_flt_iff hx (fcls_ok _) na n1).2 h2
        rw [this]; rfl
    · have : fle fzero (some a) = false := (not_fle_iff (fcls_ok 0) hx n0 na).2 h1
      rw [this]; rfl

theorem key_consts : 0 < fkey 4589168020290535424 ∧ 0 < fkey 4607182418800017408 ∧ fkey 4589168020290535424 < fkey 4607182418800017408 := by decide +kernel
theorem chance_mm {m : FV} (hm : FVok m) (nm : m ≠ none) : fminv (fmaxv m fleast) fone = if flt m fleast then fleast else if flt fone m then fone else m := by
  obtain ⟨h1, h2, h3⟩ := fone_some
  obtain ⟨k1, k2, k3⟩ := key_consts
  have o1 : FVok (some 4589168020290535424) := h2 ▸ fcls_ok _
  have o2 : FVok (some 4607182418800017408) := h1 ▸ fcls_ok _
  rw [h1, h2, fmaxv_pos hm nm o1 k1]
  split
  · rw [fminv_pos o1 (by simp) o2 k2]
    have : flt (some 4607182418800017408) (some 4589168020290535424) = false := by rw [← Bool.not_eq_true, flt_iff o2 o1]; omega
    rw [this]; rfl
  · rw [fminv_pos hm nm o2 k2]
end Go
