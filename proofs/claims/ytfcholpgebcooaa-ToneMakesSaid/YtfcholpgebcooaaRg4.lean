/- The rule of Rg where one operation of the region appends to a slice of the call's own. -/
import Derived.Test.YtfcholpgebcooaaRg2
import Derived.OwnWalk
namespace Go
open Go.RowKit
set_option linter.unusedSimpArgs false
set_option linter.unusedVariables false
section
variable {P : Program}

def factW (F : List (Value → World → Prop)) (k : Nat) (v : Value) (w : World) : Prop := match F[k]? with | some f => f v w | none => True
theorem factW_zero (f : Value → World → Prop) (F : List (Value → World → Prop)) (v : Value) (w : World) : factW (f :: F) 0 v w = f v w := rfl
theorem factW_succ (f : Value → World → Prop) (F : List (Value → World → Prop)) (k : Nat) (v : Value) (w : World) : factW (f :: F) (k + 1) v w = factW F k v w := by simp [factW]
def depW (F : List (Value → World → Prop)) (ν : Nat → Value) (w : World) : List Nat → Prop
  | [] => True
  | j :: js => factW F j (ν j) w ∧ depW F ν w js
theorem depW_nil (F : List (Value → World → Prop)) (ν : Nat → Value) (w : World) : depW F ν w [] = True := rfl
theorem depW_cons (F : List (Value → World → Prop)) (ν : Nat → Value) (w : World) (j : Nat) (js : List Nat) : depW F ν w (j :: js) = (factW F j (ν j) w ∧ depW F ν w js) := rfl
theorem depW_of {F : List (Value → World → Prop)} {ν : Nat → Value} {w : World} : ∀ {js : List Nat}, (∀ j ∈ js, factW F j (ν j) w) → depW F ν w js
  | [], _ => trivial
  | j :: js, h => ⟨h j List.mem_cons_self, depW_of fun i hi => h i (List.mem_cons_of_mem _ hi)⟩
/-- A pure fact, in whatever world. -/
def inAny (f : Value → Prop) (v : Value) (_ : World) : Prop := f v
theorem inAny_eq (f : Value → Prop) (v : Value) (w : World) : inAny f v w = f v := rfl

theorem grew_grownBy {w w' : World} (h : Grew w w') (gb : Option Nat) : w.grownBy w' gb := ⟨h.os, h.tape, h.output, h.size, fun k hk _ => h.block k hk⟩
theorem grownBy_trans {a b c : World} {gb : Option Nat} (h : a.grownBy b gb) (h' : b.grownBy c gb) : a.grownBy c gb :=
  ⟨h'.os.trans h.os, h'.tape.trans h.tape, h'.output.trans h.output, Nat.le_trans h.size h'.size, fun k hk hne => (h'.block k (Nat.lt_of_lt_of_le hk h.size) hne).trans (h.block k hk hne)⟩

/-- How far a step may go: the append's own row; else nothing but new memory. -/
def stepRel (m k : Nat) (gb : Option Nat) (w w' : World) : Prop := if k = m then w.grownBy w' gb else Grew w w'
theorem stepRel_grown {m k : Nat} {gb : Option Nat} {w w' : World} (h : stepRel m k gb w w') : w.grownBy w' gb := by
  unfold stepRel at h
  split at h
  · exact h
  · exact grew_grownBy h gb

def stepW (P : Program) (D : List (Option Tmp)) (F : List (Value → World → Prop)) (m : Nat) (gb : Option Nat) (k : Nat) (o : Oper) (a : Act) (w : World) (Q : Exit → Act → World → Prop) : Prop :=
  if wantedD D o.guard a then o.gives P a w (fun v w'' => factW F k v w'' ∧ stepRel m k gb w w'') ∨ (o.asks P a w ∧ LetsOut Q) else factW F k undef w
theorem stepW_plain {D : List (Option Tmp)} {F : List (Value → World → Prop)} {m k : Nat} {gb : Option Nat} {o : Oper} {a : Act} {w : World} {Q : Exit → Act → World → Prop} {f : Value → World → Prop} (hF : F[k]? = some f) (hg : wantedD D o.guard a = true) (hk : ¬ k = m)
    (h : ∀ R : Value → World → Prop, (∀ v w', f v w' → Grew w w' → R v w') → o.gives P a w R) : stepW P D F m gb k o a w Q := by
  unfold stepW
  rw [if_pos hg]
  exact .inl (h _ fun v w' h1 h2 => ⟨by simp [factW, hF, h1], by unfold stepRel; rw [if_neg hk]; exact h2⟩)
theorem stepW_app {D : List (Option Tmp)} {F : List (Value → World → Prop)} {m : Nat} {gb : Option Nat} {o : Oper} {a : Act} {w : World} {Q : Exit → Act → World → Prop} {f : Value → World → Prop} (hF : F[m]? = some f) (hg : wantedD D o.guard a = true)
    (h : (o.gives P a w fun v w'' => f v w'' ∧ w.grownBy w'' gb) ∨ (o.asks P a w ∧ LetsOut Q)) : stepW P D F m gb m o a w Q := by
  unfold stepW
  rw [if_pos hg]
  have e : (fun v w'' => factW F m v w'' ∧ stepRel m m gb w w'') = fun v w'' => f v w'' ∧ w.grownBy w'' gb := by
    funext v w''
    simp [factW, hF, stepRel]
  rw [e]; exact h

def allW (P : Program) (D : List (Option Tmp)) (F : List (Value → World → Prop)) (m : Nat) (gb : Option Nat) (own : World → Prop) (w : World) (a : Act) (Q : Exit → Act → World → Prop) : Nat → List Oper → Prop
  | _, [] => True
  | k, o :: rest => (∀ ν w', w.grownBy w' gb → (k = m → own w') → depW F ν w' (depsOf .any o) → stepW P D F m gb k o (frameD D ν a (depsOf .any o)) w' Q) ∧ allW P D F m gb own w a Q (k + 1) rest
theorem allW_nil {D : List (Option Tmp)} {F : List (Value → World → Prop)} {m : Nat} {gb : Option Nat} {own : World → Prop} {w : World} {a : Act} {Q : Exit → Act → World → Prop} (k : Nat) : allW P D F m gb own w a Q k [] := trivial
theorem allW_cons {D : List (Option Tmp)} {F : List (Value → World → Prop)} {m : Nat} {gb : Option Nat} {own : World → Prop} {w : World} {a : Act} {Q : Exit → Act → World → Prop} {k : Nat} {o : Oper} {rest : List Oper}
    (h : ∀ ν w', w.grownBy w' gb → (k = m → own w') → depW F ν w' (depsOf .any o) → stepW P D F m gb k o (frameD D ν a (depsOf .any o)) w' Q) (h' : allW P D F m gb own w a Q (k + 1) rest) : allW P D F m gb own w a Q k (o :: rest) := ⟨h, h'⟩
theorem allW_get {D : List (Option Tmp)} {F : List (Value → World → Prop)} {m : Nat} {gb : Option Nat} {own : World → Prop} {w : World} {a : Act} {Q : Exit → Act → World → Prop} : ∀ (k0 : Nat) (l' : List Oper), allW P D F m gb own w a Q k0 l' →
    ∀ i o, l'[i]? = some o → ∀ ν w', w.grownBy w' gb → (k0 + i = m → own w') → depW F ν w' (depsOf .any o) → stepW P D F m gb (k0 + i) o (frameD D ν a (depsOf .any o)) w' Q
  | _, [], _, i, o, h => by simp at h
  | k0, x :: l', h, 0, o, ho => by
    have : x = o := by simpa using ho
    subst this
    exact h.1
  | k0, x :: l', h, i + 1, o, ho => by
    have := allW_get (k0 + 1) l' h.2 i o (by simpa using ho)
    rwa [show k0 + 1 + i = k0 + (i + 1) by omega] at this

theorem wp_region_app {id : Nat} {Q : Exit → Act → World → Prop} {a : Act} {w : World} {l : List Oper} (n m : Nat) (gb : Option Nat) (own : World → Prop) (F : List (Value → World → Prop))
    (hm : P.follows .mixedOrders = true) (hB : regionOk .any l.toArray n = true) (hmn : m < n)
    (hown : ∀ w1 w2, own w1 → Grew w1 w2 → own w2) (h0 : own w)
    (hst : ∀ k v w1 w2, k ≠ m → w.grownBy w1 gb → factW F k v w1 → w1.grownBy w2 gb → factW F k v w2)
    (hstm : ∀ v w1 w2, factW F m v w1 → Grew w1 w2 → factW F m v w2)
    (hops : allW P (l.map (·.dst)) F m gb own w a Q 0 (l.take n))
    (hQ : ∀ ν w', w.grownBy w' gb → depW F ν w' (List.range n) → wpList P l.toArray Q (l.drop n) (frameD (l.map (·.dst)) ν a (List.range n)) w') :
    (Code.region id l.toArray true).wp P Q a w := by
  have hB' := hB
  simp only [regionOk, Bool.and_eq_true, decide_eq_true_eq] at hB'
  have hns := hB'.1.2
  refine wp_region_facts n (fun k v w' => (w.grownBy w' gb) ∧ factW F k v w') (fun listed w' => listed.size = l.toArray.size ∧ w.grownBy w' gb ∧ (listed.getD m false = false → own w')) (fun k w1 w2 => stepRel m k gb w1 w2) hm hB
    ⟨by simp, ⟨rfl, rfl, rfl, Nat.le_refl _, fun _ _ _ => rfl⟩, fun _ => hown _ _ h0 ⟨rfl, rfl, rfl, Nat.le_refl _, fun _ _ => rfl⟩⟩ ?_ ?_ ?_ ?_
  · rintro k listed w1 w2 hun ⟨hsz, h1, h2⟩ hE
    refine ⟨by simpa using hsz, grownBy_trans h1 (stepRel_grown hE), fun hl => ?_⟩
    by_cases hkm : k = m
    · subst hkm
      have hs : k < listed.size := by rw [hsz]; omega
      simp [hs] at hl
    · rw [getD_set_ne false hkm] at hl
      unfold stepRel at hE
      rw [if_neg hkm] at hE
      exact hown _ _ (h2 hl) hE
  · rintro j k v w1 w2 hjk ⟨h1, h2⟩ hE
    refine ⟨grownBy_trans h1 (stepRel_grown hE), ?_⟩
    by_cases hjm : j = m
    · subst hjm
      unfold stepRel at hE
      rw [if_neg (Ne.symm hjk)] at hE
      exact hstm _ _ _ h2 hE
    · exact hst j v w1 w2 hjm h1 h2 (stepRel_grown hE)
  · intro k o hk ho ν w' listed hun hg hd
    have := allW_get 0 (l.take n) hops k o (by simp [hk, ho]) ν w' hg.2.1 (fun e => hg.2.2 (by rw [Nat.zero_add] at e; rw [← e]; exact hun)) (depW_of fun j hj => (hd j hj).2)
    rw [Nat.zero_add, ← frameFor_eq] at this
    unfold Oper.step
    rw [wanted_eq]
    unfold stepW at this
    split
    · rename_i hw
      rw [if_pos hw] at this
      refine this.imp (fun h => ?_) (fun h => h)
      unfold Oper.gives at h ⊢
      generalize (execOp _ o).run P w' = r at h ⊢
      cases r with
      | ok nx w2 =>
        cases nx <;> simp only [Oper.givesUpon] at h ⊢
        case value v => exact ⟨⟨grownBy_trans hg.2.1 (stepRel_grown h.2), h.1⟩, h.2⟩
        case skip => exact ⟨⟨grownBy_trans hg.2.1 (stepRel_grown h.2), h.1⟩, h.2⟩
        case enter f args => exact h.mono fun e w3 ⟨v, he, h1, h2⟩ => ⟨v, he, ⟨grownBy_trans hg.2.1 (stepRel_grown h2), h1⟩, h2⟩
        case row f args => exact h.mono fun v w3 ⟨h1, h2⟩ => ⟨⟨grownBy_trans hg.2.1 (stepRel_grown h2), h1⟩, h2⟩
      | halt x w2 => simp only [Oper.givesUpon] at h
    · rename_i hw
      rw [if_neg hw] at this
      refine ⟨⟨hg.2.1, this⟩, ?_⟩
      unfold stepRel
      split
      · exact grew_grownBy (Grew.refl _) gb
      · exact Grew.refl _
  · intro ν w' listed hg hf
    rw [frameFor_eq]
    exact hQ ν w' hg.2.1 (depW_of fun j hj => (hf j (List.mem_range.1 hj)).2)
end
end Go
