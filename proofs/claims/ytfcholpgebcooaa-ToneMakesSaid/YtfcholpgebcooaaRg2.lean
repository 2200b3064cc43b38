/- The rule of Rg for the walk: facts on values, memory that only grows. -/
import Derived.Test.YtfcholpgebcooaaFl
import Derived.Test.YtfcholpgebcooaaRg
import Derived.Lib.Hide
import Derived.Outline
namespace Go
open Go.RowKit
set_option linter.unusedSimpArgs false
set_option linter.unusedVariables false
section
variable {P : Program}

/-- A slot that holds just this. -/
def isV (c v : Value) : Prop := v = c
theorem isV_rfl (c : Value) : isV c c := rfl
theorem isV_eq (c v : Value) : isV c v = (v = c) := rfl
/-- A slot that holds a float of this class. -/
def isF (x : FV) (v : Value) : Prop := ∃ b, v = .float .f64 b ∧ fcls b = x
def Ret (R : Value → Prop) (w : World) (e : Ending) (w' : World) : Prop := ∃ v, e = .returned v ∧ R v ∧ Below w.heap.size w w'
theorem bcell {W w1 : World} (hb : Below W.heap.size W w1) : (∀ b o, b < W.heap.size → w1.cell? ⟨b, o, none⟩ = W.cell? ⟨b, o, none⟩) ∧ (∀ b o, b < W.heap.size → w1.frozen? ⟨b, o, none⟩ = W.frozen? ⟨b, o, none⟩) :=
  ⟨fun b o h => hb.cell (p := ⟨b, o, none⟩) h, fun b o h => hb.frozen (p := ⟨b, o, none⟩) h⟩

def factAt (F : List (Value → Prop)) (k : Nat) (v : Value) : Prop := match F[k]? with | some f => f v | none => True
theorem factAt_zero (f : Value → Prop) (F : List (Value → Prop)) (v : Value) : factAt (f :: F) 0 v = f v := rfl
theorem factAt_succ (f : Value → Prop) (F : List (Value → Prop)) (k : Nat) (v : Value) : factAt (f :: F) (k + 1) v = factAt F k v := by simp [factAt]
theorem factAt_nil (k : Nat) (v : Value) : factAt [] k v = True := by simp [factAt]

def depFacts (F : List (Value → Prop)) (ν : Nat → Value) : List Nat → Prop
  | [] => True
  | j :: js => factAt F j (ν j) ∧ depFacts F ν js
theorem depFacts_of {F : List (Value → Prop)} {ν : Nat → Value} : ∀ {js : List Nat}, (∀ j ∈ js, factAt F j (ν j)) → depFacts F ν js
  | [], _ => trivial
  | j :: js, h => ⟨h j List.mem_cons_self, depFacts_of fun i hi => h i (List.mem_cons_of_mem _ hi)⟩

def Grew (w w' : World) : Prop := Below w.heap.size w w'
theorem Grew.refl (w : World) : Grew w w := Below.refl _ _
theorem Grew.trans {a b c : World} (h : Grew a b) (h' : Grew b c) : Grew a c := Below.trans h (h'.mono h.size)
theorem Grew.drewN {a b : World} (h : Grew a b) (n : Nat) : Grew a (b.drewN n) := below_drewN h n
theorem Grew.drew {a b : World} (h : Grew a b) : Grew a b.drew := Below.drew h
theorem Grew.alloc {a b : World} (h : Grew a b) (o : Obj) : Grew a (b.alloc o) := Below.alloc h h.size o
theorem Grew.setCell {a b : World} (h : Grew a b) {p : Addr} (hp : a.heap.size ≤ p.block) (v : Value) : Grew a (b.setCell p v) := Below.setCell h hp v
theorem Grew.cell {a b : World} (h : Grew a b) {p : Addr} {v : Value} (hv : a.cell? p = some v) : b.cell? p = some v := cell_later h hv

def depsL (md : Region.Mode) : List Edge → List Nat
  | [] => []
  | e :: es => if Region.binds md e then e.on :: depsL md es else depsL md es
theorem depsL_eq (md : Region.Mode) : ∀ es, depsL md es = (es.filter (Region.binds md ·)).map (·.on)
  | [] => rfl
  | e :: es => by
    simp only [depsL, List.filter_cons, depsL_eq md es]
    split <;> simp
theorem deps_mk (d : Option Tmp) (op : Op) (t : TypeId) (p : String) (es : List Edge) (g : Option (Nat × Bool)) : depsOf .any ⟨d, op, t, p, es.toArray, g⟩ = depsL .any es := by
  rw [depsL_eq]; rfl
theorem deps_nil : depsL .any [] = [] := rfl
theorem deps_data (n : Nat) (es : List Edge) : depsL .any (⟨n, .data⟩ :: es) = n :: depsL .any es := rfl
theorem deps_chain (n : Nat) (es : List Edge) : depsL .any (⟨n, .chain⟩ :: es) = n :: depsL .any es := rfl
theorem deps_guard (n : Nat) (es : List Edge) : depsL .any (⟨n, .guard⟩ :: es) = n :: depsL .any es := rfl
theorem deps_phase (n : Nat) (es : List Edge) : depsL .any (⟨n, .phase⟩ :: es) = n :: depsL .any es := rfl
theorem deps_text (n : Nat) (r : Departure) (es : List Edge) : depsL .any (⟨n, .textOnly r⟩ :: es) = depsL .any es := rfl
theorem deps_gc (n : Nat) (r : Departure) (es : List Edge) : depsL .any (⟨n, .gcOnly r⟩ :: es) = depsL .any es := rfl
theorem depFacts_nil (F : List (Value → Prop)) (ν : Nat → Value) : depFacts F ν [] = True := rfl
theorem depFacts_cons (F : List (Value → Prop)) (ν : Nat → Value) (j : Nat) (js : List Nat) : depFacts F ν (j :: js) = (factAt F j (ν j) ∧ depFacts F ν js) := rfl

def frameD (D : List (Option Tmp)) (ν : Nat → Value) (a : Act) (js : List Nat) : Act := js.foldl (fun a j => a.put (D.getD j none) (ν j)) a
theorem frameD_nil (D : List (Option Tmp)) (ν : Nat → Value) (a : Act) : frameD D ν a [] = a := rfl
theorem frameD_cons (D : List (Option Tmp)) (ν : Nat → Value) (a : Act) (j : Nat) (js : List Nat) : frameD D ν a (j :: js) = frameD D ν (a.put (D.getD j none) (ν j)) js := rfl
theorem frameFor_eq (l : List Oper) (ν : Nat → Value) (a : Act) (js : List Nat) : frameFor l.toArray ν a js = frameD (l.map (·.dst)) ν a js := by
  unfold frameFor frameD
  congr 1
  funext a j
  congr 1
  simp only [dstOf, List.getElem?_toArray, List.getD_eq_getElem?_getD, List.getElem?_map]
  cases l[j]? <;> rfl
def wantedD (D : List (Option Tmp)) (g : Option (Nat × Bool)) (a : Act) : Bool :=
  match g with
  | none => true
  | some (j, b) => (match (D.getD j none).bind (a.tmps[·]?) with | some (.bool x) => some x | _ => none) == some b
attribute [go_sem] deps_mk deps_nil deps_data deps_chain deps_guard deps_phase deps_text deps_gc frameD_nil frameD_cons
theorem wantedD_none (D : List (Option Tmp)) (a : Act) : wantedD D none a = true := rfl
theorem wanted_eq (l : List Oper) (o : Oper) (a : Act) : Region.wanted o (yielded l.toArray a.tmps) = wantedD (l.map (·.dst)) o.guard a := by
  unfold Region.wanted wantedD
  cases o.guard with
  | none => rfl
  | some gb =>
    obtain ⟨g, b⟩ := gb
    simp only [yielded, List.getElem?_toArray, List.getD_eq_getElem?_getD, List.getElem?_map]
    cases l[g]? <;> rfl

/-- Operation o at its frame. -/
def stepD (P : Program) (D : List (Option Tmp)) (F : List (Value → Prop)) (k : Nat) (o : Oper) (a : Act) (w : World) (Q : Exit → Act → World → Prop) : Prop :=
  if wantedD D o.guard a then o.gives P a w (fun v w'' => factAt F k v ∧ Grew w w'') ∨ (o.asks P a w ∧ LetsOut Q) else factAt F k undef
theorem stepD_plain {D : List (Option Tmp)} {F : List (Value → Prop)} {k : Nat} {o : Oper} {a : Act} {w : World} {Q : Exit → Act → World → Prop} {f : Value → Prop} (hF : F[k]? = some f) (hg : wantedD D o.guard a = true)
    (h : ∀ R : Value → World → Prop, (∀ v w', f v → Grew w w' → R v w') → o.gives P a w R) : stepD P D F k o a w Q := by
  unfold stepD
  rw [if_pos hg]
  exact .inl (h _ fun v w' h1 h2 => ⟨by simp [factAt, hF, h1], h2⟩)
theorem stepD_skip {D : List (Option Tmp)} {F : List (Value → Prop)} {k : Nat} {o : Oper} {a : Act} {w : World} {Q : Exit → Act → World → Prop} {f : Value → Prop} (hF : F[k]? = some f) (hg : wantedD D o.guard a = false)
    (h : f undef) : stepD P D F k o a w Q := by
  unfold stepD
  rw [if_neg (by simp [hg])]
  simpa [factAt, hF] using h

def allSteps (P : Program) (D : List (Option Tmp)) (F : List (Value → Prop)) (w : World) (a : Act) (Q : Exit → Act → World → Prop) : Nat → List Oper → Prop
  | _, [] => True
  | k, o :: rest => (∀ ν w', Grew w w' → depFacts F ν (depsOf .any o) → stepD P D F k o (frameD D ν a (depsOf .any o)) w' Q) ∧ allSteps P D F w a Q (k + 1) rest
theorem allSteps_nil {D : List (Option Tmp)} {F : List (Value → Prop)} {w : World} {a : Act} {Q : Exit → Act → World → Prop} (k : Nat) : allSteps P D F w a Q k [] := trivial
theorem allSteps_cons {D : List (Option Tmp)} {F : List (Value → Prop)} {w : World} {a : Act} {Q : Exit → Act → World → Prop} {k : Nat} {o : Oper} {rest : List Oper}
    (h : ∀ ν w', Grew w w' → depFacts F ν (depsOf .any o) → stepD P D F k o (frameD D ν a (depsOf .any o)) w' Q) (h' : allSteps P D F w a Q (k + 1) rest) : allSteps P D F w a Q k (o :: rest) := ⟨h, h'⟩

theorem allSteps_get {D : List (Option Tmp)} {F : List (Value → Prop)} {w : World} {a : Act} {Q : Exit → Act → World → Prop} : ∀ (k0 : Nat) (l' : List Oper), allSteps P D F w a Q k0 l' →
    ∀ i o, l'[i]? = some o → ∀ ν w', Grew w w' → depFacts F ν (depsOf .any o) → stepD P D F (k0 + i) o (frameD D ν a (depsOf .any o)) w' Q
  | _, [], _, i, o, h => by simp at h
  | k0, x :: l', h, 0, o, ho => by
    have : x = o := by simpa using ho
    subst this
    exact h.1
  | k0, x :: l', h, i + 1, o, ho => by
    have := allSteps_get (k0 + 1) l' h.2 i o (by simpa using ho)
    rwa [show k0 + 1 + i = k0 + (i + 1) by omega] at this

theorem wp_region_pure {id : Nat} {Q : Exit → Act → World → Prop} {a : Act} {w : World} {l : List Oper} (n : Nat) (F : List (Value → Prop))
    (hm : P.follows .mixedOrders = true) (hB : regionOk .any l.toArray n = true)
    (hops : allSteps P (l.map (·.dst)) F w a Q 0 (l.take n))
    (hQ : ∀ ν w', Grew w w' → depFacts F ν (List.range n) → wpList P l.toArray Q (l.drop n) (frameD (l.map (·.dst)) ν a (List.range n)) w') :
    (Code.region id l.toArray true).wp P Q a w := by
  refine wp_region_facts n (fun k v _ => factAt F k v) (fun _ w' => Grew w w') (fun _ w w' => Grew w w') hm hB ⟨rfl, rfl, rfl, Nat.le_refl _, fun _ _ => rfl⟩
    (fun _ _ _ _ _ h h' => h.trans h') (fun _ _ _ _ _ _ h _ => h) (fun k o hk ho ν w' _ _ hg hd => ?_) (fun ν w' _ hg hf => by rw [frameFor_eq]; exact hQ ν w' hg (depFacts_of fun j hj => hf j (List.mem_range.1 hj)))
  have := allSteps_get 0 (l.take n) hops k o (by simp [hk, ho]) ν w' hg (depFacts_of hd)
  rw [Nat.zero_add, ← frameFor_eq] at this
  unfold Oper.step
  rw [wanted_eq]
  unfold stepD at this
  split
  · rename_i hw; rw [if_pos hw] at this; exact this
  · rename_i hw; rw [if_neg hw] at this; exact ⟨this, Grew.refl _⟩
end
end Go
