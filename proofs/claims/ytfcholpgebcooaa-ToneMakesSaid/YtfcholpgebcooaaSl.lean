/- Slices of floats that a call makes for itself, grown by append. -/
import Derived.Test.YtfcholpgebcooaaRg4
import Derived.Test.YtfcholpgebcooaaCon
import Derived.Test.YtfcholpgebcooaaSpecT
namespace Go
open Go.RowKit
set_option linter.unusedSimpArgs false
set_option linter.unusedVariables false

/-- Words in memory, one behind the other. -/
def FloatsAt (w : World) (b off : Nat) (zs : List Nat) : Prop := ∀ k, k < zs.length → w.cell? ⟨b, off + k, none⟩ = some (.float .f64 (zs.getD k 0))
theorem FloatsAt.get {w : World} {b off : Nat} {zs : List Nat} (h : FloatsAt w b off zs) (k : Nat) (hk : k < zs.length) : ∃ z, w.cell? ⟨b, off + k, none⟩ = some (.float .f64 z) ∧ fcls z = at_ zs k := ⟨_, h k hk, rfl⟩
theorem FloatsAt.grew {w w' : World} {b off : Nat} {zs : List Nat} (h : FloatsAt w b off zs) (hg : Grew w w') : FloatsAt w' b off zs := fun k hk => hg.cell (h k hk)

/-- The call's own slice of floats. -/
def OwnF (e B : Nat) (w : World) (v : Value) (xs : List Nat) : Prop := w.ownsRow B e 1 v xs.length (xs.map (Value.float .f64))
theorem OwnF.nil (e B : Nat) (w : World) : OwnF e B w (.slice none 0 0) [] := World.ownsRow_nil w B e 1
theorem OwnF.grew {e B : Nat} {w w' : World} {v : Value} {xs : List Nat} (h : OwnF e B w v xs) (hg : Grew w w') : OwnF e B w' v xs :=
  World.ownsRow.kept h (grew_grownBy hg none) (by cases v.ownBlock <;> simp)
theorem OwnF.grown {e B : Nat} {w w' : World} {v : Value} {xs : List Nat} {gb : Option Nat} (h : OwnF e B w v xs) (hg : w.grownBy w' gb) (hne : v.ownBlock = none ∨ v.ownBlock ≠ gb) : OwnF e B w' v xs :=
  World.ownsRow.kept h hg hne
/-- What it looks like. -/
theorem OwnF.form {e B : Nat} {w : World} {v : Value} {xs : List Nat} (h : OwnF e B w v xs) :
    (v = .slice none 0 0 ∧ xs = []) ∨ ∃ g cap, v = .slice (some ⟨g, 0, none⟩) xs.length cap ∧ B ≤ g ∧ g < w.heap.size ∧ xs.length ≤ cap ∧ cap ≤ maxLen ∧ FloatsAt w g 0 xs := by
  obtain ⟨hl, h⟩ := h
  rcases h with ⟨rfl, hn⟩ | ⟨g, cap, cur, rfl, hb, hh, hnc, hcm, hcs, ht⟩
  · exact .inl ⟨rfl, List.eq_nil_of_length_eq_zero hn⟩
  · refine .inr ⟨g, cap, rfl, hb, (Array.getElem?_eq_some_iff.1 hh).1, hnc, hcm, fun k hk => ?_⟩
    rw [World.cell?, hh]
    have h1 : (xs.map (Value.float .f64))[k]? = some (.float .f64 (xs.getD k 0)) := by
      simp [hk]
    rw [← ht] at h1
    simp only [Nat.mul_one, List.getElem?_take] at h1
    rw [if_pos hk] at h1
    simpa using h1
theorem OwnF.lt {e B : Nat} {w : World} {v : Value} {xs : List Nat} (h : OwnF e B w v xs) {k : Nat} (hk : v.ownBlock = some k) : B ≤ k ∧ k < w.heap.size := World.ownsRow.lt h k hk

section
variable {P : Program}
/-- 'append(s, x)' of one float: run. -/
theorem run_app1 {w : World} {t ty e : TypeId} {i : TypeInfo} {B : Nat} (ht : P.underlying t = some (.slice e)) (hi : P.info? e = some i) (hz : i.zero = some (.float .f64 0)) (hsize : i.size = 1) (hby : i.bytes = 8)
    {v : Value} {xs : List Nat} (hown : OwnF e B w v xs) {g x c : Nat} (hx : w.cell? ⟨g, 0, none⟩ = some (.float .f64 x)) (hlen : xs.length < 1099511627776) (hbase : B ≤ w.heap.size) :
    ∃ v' w', (Builtin.append_ #[t, t] ty #[v, .slice (some ⟨g, 0, none⟩) 1 c]).run P w = .ok v' w' ∧ OwnF e B w' v' (xs ++ [x]) ∧ w.grownBy w' v.ownBlock := by
  obtain ⟨v', w', hr, h2, h3, _⟩ := run_append_own (P := P) w B t ty e i (.float .f64 0) 1 8 ht hi hz hsize hby rfl (by decide) v xs.length _ hown ⟨g, 0, none⟩ 1 c [.float .f64 x] rfl (by
    intro j u hu
    cases j with
    | zero => simp at hu; subst hu; simpa [Addr.add] using hx
    | succ j => simp at hu) (by simp [Value.oneCell']) (by unfold maxLen; omega) (by omega) hbase
  exact ⟨v', w', hr, by unfold OwnF; simpa using h2, h3⟩
theorem gives_app1 {o : Oper} {a : Act} {w : World} {R : Value → World → Prop} {s x : Operand} {t e : TypeId} {i : TypeInfo} {B : Nat} (ho : o.op = .call { callee := .builtin .append, args := #[s, x], argTypes := #[t, t] })
    (ht : P.underlying t = some (.slice e)) (hi : P.info? e = some i) (hz : i.zero = some (.float .f64 0)) (hsize : i.size = 1) (hby : i.bytes = 8)
    {v : Value} {xs : List Nat} (hs : a.eval s = v) (hown : OwnF e B w v xs) {g y c : Nat} (hx : a.eval x = .slice (some ⟨g, 0, none⟩) 1 c) (hy : w.cell? ⟨g, 0, none⟩ = some (.float .f64 y)) (hlen : xs.length < 1099511627776) (hbase : B ≤ w.heap.size)
    (h : ∀ v' w', OwnF e B w' v' (xs ++ [y]) → w.grownBy w' v.ownBlock → R v' w') : o.gives P a w R := by
  obtain ⟨v', w', hr, h2, h3⟩ := run_app1 (P := P) (ty := o.type) ht hi hz hsize hby hown (c := c) hy hlen hbase
  unfold Oper.gives execOp
  simp only [ho, resolve, invoke, builtin, Sem.run_bind, Sem.run_pure, Result.andThen_ok, List.map_toArray, List.map_cons, List.map_nil, hs, hx, hr]
  exact h v' w' h2 h3
theorem wpList_app1 {ops : Array Oper} {rest : List Oper} {o : Oper} {a : Act} {w : World} {Q : Exit → Act → World → Prop} (hgd : o.guard = none) {s x : Operand} {t e : TypeId} {i : TypeInfo} {B : Nat} (ho : o.op = .call { callee := .builtin .append, args := #[s, x], argTypes := #[t, t] })
    (ht : P.underlying t = some (.slice e)) (hi : P.info? e = some i) (hz : i.zero = some (.float .f64 0)) (hsize : i.size = 1) (hby : i.bytes = 8)
    {v : Value} {xs : List Nat} (hs : a.eval s = v) (hown : OwnF e B w v xs) {g y c : Nat} (hx : a.eval x = .slice (some ⟨g, 0, none⟩) 1 c) (hy : w.cell? ⟨g, 0, none⟩ = some (.float .f64 y)) (hlen : xs.length < 1099511627776) (hbase : B ≤ w.heap.size)
    (h : ∀ v' w', OwnF e B w' v' (xs ++ [y]) → w.grownBy w' v.ownBlock → wpList P ops Q rest (a.put o.dst v') w') : wpList P ops Q (o :: rest) a w :=
  wpList_plain hgd fun _ hK => Oper.wp_of_gives (R := fun v' w' => OwnF e B w' v' (xs ++ [y]) ∧ w.grownBy w' v.ownBlock) (gives_app1 ho ht hi hz hsize hby hs hown hx hy hlen hbase fun v' w' h2 h3 => ⟨h2, h3⟩) fun v' w' h2 => hK _ _ (h v' w' h2.1 h2.2)
end
/-- What was below B is as it was, behind an append to a row from B on. -/
theorem Below.grownB {B : Nat} {a w w' : World} {gb : Option Nat} (h : Below B a w) (hg : w.grownBy w' gb) (hB : B ≤ w.heap.size) (hr : ∀ k, gb = some k → B ≤ k) : Below B a w' := Below.grown h hg hB hr
theorem Grew.grown {a w w' : World} {gb : Option Nat} (h : Grew a w) (hg : w.grownBy w' gb) (hr : ∀ k, gb = some k → a.heap.size ≤ k) : Grew a w' := Below.grown h hg h.size hr
theorem at_append_lt {xs ys : List Nat} {i : Nat} (h : i < xs.length) : at_ (xs ++ ys) i = at_ xs i := by
  unfold at_
  simp only [List.getD_eq_getElem?_getD]
  rw [List.getElem?_append_left h]
theorem at_append_last {xs : List Nat} {y : Nat} : at_ (xs ++ [y]) xs.length = fcls y := by
  unfold at_
  simp [List.getD_eq_getElem?_getD]
end Go
