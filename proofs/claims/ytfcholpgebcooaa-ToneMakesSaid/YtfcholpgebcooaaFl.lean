/- Floats up to the bits of a NaN: what Go's operations on float64 give, for the walk. -/
import Derived.WalkKit
import Derived.WalkSpells
import Derived.WalkLawsBesides
import Derived.Laws.EntriesVeiled
import Derived.Deep.Draws
namespace Go
open Go.RowKit
set_option linter.unusedSimpArgs false
set_option linter.unusedVariables false

abbrev FD : Ieee.Format := Ieee.double
/-- A float64 up to a NaN's bits: 'none' is a NaN. -/
abbrev FV := Option Nat
def W64 : Nat := 18446744073709551616
def fcls (b : Nat) : FV := if (FD.read b).isNaN then none else some (b % W64)

def fadd (x y : FV) : FV := x.bind fun a => y.bind fun b => FD.add a b
def fsub (x y : FV) : FV := x.bind fun a => y.bind fun b => FD.sub a b
def fmul (x y : FV) : FV := x.bind fun a => y.bind fun b => FD.mul a b
def fdiv (x y : FV) : FV := x.bind fun a => y.bind fun b => FD.div a b
def fsqrt (x : FV) : FV := x.bind fun a => FD.sqrt a
def ford (x y : FV) : Option Ordering := x.bind fun a => y.bind fun b => FD.order a b
def flt (x y : FV) : Bool := ford x y == some .lt
def fle (x y : FV) : Bool := ford x y == some .lt || ford x y == some .eq
def feq (x y : FV) : Bool := ford x y == some .eq

theorem double_consts : FD.signWeight = 9223372036854775808 ∧ FD.infRung = 9218868437227405312 ∧ FD.binade = 4503599627370496 := by decide +kernel

theorem read_word_notNaN (neg : Bool) {r : Nat} (h : r ≤ FD.infRung) : (FD.read (FD.word neg r)).isNaN = false := by
  obtain ⟨h1, h2, h3⟩ := double_consts
  have hr : r % FD.signWeight = r := Nat.mod_eq_of_lt (by omega)
  have hw : FD.word neg r % FD.signWeight = r := by
    unfold Ieee.Format.word
    split
    · rw [Nat.add_mod_left]; exact hr
    · exact hr
  unfold Ieee.Format.read
  simp only [hw]
  repeat' split
  all_goals first | rfl | (exfalso; omega)

theorem write_notNaN (d : Ieee.Datum) (hd : d.isNaN = false) : (FD.read (FD.write d)).isNaN = false := by
  cases d with
  | number neg mag place =>
    show (FD.read (FD.nearest neg mag place)).isNaN = false
    unfold Ieee.Format.nearest
    split
    · exact read_word_notNaN _ (Nat.zero_le _)
    · exact read_word_notNaN _ (Nat.min_le_right ..)
  | infinity neg => exact read_word_notNaN _ (Nat.le_refl _)
  | nan neg f => simp [Ieee.Datum.isNaN] at hd

theorem read_mod (b : Nat) : FD.read (b % W64) = FD.read b := by
  have h1 := double_consts.1
  have hm : b % W64 % FD.signWeight = b % FD.signWeight := by rw [h1]; unfold W64; omega
  have hd : b % W64 / FD.signWeight % 2 = b / FD.signWeight % 2 := by rw [h1]; unfold W64; omega
  unfold Ieee.Format.read
  rw [hm, hd]
theorem fcls_mod (b : Nat) : fcls (b % W64) = fcls b := by
  unfold fcls
  rw [read_mod, Nat.mod_mod]
theorem write_lt64 (d : Ieee.Datum) : FD.write d % W64 = FD.write d := Nat.mod_eq_of_lt (FD.write_lt d)
theorem fcls_write (d : Ieee.Datum) (hd : d.isNaN = false) : fcls (FD.write d) = some (FD.write d) := by
  simp [fcls, write_notNaN d hd, write_lt64]

theorem sum_notNaN {x y d : Ieee.Datum} (h : x.sum y = some d) : d.isNaN = false := by
  cases x <;> cases y <;> simp only [Ieee.Datum.sum] at h <;> (try split at h) <;> simp at h <;> subst h <;> rfl
theorem product_notNaN {x y d : Ieee.Datum} (h : x.product y = some d) : d.isNaN = false := by
  cases x <;> cases y <;> simp only [Ieee.Datum.product] at h <;> (try split at h) <;> simp at h <;> first | (subst h; rfl) | (obtain ⟨_, h⟩ := h; subst h; rfl) | skip
theorem quotient_notNaN {k : Nat} {x y d : Ieee.Datum} (h : x.quotient k y = some d) : d.isNaN = false := by
  cases x <;> cases y <;> simp only [Ieee.Datum.quotient] at h <;> (repeat' split at h) <;> simp at h <;> first | (subst h; rfl) | (obtain ⟨_, h⟩ := h; subst h; rfl) | skip
theorem root_notNaN {k : Nat} {x d : Ieee.Datum} (h : x.root k = some d) : d.isNaN = false := by
  cases x <;> simp only [Ieee.Datum.root] at h <;> (repeat' split at h) <;> simp at h <;> first | (subst h; rfl) | (obtain ⟨_, h⟩ := h; subst h; rfl) | skip
theorem opposite_isNaN (d : Ieee.Datum) : d.opposite.isNaN = d.isNaN := by cases d <;> rfl
theorem sum_nan_left {x : Ieee.Datum} (y : Ieee.Datum) (h : x.isNaN = true) : x.sum y = none := by
  cases x <;> simp [Ieee.Datum.isNaN] at h; cases y <;> rfl
theorem sum_nan_right (x : Ieee.Datum) {y : Ieee.Datum} (h : y.isNaN = true) : x.sum y = none := by
  cases y <;> simp [Ieee.Datum.isNaN] at h; cases x <;> rfl
theorem product_nan_left {x : Ieee.Datum} (y : Ieee.Datum) (h : x.isNaN = true) : x.product y = none := by
  cases x <;> simp [Ieee.Datum.isNaN] at h; cases y <;> rfl
theorem product_nan_right (x : Ieee.Datum) {y : Ieee.Datum} (h : y.isNaN = true) : x.product y = none := by
  cases y <;> simp [Ieee.Datum.isNaN] at h; cases x <;> rfl
theorem quotient_nan_left {k : Nat} {x : Ieee.Datum} (y : Ieee.Datum) (h : x.isNaN = true) : x.quotient k y = none := by
  cases x <;> simp [Ieee.Datum.isNaN] at h; cases y <;> rfl
theorem quotient_nan_right {k : Nat} (x : Ieee.Datum) {y : Ieee.Datum} (h : y.isNaN = true) : x.quotient k y = none := by
  cases y <;> simp [Ieee.Datum.isNaN] at h; cases x <;> rfl
theorem order_nan_left {x : Ieee.Datum} (y : Ieee.Datum) (h : x.isNaN = true) : x.order y = none := by
  cases x <;> simp [Ieee.Datum.isNaN] at h; cases y <;> rfl
theorem order_nan_right (x : Ieee.Datum) {y : Ieee.Datum} (h : y.isNaN = true) : x.order y = none := by
  cases y <;> simp [Ieee.Datum.isNaN] at h; cases x <;> rfl

theorem add_mod (a b : Nat) : FD.add (a % W64) (b % W64) = FD.add a b := by simp only [Ieee.Format.add, read_mod]
theorem add_cls (a b : Nat) : FD.add a b = fadd (fcls a) (fcls b) := by
  unfold fcls fadd
  cases ha : (FD.read a).isNaN <;> cases hb : (FD.read b).isNaN <;> simp [add_mod]
  · simp [Ieee.Format.add, sum_nan_right _ hb]
  · simp [Ieee.Format.add, sum_nan_left _ ha]
  · simp [Ieee.Format.add, sum_nan_left _ ha]
theorem sub_mod (a b : Nat) : FD.sub (a % W64) (b % W64) = FD.sub a b := by simp only [Ieee.Format.sub, read_mod]
theorem sub_cls (a b : Nat) : FD.sub a b = fsub (fcls a) (fcls b) := by
  unfold fcls fsub
  cases ha : (FD.read a).isNaN <;> cases hb : (FD.read b).isNaN <;> simp [sub_mod]
  · simp [Ieee.Format.sub, sum_nan_right _ ((opposite_isNaN _).trans hb)]
  · simp [Ieee.Format.sub, sum_nan_left _ ha]
  · simp [Ieee.Format.sub, sum_nan_left _ ha]
theorem mul_mod (a b : Nat) : FD.mul (a % W64) (b % W64) = FD.mul a b := by simp only [Ieee.Format.mul, read_mod]
theorem mul_cls (a b : Nat) : FD.mul a b = fmul (fcls a) (fcls b) := by
  unfold fcls fmul
  cases ha : (FD.read a).isNaN <;> cases hb : (FD.read b).isNaN <;> simp [mul_mod]
  · simp [Ieee.Format.mul, product_nan_right _ hb]
  · simp [Ieee.Format.mul, product_nan_left _ ha]
  · simp [Ieee.Format.mul, product_nan_left _ ha]
theorem div_mod (a b : Nat) : FD.div (a % W64) (b % W64) = FD.div a b := by simp only [Ieee.Format.div, read_mod]
theorem div_cls (a b : Nat) : FD.div a b = fdiv (fcls a) (fcls b) := by
  unfold fcls fdiv
  cases ha : (FD.read a).isNaN <;> cases hb : (FD.read b).isNaN <;> simp [div_mod]
  · simp [Ieee.Format.div, quotient_nan_right _ hb]
  · simp [Ieee.Format.div, quotient_nan_left _ ha]
  · simp [Ieee.Format.div, quotient_nan_left _ ha]
theorem sqrt_mod (a : Nat) : FD.sqrt (a % W64) = FD.sqrt a := by simp only [Ieee.Format.sqrt, read_mod]
theorem sqrt_cls (a : Nat) : FD.sqrt a = fsqrt (fcls a) := by
  unfold fcls fsqrt
  cases ha : (FD.read a).isNaN <;> simp [sqrt_mod]
  cases h : FD.read a <;> simp [h, Ieee.Datum.isNaN] at ha
  simp [Ieee.Format.sqrt, h, Ieee.Datum.root]
theorem order_mod (a b : Nat) : FD.order (a % W64) (b % W64) = FD.order a b := by simp only [Ieee.Format.order, read_mod]
theorem order_cls (a b : Nat) : FD.order a b = ford (fcls a) (fcls b) := by
  unfold fcls ford
  cases ha : (FD.read a).isNaN <;> cases hb : (FD.read b).isNaN <;> simp [order_mod]
  · simp [Ieee.Format.order, order_nan_right _ hb]
  · simp [Ieee.Format.order, order_nan_left _ ha]
  · simp [Ieee.Format.order, order_nan_left _ ha]

theorem map_write_cls {o : Option Ieee.Datum} (h : ∀ d, o = some d → d.isNaN = false) {r : Nat} (hr : o.map FD.write = some r) : fcls r = some r := by
  cases o with
  | none => cases hr
  | some d => cases hr; exact fcls_write d (h d rfl)

/-- One of the four float operations, up to a NaN's bits. -/
def fop : BinOp → FV → FV → FV
  | .add => fadd | .sub => fsub | .mul => fmul | .quo => fdiv
  | _ => fun _ _ => none
def isFop : BinOp → Bool
  | .add | .sub | .mul | .quo => true
  | _ => false

theorem fres_cls {op : BinOp} (ho : isFop op = true) {a b r : Nat} (h : floatBits op .f64 a b = some r) : fcls r = fop op (fcls a) (fcls b) := by
  cases op <;> simp [isFop] at ho <;> simp only [fop, floatBits] at h ⊢
  · rw [← add_cls]; exact (map_write_cls (fun _ => sum_notNaN) h).trans h.symm
  · rw [← sub_cls]; exact (map_write_cls (fun _ => sum_notNaN) h).trans h.symm
  · rw [← mul_cls]; exact (map_write_cls (fun _ => product_notNaN) h).trans h.symm
  · rw [← div_cls]; exact (map_write_cls (fun _ => quotient_notNaN) h).trans h.symm

theorem fop_none {op : BinOp} (ho : isFop op = true) {a b : Nat} (h : floatBits op .f64 a b = none) : fop op (fcls a) (fcls b) = none := by
  cases op <;> simp [isFop] at ho <;> simp only [fop, floatBits] at h ⊢
  · rw [← add_cls]; exact h
  · rw [← sub_cls]; exact h
  · rw [← mul_cls]; exact h
  · rw [← div_cls]; exact h

/-- A NaN that the tape gives is a NaN. -/
theorem nan_of_range {n : Nat} (h1 : 9218868437227405312 < n % 9223372036854775808) : fcls n = none := by
  obtain ⟨c1, c2, c3⟩ := double_consts
  have h2 : n % 9223372036854775808 < 9223372036854775808 := Nat.mod_lt _ (by omega)
  have h : (FD.read n).isNaN = true := by
    unfold Ieee.Format.read
    dsimp only
    rw [c1, if_neg (by omega), if_neg (by omega), if_neg (by omega)]
    rfl
  simp [fcls, h]
theorem cut_nan {q : Question} (hq : (∃ x y, q = .nanBits .f64 x y) ∨ (∃ b x y, q = .nanMinMax .f64 b x y)) (t : Nat) : fcls (q.cut t) = none := by
  apply nan_of_range
  have h3 : t / 2 % (2 ^ 52 - 1) < 2 ^ 52 - 1 := Nat.mod_lt _ (by decide)
  have h4 : t % 2 < 2 := Nat.mod_lt _ (by decide)
  rcases hq with ⟨x, y, rfl⟩ | ⟨b, x, y, rfl⟩ <;>
  · simp only [Question.cut]
    rcases (show t % 2 = 0 ∨ t % 2 = 1 by omega) with h | h <;> rw [h] <;> omega

section
variable {P : Program} (w : World)
/-- '+', '-', '*', '/' on float64: some bits of the class, and perhaps a draw. -/
theorem run_fop (op : BinOp) (t : TypeId) (a b : Nat) (ho : isFop op = true) :
    ∃ r n, (binOp op t (.float .f64 a) (.float .f64 b)).run P w = .ok (.float .f64 r) (w.drewN n) ∧ fcls r = fop op (fcls a) (fcls b) := by
  cases h : floatBits op .f64 a b with
  | some r => exact ⟨r, 0, run_float_arith w op t .f64 a b r h, fres_cls ho h⟩
  | none =>
    refine ⟨(Question.nanBits .f64 a b).cut (w.tape w.drawn (.nanBits .f64 a b)), 1, ?_, (cut_nan (.inl ⟨_, _, rfl⟩) _).trans (fop_none ho h).symm⟩
    cases op <;> simp [isFop] at ho <;> simp only [floatBits] at h <;> simp [binOp, Op.floatArith, h, choose, Sem.run, Question.forced, World.drewN]
end

theorem wpList_fop {P : Program} {ops : Array Oper} {Q : Exit → Act → World → Prop} {rest : List Oper} {a : Act} {w : World} {o : Oper} {op : BinOp} {t t' : TypeId} {x y : Operand} {bx by' : Nat}
    (hg : o.guard = none) (hop : o.op = .binOp op t x y t') (hx : a.eval x = .float .f64 bx) (hy : a.eval y = .float .f64 by') (ho : isFop op = true)
    (h : ∀ r n, fcls r = fop op (fcls bx) (fcls by') → wpList P ops Q rest (a.put o.dst (.float .f64 r)) (w.drewN n)) : wpList P ops Q (o :: rest) a w := by
  refine wpList_plain hg fun K hK => ?_
  obtain ⟨r, n, hr, hc⟩ := run_fop (P := P) w op t bx by' ho
  unfold Oper.wp
  have : (execOp a.eval o).run P w = .ok (.value (.float .f64 r)) (w.drewN n) := by
    have hgd : eqGuard op t x y (.float .f64 bx) (.float .f64 by') = pure () := by cases op <;> simp [isFop] at ho <;> rfl
    unfold execOp
    simp only [hop, hx, hy, hgd]
    simp [hr]
  rw [this]
  exact hK _ _ (h r n hc)

@[simp, go_sem] theorem lss_cls (a b : Nat) : ((FloatKind.format .f64).order a b == some .lt) = flt (fcls a) (fcls b) := by
  rw [flt, ← order_cls]; rfl
@[simp, go_sem] theorem eql_cls (a b : Nat) : ((FloatKind.format .f64).order a b == some .eq) = feq (fcls a) (fcls b) := by
  rw [feq, ← order_cls]; rfl
theorem compare_swap' (x y : Int) : (compare x y).swap = compare y x := by
  rw [← Std.OrientedCmp.eq_swap (cmp := compare)]
theorem order_swap (x y : Ieee.Datum) : (x.order y).map Ordering.swap = y.order x := by
  rcases x with ⟨s, m, i⟩ | s | ⟨s, f⟩ <;> rcases y with ⟨t, n, j⟩ | t | ⟨t, g⟩ <;> simp only [Ieee.Datum.order, Option.map]
  · rw [Int.min_comm]; exact congrArg some (compare_swap' _ _)
  · cases t <;> rfl
  · cases s <;> rfl
  · cases s <;> cases t <;> rfl
theorem gtr_lss (a b : Nat) : (FD.order a b == some .gt) = (FD.order b a == some .lt) := by
  unfold Ieee.Format.order
  rw [← order_swap (FD.read a) (FD.read b)]
  cases (FD.read a).order (FD.read b) with
  | none => rfl
  | some o => cases o <;> rfl
@[simp, go_sem] theorem gtr_cls (a b : Nat) : ((FloatKind.format .f64).order a b == some .gt) = flt (fcls b) (fcls a) := by
  rw [flt, ← order_cls]; exact gtr_lss a b
theorem feq_comm (x y : FV) : feq x y = feq y x := by
  cases x <;> cases y <;> simp [feq, ford]
  rename_i a b
  unfold Ieee.Format.order
  rw [← order_swap (FD.read a) (FD.read b)]
  cases (FD.read a).order (FD.read b) with
  | none => rfl
  | some o => cases o <;> rfl
@[simp, go_sem] theorem leq_cls (a b : Nat) : (flt (fcls a) (fcls b) || feq (fcls a) (fcls b)) = fle (fcls a) (fcls b) := rfl
@[simp, go_sem] theorem geq_cls (a b : Nat) : (flt (fcls b) (fcls a) || feq (fcls a) (fcls b)) = fle (fcls b) (fcls a) := by
  rw [feq_comm]; rfl
@[simp, go_sem] theorem neq_cls (a b : Nat) : ((FloatKind.format .f64).order a b != some .eq) = !feq (fcls a) (fcls b) := by
  rw [← eql_cls]; rfl
theorem fle_def (x y : FV) : fle x y = (flt x y || feq x y) := rfl

section
variable {P : Program} {w : World} {a : Addr} {m : Mode}
@[go_sem] theorem run_store_float (k : FloatKind) (n : Nat) : (store a (.float k n) m).run P w = stored P w a (.float k n) m := run_store P w a _ m rfl
@[go_sem] theorem World.alloc_drewN (n : Nat) (o : Obj) : (w.drewN n).alloc o = (w.alloc o).drewN n := rfl
@[go_sem] theorem World.setCell_drewN (n : Nat) (a : Addr) (v : Value) : (w.drewN n).setCell a v = (w.setCell a v).drewN n := rfl
@[go_sem] theorem World.shape?_drewN (n r : Nat) : (w.drewN n).shape? r = w.shape? r := rfl
end
end Go
