/- Floats: which bits are a NaN; the one NaN; the four operations up to that; what commutes. -/
import Derived.Laws.FloatArith
import Derived.WalkLawsBesides
import Derived.WalkKit
namespace Go.Proofs.Ytgodncdhkmpfaaa
open Go Go.RowKit

@[go_sem] theorem run_store_float (P : Program) (w : World) (a : Addr) (m : Mode) (k : FloatKind) (f : Nat) : (store a (.float k f) m).run P w = stored P w a (.float k f) m := run_store P w a _ m rfl

def nanW : Nat := 9221120237041090561
/-- a NaN, as Go's f != f tells -/
def isNaN (f : Nat) : Bool := FloatKind.f64.format.order f f != some .eq
def canon (f : Nat) : Nat := if isNaN f = true then nanW else f

theorem order_self (d : Ieee.Datum) : Ieee.Datum.order d d = if d.isNaN = true then none else some .eq := by
  cases d with
  | number s m i => simp [Ieee.Datum.order, Ieee.Datum.isNaN]
  | infinity s => cases s <;> simp [Ieee.Datum.order, Ieee.Datum.isNaN]
  | nan s t => simp [Ieee.Datum.order, Ieee.Datum.isNaN]
theorem isNaN_read (f : Nat) : isNaN f = (FloatKind.f64.format.read f).isNaN := by
  unfold isNaN
  show (Ieee.Datum.order _ _ != some .eq) = _
  rw [order_self]
  cases (FloatKind.f64.format.read f).isNaN <;> rfl
theorem isNaN_nanW : isNaN nanW = true := by unfold isNaN nanW; decide +kernel
theorem canon_nan {f : Nat} (h : isNaN f = true) : canon f = nanW := if_pos h
theorem canon_not {f : Nat} (h : isNaN f = false) : canon f = f := if_neg (by rw [h]; decide)
theorem canon_canon (f : Nat) : canon (canon f) = canon f := by
  cases h : isNaN f with
  | true => rw [canon_nan h, canon_nan isNaN_nanW]
  | false => rw [canon_not h, canon_not h]
theorem isNaN_canon (f : Nat) : isNaN (canon f) = isNaN f := by
  cases h : isNaN f with
  | true => rw [canon_nan h, isNaN_nanW]
  | false => rw [canon_not h, h]

/-- an operation's result, any NaN the one -/
def fop (op : BinOp) (x y : Nat) : Nat := match floatBits op .f64 x y with | some r => canon r | none => nanW
/-- the NaN that the tape gives -/
def drawnNaN (w : World) (x y : Nat) : Nat := (Question.nanBits .f64 x y).cut (w.tape w.drawn (.nanBits .f64 x y))
theorem drawn_isNaN (w : World) (x y : Nat) : isNaN (drawnNaN w x y) = true := by
  unfold drawnNaN
  generalize w.tape w.drawn (.nanBits .f64 x y) = t
  rw [isNaN_read]
  have hs : (t / 2) % (2 ^ 52 - 1) < 2 ^ 52 - 1 := Nat.mod_lt _ (by decide)
  have h2 : t % 2 < 2 := Nat.mod_lt _ (by decide)
  generalize hr : (t / 2) % (2 ^ 52 - 1) = r at hs
  generalize hq : t % 2 = q at h2
  have e : (Question.nanBits .f64 x y).cut t = q * 9223372036854775808 + 9218868437227405312 + 1 + r := by
    simp only [Question.cut, hr, hq]
  rw [e]
  have hm : (q * 9223372036854775808 + 9218868437227405312 + 1 + r) % 9223372036854775808 = 9218868437227405313 + r := by
    have : r < 4503599627370495 := hs
    omega
  have hsw : Ieee.Format.signWeight FloatKind.f64.format = 9223372036854775808 := by decide
  have hb : Ieee.Format.binade FloatKind.f64.format = 4503599627370496 := by decide
  have hi : Ieee.Format.infRung FloatKind.f64.format = 9218868437227405312 := by decide
  unfold Ieee.Format.read
  simp only [hsw, hb, hi, hm]
  rw [if_neg (by omega), if_neg (by omega), if_neg (by omega)]
  rfl

section
variable {P : Program}
theorem run_float_nan (w : World) (op : BinOp) (t : TypeId) (x y : Nat) (ho : op = .add ∨ op = .sub ∨ op = .mul ∨ op = .quo) (h : floatBits op .f64 x y = none) :
    (binOp op t (.float .f64 x) (.float .f64 y)).run P w = .ok (.float .f64 (drawnNaN w x y)) w.drew := by
  unfold floatBits at h
  rcases ho with rfl | rfl | rfl | rfl <;> simp only at h <;> simp [binOp, Op.floatArith, h, drawnNaN, Question.forced]
end

theorem sum_comm (a b : Ieee.Datum) : a.sum b = b.sum a := by
  cases a <;> cases b <;> simp only [Ieee.Datum.sum]
  case number.number s m i t n j =>
    have e : min i j = min j i := Int.min_comm i j
    simp only [e]
    congr 1
    congr 1
    · have : Ieee.signed s m (i - min j i).toNat + Ieee.signed t n (j - min j i).toNat = Ieee.signed t n (j - min j i).toNat + Ieee.signed s m (i - min j i).toNat := Int.add_comm _ _
      rw [this, Bool.and_comm]
    · rw [Int.add_comm]
  case infinity.infinity s t =>
    cases s <;> cases t <;> simp
theorem product_comm (a b : Ieee.Datum) : a.product b = b.product a := by
  cases a <;> cases b <;> simp only [Ieee.Datum.product]
  case number.number s m i t n j => rw [Bool.xor_comm, Nat.mul_comm, Int.add_comm]
  case infinity.infinity s t => rw [Bool.xor_comm]
  all_goals simp [Bool.xor_comm]
theorem fop_add_comm (x y : Nat) : fop .add x y = fop .add y x := by
  unfold fop floatBits Ieee.Format.add
  simp only [sum_comm (FloatKind.f64.format.read x)]
theorem fop_mul_comm (x y : Nat) : fop .mul x y = fop .mul y x := by
  unfold fop floatBits Ieee.Format.mul
  simp only [product_comm (FloatKind.f64.format.read x)]
theorem sum_nan {a b : Ieee.Datum} (h : b.isNaN = true) : a.sum b = none := by
  cases b <;> simp [Ieee.Datum.isNaN] at h
  cases a <;> rfl
theorem product_nan {a b : Ieee.Datum} (h : b.isNaN = true) : a.product b = none := by
  cases b <;> simp [Ieee.Datum.isNaN] at h
  cases a <;> rfl
theorem fop_add_canon (x y : Nat) : fop .add x (canon y) = fop .add x y := by
  cases h : isNaN y with
  | false => rw [canon_not h]
  | true =>
    rw [canon_nan h]
    have h1 := h
    have h2 := isNaN_nanW
    rw [isNaN_read] at h1 h2
    unfold fop floatBits Ieee.Format.add
    simp only [sum_nan h1, sum_nan h2]
theorem fop_mul_canon (x y : Nat) : fop .mul x (canon y) = fop .mul x y := by
  cases h : isNaN y with
  | false => rw [canon_not h]
  | true =>
    rw [canon_nan h]
    have h1 := h
    have h2 := isNaN_nanW
    rw [isNaN_read] at h1 h2
    unfold fop floatBits Ieee.Format.mul
    simp only [product_nan h1, product_nan h2]
end Go.Proofs.Ytgodncdhkmpfaaa
