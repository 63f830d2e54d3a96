/- What is finite, told twice. -/
import Derived.Test.YtgodncdhkmpfaaaFlt
import Derived.Laws.Cover3
namespace Go.Proofs.Ytgodncdhkmpfaaa
open Go Go.RowKit
set_option linter.unusedSimpArgs false
set_option linter.unusedVariables false
theorem abs_bits (f : Nat) (h : f < 18446744073709551616) : (bits BinOp.andNot IntKind.u64 (↑f) 9223372036854775808).toNat = f % 9223372036854775808 := by
  have e : bits BinOp.andNot IntKind.u64 (f : Int) 9223372036854775808 = IntKind.u64.wrap ((BitVec.ofInt 64 (f : Int) &&& ~~~(BitVec.ofInt 64 9223372036854775808)).toNat : Int) := rfl
  rw [e]
  have e2 : (~~~(BitVec.ofInt 64 9223372036854775808)) = BitVec.ofNat 64 (2 ^ 63 - 1) := by decide
  rw [e2, BitVec.ofInt_natCast, BitVec.toNat_and, BitVec.toNat_ofNat, BitVec.toNat_ofNat]
  rw [Nat.mod_eq_of_lt (a := 2 ^ 63 - 1) (by decide), Nat.and_two_pow_sub_one_eq_mod]
  rw [Nat.mod_eq_of_lt (a := f) (by omega)]
  have := Nat.mod_lt f (y := 2 ^ 63) (by decide)
  have e3 : IntKind.u64.wrap ((f % 2 ^ 63 : Nat) : Int) = ((f % 2 ^ 63 : Nat) : Int) := by
    rw [IntKind.wrap_u64]
    omega
  rw [e3]
  show (((f % 2 ^ 63 : Nat) : Int)).toNat = f % 2 ^ 63
  exact Int.toNat_natCast _
def fin (f : Nat) : Bool := match floatBits .sub .f64 f f with | some r => FloatKind.f64.format.order r 0 == some .eq | none => false
def isNum (f : Nat) : Bool := match FloatKind.f64.format.read f with | .number .. => true | _ => false
def isInfV (f : Nat) : Bool := FloatKind.f64.format.order (f % 9223372036854775808) 9218868437227405311 == some .gt
theorem signed_zero (s : Bool) (m n : Nat) : Ieee.signed s m n + Ieee.signed (!s) m n = 0 := by
  cases s <;> simp only [Ieee.signed] <;> simp <;> omega
theorem fin_num (f : Nat) : fin f = isNum f := by
  unfold fin isNum floatBits Ieee.Format.sub
  cases h : FloatKind.f64.format.read f with
  | number s m i =>
    simp only [Ieee.Datum.opposite, Ieee.Datum.sum, signed_zero, if_true, Bool.and_not_self, Option.map_some]
    have e : FloatKind.f64.format.write (.number false (Int.natAbs 0) (min i i)) = 0 := by
      show FloatKind.f64.format.nearest false 0 _ = 0
      unfold Ieee.Format.nearest
      rfl
    rw [e]
    decide +kernel
  | infinity s => cases s <;> simp [Ieee.Datum.opposite, Ieee.Datum.sum]
  | nan s t => simp [Ieee.Datum.opposite, Ieee.Datum.sum]
theorem read_max : FloatKind.f64.format.read 9218868437227405311 = .number false 9007199254740991 971 := by decide +kernel
theorem order_max (m : Nat) (i : Int) (hm : m ≤ 9007199254740991) (hi : i ≤ 971) : (Ieee.Datum.order (.number false m i) (.number false 9007199254740991 971) == some .gt) = false := by
  have e : min i (971 : Int) = i := Int.min_eq_left hi
  simp only [Ieee.Datum.order, e, Ieee.signed]
  have h1 : (i - i).toNat = 0 := by omega
  rw [h1, Nat.shiftLeft_zero]
  have h2 : m ≤ 9007199254740991 <<< (971 - i).toNat := by
    rw [Nat.shiftLeft_eq]
    exact Nat.le_trans hm (Nat.le_mul_of_pos_right _ (Nat.two_pow_pos _))
  have h3 : (compare (m : Int) ((9007199254740991 <<< (971 - i).toNat : Nat) : Int)) ≠ .gt := by
    show compareOfLessAndEq (m : Int) _ ≠ .gt
    unfold compareOfLessAndEq
    by_cases g1 : (m : Int) < ((9007199254740991 <<< (971 - i).toNat : Nat) : Int)
    · rw [if_pos g1]; decide
    · rw [if_neg g1, if_pos (by omega)]; decide
  simpa using h3
theorem fin_eq (f : Nat) : (!isNaN f && !isInfV f) = fin f := by
  rw [fin_num, isNaN_read]
  unfold isInfV isNum Ieee.Format.order
  rw [read_max]
  have hr : f % 9223372036854775808 < 9223372036854775808 := Nat.mod_lt _ (by decide)
  have hsw : Ieee.Format.signWeight FloatKind.f64.format = 9223372036854775808 := by decide
  have hb : Ieee.Format.binade FloatKind.f64.format = 4503599627370496 := by decide
  have hi : Ieee.Format.infRung FloatKind.f64.format = 9218868437227405312 := by decide
  have hl : Ieee.Format.leastPlace FloatKind.f64.format = -1074 := by decide
  have hmm : f % 9223372036854775808 % 9223372036854775808 = f % 9223372036854775808 := Nat.mod_mod _ _
  have hd : (f % 9223372036854775808 / 9223372036854775808 % 2 == 1) = false := by
    rw [Nat.div_eq_of_lt hr]
    rfl
  unfold Ieee.Format.read
  simp only [hsw, hb, hi, hl, hmm, hd]
  generalize f % 9223372036854775808 = r at *
  generalize (f / 9223372036854775808 % 2 == 1) = s
  by_cases h1 : r < 4503599627370496
  · simp only [if_pos h1, Ieee.Datum.isNaN]
    rw [order_max r (-1074) (by omega) (by omega)]
    rfl
  · by_cases h2 : r < 9218868437227405312
    · simp only [if_neg h1, if_pos h2, Ieee.Datum.isNaN]
      rw [order_max _ _ (by omega) (by omega)]
      rfl
    · by_cases h3 : r = 9218868437227405312
      · simp only [if_neg h1, if_neg h2, if_pos h3, Ieee.Datum.isNaN]
        simp [Ieee.Datum.order]
      · simp only [if_neg h1, if_neg h2, if_neg h3, Ieee.Datum.isNaN]
        rfl
end Go.Proofs.Ytgodncdhkmpfaaa
