/- The small functions over numbers: what each call comes to. -/
import Derived.Test.YtgodncdhkmpfaaaProg
import Derived.Test.YtgodncdhkmpfaaaRel
import Derived.Test.YtgodncdhkmpfaaaFlt
import Derived.WalkKit
import Derived.Lib.Hide
import Derived.WalkSpells
import Derived.WalkLawsBesides
import Derived.Handy
namespace Go.Proofs.Ytgodncdhkmpfaaa
open Go.RowKit
set_option linter.unusedVariables false
set_option linter.unusedSimpArgs false

/-- one value, in a world that is the old one with new blocks -/
def Ret (v : Value) (w : World) (e : Ending) (w' : World) : Prop := e = .returned v ∧ Ext w w'

theorem run_frombits (n : Int) (w : World) : (callFunc 34 #[.int .u64 n]).run Try.prog w = .ok (.value (.float .f64 n.toNat)) w := by kernel_rfl
theorem run_bits (f : Nat) (w : World) : (callFunc 33 #[.float .f64 f]).run Try.prog w = .ok (.value (.int .u64 f)) w := by kernel_rfl

theorem frombits_nan (w : World) : (callFunc 34 #[.int .u64 9221120237041090561]).run Try.prog w = .ok (.value (.float .f64 nanW)) w := run_frombits 9221120237041090561 w

theorem canon_any (f : Nat) (w : World) : Calls Try.prog 12 #[.float .f64 f] w (Ret (.float .f64 (canon f)) w) := by
  have kn := frombits_nan
  cases h : isNaN f with
  | true =>
    rw [canon_nan h]
    unfold isNaN at h
    go_enter Try.func12, Try.ntmps12
    go_wp2
    go_ret
    exact ⟨rfl, Ext.refl _⟩
  | false =>
    rw [canon_not h]
    unfold isNaN at h
    go_enter Try.func12, Try.ntmps12
    go_wp2
    go_ret
    exact ⟨rfl, Ext.refl _⟩
theorem rcanon_any (f : Nat) (w : World) : Calls Try.prog 35 #[.float .f64 f] w (Ret (.float .f64 (canon f)) w) := by
  have kn := frombits_nan
  cases h : isNaN f with
  | true =>
    rw [canon_nan h]
    unfold isNaN at h
    go_enter Try.func35, Try.ntmps35
    go_wp2
    go_ret
    exact ⟨rfl, Ext.refl _⟩
  | false =>
    rw [canon_not h]
    unfold isNaN at h
    go_enter Try.func35, Try.ntmps35
    go_wp2
    go_ret
    exact ⟨rfl, Ext.refl _⟩
theorem rbits_any (f : Nat) (w : World) : Calls Try.prog 13 #[.float .f64 f] w (Ret (.int .u64 (canon f)) w) := by
  have kb := run_bits
  go_enter Try.func13, Try.ntmps13
  go_wp2_with (go_at_call 35; refine (rcanon_any f w).mono ?_; rintro e w' ⟨rfl, h1⟩)
  go_ret
  exact ⟨rfl, h1⟩
theorem bits_any (f : Nat) (w : World) : Calls Try.prog 11 #[.float .f64 f] w (Ret (.int .u64 (canon f)) w) := by
  have kb := run_bits
  go_enter Try.func11, Try.ntmps11
  go_wp2_with (go_at_call 12; refine (canon_any f w).mono ?_; rintro e w' ⟨rfl, h1⟩)
  go_ret
  exact ⟨rfl, h1⟩

theorem rint_any (n : Int) (w : World) : Calls Try.prog 25 #[.int .i64 n] w (Ret (.agg #[.int .i64 1, .int .i64 n, .float .f64 0, .string ⟨#[]⟩, .slice none 0 0]) w) := by
  go_enter Try.func25, Try.ntmps25
  go_wp2
  go_returns
  exact ⟨rfl, (Ext.refl _).alloc _⟩
theorem is_any (k i : Int) (f : Nat) (s : ByteArray) (L : Value) (w : World) : Calls Try.prog 52 #[(.agg #[.int .i64 k, .int .i64 i, .float .f64 f, .string s, L])] w (Ret (.bool (k == 1 || k == 2)) w) := by
  go_enter Try.func52, Try.ntmps52
  go_wp2
  all_goals
    go_ret
    exact ⟨by simp [*], (Ext.refl _).alloc _⟩
end Go.Proofs.Ytgodncdhkmpfaaa
