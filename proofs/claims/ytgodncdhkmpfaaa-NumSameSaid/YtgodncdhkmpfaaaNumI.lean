/- The laws over plain numbers. -/
import Derived.Test.YtgodncdhkmpfaaaNumH
namespace Go.Proofs.Ytgodncdhkmpfaaa
open Go.RowKit
set_option linter.unusedVariables false
set_option linter.unusedSimpArgs false
attribute [local go_sem] stepR givesR fillE Ext.refl

theorem order_eq_not {f : Nat} (h : isNaN f = false) : (FloatKind.f64.format.order f f == some .eq) = true := by
  unfold isNaN at h
  simpa using h
theorem numBits_law (f : Nat) (hf : (Lit.float .f64 f).wf = true) (w : World) : Calls Try.prog 3 #[.float .f64 f] w (Ret (.bool true) w) := by
  cases h : isNaN f with
  | true =>
    have hc := canon_nan h
    have hn : (FloatKind.f64.format.order nanW nanW != some .eq) = true := isNaN_nanW
    have hcc : canon nanW = nanW := canon_nan isNaN_nanW
    have hq : ((9221120237041090561 : Int) == 9221120237041090561) = true := by decide
    unfold isNaN at h
    go_enter Try.func3, Try.ntmps3
    go_wp2_with fail
    refine (known_any _).mono ?_
    rintro e w1 ⟨rfl, h1⟩
    go_wp2_with fail
    refine (bits_any _ _).mono ?_
    rintro e w2 ⟨rfl, h2⟩
    rw [hc]
    go_wp2_with fail
    refine (canon_any _ _).mono ?_
    rintro e w3 ⟨rfl, h3⟩
    rw [hc]
    have hx := (h1.trans h2).trans h3
    clear h1 h2 h3
    unfold nanW at *
    go_wp2_with fail
    refine (bits_any _ _).mono ?_
    rintro e w4 ⟨rfl, h4⟩
    rw [hcc]
    have hx := hx.trans h4
    go_wp2
    go_ret
    exact ⟨rfl, hx⟩
  | false =>
    have hc := canon_not h
    have ho := order_eq_not h
    unfold isNaN at h
    go_enter Try.func3, Try.ntmps3
    go_wp2_with fail
    refine (known_any _).mono ?_
    rintro e w1 ⟨rfl, h1⟩
    go_wp2_with fail
    refine (bits_any _ _).mono ?_
    rintro e w2 ⟨rfl, h2⟩
    rw [hc]
    go_wp2_with fail
    refine (canon_any _ _).mono ?_
    rintro e w3 ⟨rfl, h3⟩
    rw [hc]
    have hx := (h1.trans h2).trans h3
    clear h1 h2 h3
    go_wp2_with fail
    refine (rbits_any _ _).mono ?_
    rintro e w4 ⟨rfl, h4⟩
    rw [hc]
    replace hx := hx.trans h4
    go_wp2_with fail
    refine (bits_any _ _).mono ?_
    rintro e w5 ⟨rfl, h5⟩
    rw [hc]
    replace hx := hx.trans h5
    go_wp2
    go_ret
    exact ⟨rfl, hx⟩
end Go.Proofs.Ytgodncdhkmpfaaa
