/- Signs; what is finite. -/
import Derived.Test.YtgodncdhkmpfaaaNumF
import Derived.Test.YtgodncdhkmpfaaaFin
namespace Go.Proofs.Ytgodncdhkmpfaaa
open Go.RowKit
set_option linter.unusedVariables false
set_option linter.unusedSimpArgs false
attribute [local go_sem] stepR givesR fillE Ext.refl

def signV (k i : Int) (f : Nat) : Int :=
  if ((k == 1 && decide (i < 0)) || (k == 2 && (FloatKind.f64.format.order f 0 == some .lt))) = true then -1
  else if ((k == 1 && decide (0 < i)) || (k == 2 && (FloatKind.f64.format.order f 0 == some .gt))) = true then 1 else 0

theorem sign_any (k i : Int) (f : Nat) (s : ByteArray) (L : Value) (w : World) : Calls Try.prog 18 #[(.agg #[.int .i64 k, .int .i64 i, .float .f64 f, .string s, L])] w (Ret (.int .i64 (signV k i f)) w) := by
  cases h1 : (k == 1) with
  | true =>
    have h2 : (k == 2) = false := by simp at h1; subst h1; rfl
    go_enter Try.func18, Try.ntmps18
    go_wp2
    all_goals
      go_ret
      exact ⟨by simp_all [signV] <;> omega, (Ext.refl _).alloc _⟩
  | false =>
    cases h2 : (k == 2) with
    | true =>
      go_enter Try.func18, Try.ntmps18
      go_wp2
      all_goals
        go_ret
        exact ⟨by simp_all [signV], (Ext.refl _).alloc _⟩
    | false =>
      go_enter Try.func18, Try.ntmps18
      go_wp2
      all_goals
        go_ret
        exact ⟨by simp_all [signV], (Ext.refl _).alloc _⟩
theorem rsign_any (k i : Int) (f : Nat) (s : ByteArray) (L : Value) (w : World) : Calls Try.prog 19 #[(.agg #[.int .i64 k, .int .i64 i, .float .f64 f, .string s, L])] w (Ret (.int .i64 (signV k i f)) w) := by
  cases h1 : (k == 1) with
  | true =>
    have h2 : (k == 2) = false := by simp at h1; subst h1; rfl
    go_enter Try.func19, Try.ntmps19
    go_wp2
    all_goals
      go_ret
      exact ⟨by simp_all [signV] <;> omega, (Ext.refl _).alloc _⟩
  | false =>
    cases h2 : (k == 2) with
    | true =>
      go_enter Try.func19, Try.ntmps19
      go_wp2
      all_goals
        go_ret
        exact ⟨by simp_all [signV], (Ext.refl _).alloc _⟩
    | false =>
      go_enter Try.func19, Try.ntmps19
      go_wp2
      all_goals
        go_ret
        exact ⟨by simp_all [signV], (Ext.refl _).alloc _⟩
theorem isnan_any (f : Nat) (w : World) : Calls Try.prog 36 #[.float .f64 f] w (Ret (.bool (isNaN f)) w) := by
  go_enter Try.func36, Try.ntmps36
  go_wp2
  go_ret
  exact ⟨rfl, Ext.refl _⟩
theorem abs_any (f : Nat) (hf : f < 18446744073709551616) (w : World) : Calls Try.prog 51 #[.float .f64 f] w (Ret (.float .f64 (f % 9223372036854775808)) w) := by
  have kb := run_bits
  have kf := run_frombits
  have ha := abs_bits f hf
  go_enter Try.func51, Try.ntmps51
  go_wp2
  go_ret
  exact ⟨by rw [← ha]; rfl, Ext.refl _⟩
theorem isinf_any (f : Nat) (hf : f < 18446744073709551616) (w : World) : Calls Try.prog 37 #[.float .f64 f, .int .i64 0] w (Ret (.bool (isInfV f)) w) := by
  go_enter Try.func37, Try.ntmps37
  go_wp2_with (go_at_call 51; refine (abs_any _ hf _).mono ?_; rintro e w' ⟨rfl, h1⟩)
  go_ret
  exact ⟨rfl, h1⟩
def finV (k : Int) (f : Nat) : Bool := k == 1 || (k == 2 && fin f)
theorem finite_any (k i : Int) (f : Nat) (hf : f < 18446744073709551616) (s : ByteArray) (L : Value) (w : World) : Calls Try.prog 20 #[(.agg #[.int .i64 k, .int .i64 i, .float .f64 f, .string s, L])] w (Ret (.bool (finV k f)) w) := by
  have hfe := fin_eq f
  cases h1 : (k == 1) with
  | true =>
    go_enter Try.func20, Try.ntmps20
    go_wp2
    go_ret
    exact ⟨by unfold finV; rw [h1]; rfl, (Ext.refl _).alloc _⟩
  | false =>
    cases h2 : (k == 2) with
    | false =>
      go_enter Try.func20, Try.ntmps20
      go_wp2
      go_ret
      exact ⟨by unfold finV; rw [h1, h2]; rfl, (Ext.refl _).alloc _⟩
    | true =>
      have V0 := VAt.new w k i f s L
      have hw0 := x1 w (.cells #[.int .i64 k, .int .i64 i, .float .f64 f, .string s, L] 31)
      cases h3 : isNaN f with
      | true =>
        rw [h3] at hfe
        have e : finV k f = false := by unfold finV; rw [h1, h2, ← hfe]; rfl
        rw [e]
        clear e hfe
        go_enter Try.func20, Try.ntmps20
        go_wp2_with fail
        refine (isnan_any _ _).mono ?_
        rintro e w' ⟨rfl, hx⟩
        rw [h3]
        go_wp2
        go_ret
        exact ⟨rfl, hw0.trans hx⟩
      | false =>
        rw [h3] at hfe
        have e : finV k f = !isInfV f := by unfold finV; rw [h1, h2, ← hfe]; rfl
        rw [e]
        clear e hfe
        go_enter Try.func20, Try.ntmps20
        go_wp2_with fail
        refine (isnan_any _ _).mono ?_
        rintro e w' ⟨rfl, hx⟩
        rw [h3]
        have V := V0.ext hx
        obtain ⟨c0, c1, c2, c3, c4⟩ := V.pack
        go_wp2_with fail
        refine (isinf_any _ hf _).mono ?_
        rintro e w'' ⟨rfl, hx2⟩
        go_wp2
        go_ret
        exact ⟨rfl, (hw0.trans hx).trans hx2⟩
theorem nan_zero (r : Nat) (h : isNaN r = true) : (FloatKind.f64.format.order r 0 == some .eq) = false := by
  rw [isNaN_read] at h
  unfold Ieee.Format.order
  generalize FloatKind.f64.format.read r = d at h
  cases d with
  | nan s t => rfl
  | number s m i => simp [Ieee.Datum.isNaN] at h
  | infinity s => simp [Ieee.Datum.isNaN] at h
theorem rfinite_any (k i : Int) (f : Nat) (s : ByteArray) (L : Value) (w : World) : Calls Try.prog 22 #[(.agg #[.int .i64 k, .int .i64 i, .float .f64 f, .string s, L])] w (Ret (.bool (finV k f)) w) := by
  cases h1 : (k == 1) with
  | true =>
    go_enter Try.func22, Try.ntmps22
    go_wp2
    go_ret
    exact ⟨by unfold finV; rw [h1]; rfl, (Ext.refl _).alloc _⟩
  | false =>
    cases h2 : (k == 2) with
    | false =>
      go_enter Try.func22, Try.ntmps22
      go_wp2
      go_ret
      exact ⟨by unfold finV; rw [h1, h2]; rfl, (Ext.refl _).alloc _⟩
    | true =>
      cases hr : floatBits .sub .f64 f f with
      | some r =>
        have e : finV k f = (FloatKind.f64.format.order r 0 == some .eq) := by unfold finV fin; rw [h1, h2, hr]; rfl
        rw [e]
        have hrun : ∀ w, (binOp .sub 22 (.float .f64 f) (.float .f64 f)).run Try.prog w = .ok (.float .f64 r) w := fun w => run_float_arith w _ _ _ _ _ _ hr
        clear e hr
        go_enter Try.func22, Try.ntmps22
        go_wp2
        go_ret
        exact ⟨rfl, (Ext.refl _).alloc _⟩
      | none =>
        have e : finV k f = false := by unfold finV fin; rw [h1, h2, hr]; rfl
        rw [e]
        have hrun : ∀ w, (binOp .sub 22 (.float .f64 f) (.float .f64 f)).run Try.prog w = .ok (.float .f64 (drawnNaN w f f)) w.drew := fun w => run_float_nan w _ _ _ _ (by simp) hr
        have hz : ∀ w, (FloatKind.f64.format.order (drawnNaN w f f) 0 == some .eq) = false := fun w => nan_zero _ (drawn_isNaN w f f)
        clear e hr
        go_enter Try.func22, Try.ntmps22
        go_wp2
        go_ret
        exact ⟨rfl, ((Ext.refl _).alloc _).drew⟩
end Go.Proofs.Ytgodncdhkmpfaaa
