/- Names. -/
import Derived.Test.YtdcbpnkcpglhhaaValG
namespace Go.Proofs.Ytdcbpnkcpglhhaa
open Go.RowKit
set_option linter.unusedVariables false
set_option linter.unusedSimpArgs false
set_option linter.unnecessarySimpa false
attribute [local go_sem] stepR givesR fillE Ext.refl run_store_float

/-- is it a name? -/
def nameT : T → Bool
  | .mk k _ _ s _ => decide (k = 3) && (decide (1 ≤ s.size) && decide (s.size ≤ 32))
theorem named_any {w : World} {t : T} {A : Option Addr} {c : Nat} : Calls Try.prog 28 #[t.val A c] w (RetX (.bool (nameT t)) w) := by
  obtain ⟨k, i, f, s, l⟩ := t
  show Calls _ _ #[.agg #[.int .i64 k, .int .i64 i, .float .f64 f, .string s, .slice A l.length c]] _ _
  rw [nameT]
  by_cases k3 : k = 3
  · subst k3
    by_cases h1 : 1 ≤ s.size
    · have h1' : (1 : Int) ≤ (s.size : Int) := by omega
      by_cases h2 : s.size ≤ 32
      · have h2' : (s.size : Int) ≤ 32 := by omega
        rw [show (decide ((3 : Int) = 3) && (decide (1 ≤ s.size) && decide (s.size ≤ 32))) = true by simp [h1, h2]]
        clear h1 h2
        go_enter Try.func28, Try.ntmps28
        go_wp2_with fail
        go_ret
        exact ⟨rfl, (Ext.refl w).alloc _⟩
      · have h2' : decide ((s.size : Int) ≤ 32) = false := decide_eq_false (by omega)
        rw [show (decide ((3 : Int) = 3) && (decide (1 ≤ s.size) && decide (s.size ≤ 32))) = false by simp [h2]]
        clear h1 h2
        go_enter Try.func28, Try.ntmps28
        go_wp2_with fail
        go_ret
        exact ⟨rfl, (Ext.refl w).alloc _⟩
    · have h1' : decide ((1 : Int) ≤ (s.size : Int)) = false := decide_eq_false (by omega)
      rw [show (decide ((3 : Int) = 3) && (decide (1 ≤ s.size) && decide (s.size ≤ 32))) = false by simp [h1]]
      clear h1
      go_enter Try.func28, Try.ntmps28
      go_wp2_with fail
      go_ret
      exact ⟨rfl, (Ext.refl w).alloc _⟩
  · have q3 : (k == 3) = false := by simpa using k3
    rw [show (decide (k = 3) && (decide (1 ≤ s.size) && decide (s.size ≤ 32))) = false by simp [k3]]
    clear k3
    go_enter Try.func28, Try.ntmps28
    go_wp2_with fail
    go_ret
    exact ⟨rfl, (Ext.refl w).alloc _⟩
theorem name_any {w : World} {t : T} {A : Option Addr} {c : Nat} : Calls Try.prog 42 #[t.val A c] w (RetX (.bool (nameT t)) w) := by
  obtain ⟨k, i, f, s, l⟩ := t
  show Calls _ _ #[.agg #[.int .i64 k, .int .i64 i, .float .f64 f, .string s, .slice A l.length c]] _ _
  rw [nameT]
  by_cases k3 : k = 3
  · subst k3
    by_cases h1 : 1 ≤ s.size
    · have h1' : (1 : Int) ≤ (s.size : Int) := by omega
      by_cases h2 : s.size ≤ 32
      · have h2' : (s.size : Int) ≤ 32 := by omega
        rw [show (decide ((3 : Int) = 3) && (decide (1 ≤ s.size) && decide (s.size ≤ 32))) = true by simp [h1, h2]]
        clear h1 h2
        go_enter Try.func42, Try.ntmps42
        go_wp2_with fail
        go_ret
        exact ⟨rfl, (Ext.refl w).alloc _⟩
      · have h2' : decide ((s.size : Int) ≤ 32) = false := decide_eq_false (by omega)
        rw [show (decide ((3 : Int) = 3) && (decide (1 ≤ s.size) && decide (s.size ≤ 32))) = false by simp [h2]]
        clear h1 h2
        go_enter Try.func42, Try.ntmps42
        go_wp2_with fail
        go_ret
        exact ⟨rfl, (Ext.refl w).alloc _⟩
    · have h1' : decide ((1 : Int) ≤ (s.size : Int)) = false := decide_eq_false (by omega)
      rw [show (decide ((3 : Int) = 3) && (decide (1 ≤ s.size) && decide (s.size ≤ 32))) = false by simp [h1]]
      clear h1
      go_enter Try.func42, Try.ntmps42
      go_wp2_with fail
      go_ret
      exact ⟨rfl, (Ext.refl w).alloc _⟩
  · have q3 : (k == 3) = false := by simpa using k3
    rw [show (decide (k = 3) && (decide (1 ≤ s.size) && decide (s.size ≤ 32))) = false by simp [k3]]
    clear k3
    go_enter Try.func42, Try.ntmps42
    go_wp2_with fail
    go_ret
    exact ⟨rfl, (Ext.refl w).alloc _⟩
end Go.Proofs.Ytdcbpnkcpglhhaa
