/- Majorities: what each call comes to. -/
import Derived.Test.YtkipdnleebcbmaaProg
import Derived.Test.YtkipdnleebcbmaaQPure
import Derived.Test.YtkipdnleebcbmaaRel
import Derived.WalkKit
import Derived.WalkSpells
import Derived.WalkLawsBesides
import Derived.Lib.Hide
namespace Go.Proofs.Ytkipdnleebcbmaa
open Go.RowKit
set_option linter.unusedVariables false
set_option linter.unusedSimpArgs false

/-- whole numbers that are read -/
def Ints (w : World) (A : Option Addr) (n : Nat) (zs : List Int) : Prop :=
  zs.length = n ∧ (0 < n → ∃ b off, A = some ⟨b, off, none⟩ ∧ ∀ j, j < n → w.cell? ⟨b, off + j, none⟩ = some (.int .i64 (zs.getD j 0)))
theorem Ints.ext {w w' : World} {A : Option Addr} {n : Nat} {zs : List Int} (h : Ints w A n zs) (hx : Ext w w') : Ints w' A n zs := ⟨h.1, fun h0 => by
  obtain ⟨b, off, e, hc⟩ := h.2 h0
  exact ⟨b, off, e, fun j hj => hx.cell (hc j hj)⟩⟩
/-- a result, and new memory at most -/
def RetX (v : Value) (w : World) (e : Ending) (w' : World) : Prop := e = .returned v ∧ Ext w w'
/-- a result, the world as it was -/
def RetS (v : Value) (w : World) (e : Ending) (w' : World) : Prop := e = .returned v ∧ w = w'

def nod (n : Int) : Nat := (min (max n 1) 7).toNat
theorem nod_range (n : Int) : 1 ≤ nod n ∧ nod n ≤ 7 := by unfold nod; omega
theorem nod_small (n : Nat) (h1 : 1 ≤ n) (h2 : n ≤ 7) : nod (n : Int) = n := by unfold nod; omega
def need (N : Nat) : Nat := N / 2 + 1
theorem need_range {N : Nat} (h : 1 ≤ N) : 1 ≤ need N ∧ need N ≤ N := by unfold need; omega

theorem nodes_any (n : Int) (w : World) : Calls Try.prog 19 #[.int .i64 n] w (RetS (.int .i64 (nod n)) w) := by
  rcases Int.lt_or_le n 1 with h | h
  · have e : nod n = 1 := by unfold nod; omega
    rw [e]
    go_enter Try.func19, Try.ntmps19
    go_wp2
    go_ret
    exact ⟨rfl, rfl⟩
  · rcases Int.lt_or_le 7 n with h7 | h7
    · have e : nod n = 7 := by unfold nod; omega
      rw [e]
      go_enter Try.func19, Try.ntmps19
      go_wp2
      go_ret
      exact ⟨rfl, rfl⟩
    · have e : (nod n : Int) = n := by unfold nod; omega
      rw [e]
      clear e
      go_enter Try.func19, Try.ntmps19
      go_wp2
      go_ret
      exact ⟨rfl, rfl⟩
theorem rnodes_any (n : Int) (w : World) : Calls Try.prog 20 #[.int .i64 n] w (RetS (.int .i64 (nod n)) w) := by
  rcases Int.lt_or_le n 1 with h | h
  · have e : nod n = 1 := by unfold nod; omega
    rw [e]
    go_enter Try.func20, Try.ntmps20
    go_wp2
    go_ret
    exact ⟨rfl, rfl⟩
  · rcases Int.lt_or_le 7 n with h7 | h7
    · have e : nod n = 7 := by unfold nod; omega
      rw [e]
      go_enter Try.func20, Try.ntmps20
      go_wp2
      go_ret
      exact ⟨rfl, rfl⟩
    · have e : (nod n : Int) = n := by unfold nod; omega
      rw [e]
      clear e
      go_enter Try.func20, Try.ntmps20
      go_wp2
      go_ret
      exact ⟨rfl, rfl⟩
theorem need_cast (N : Nat) : ((need N : Nat) : Int) = (N : Int) / 2 + 1 := by unfold need; omega
theorem need_any (n : Int) (w : World) : Calls Try.prog 8 #[.int .i64 n] w (RetS (.int .i64 (need (nod n))) w) := by
  have h := nod_range n
  rw [need_cast]
  go_enter Try.func8, Try.ntmps8
  go_wp2_with (go_at_call 19; refine (nodes_any _ _).mono ?_; rintro e w' ⟨rfl, rfl⟩)
  go_ret
  exact ⟨rfl, rfl⟩
theorem rneed_any (n : Int) (w : World) : Calls Try.prog 9 #[.int .i64 n] w (RetS (.int .i64 (need (nod n))) w) := by
  have h := nod_range n
  rw [need_cast]
  go_enter Try.func9, Try.ntmps9
  go_wp2_with (go_at_call 20; refine (rnodes_any _ _).mono ?_; rintro e w' ⟨rfl, rfl⟩)
  go_ret
  exact ⟨rfl, rfl⟩
end Go.Proofs.Ytkipdnleebcbmaa
