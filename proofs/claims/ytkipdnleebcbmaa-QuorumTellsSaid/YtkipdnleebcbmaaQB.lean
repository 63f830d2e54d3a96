/- Majorities: Has, Leader, Next. -/
import Derived.Test.YtkipdnleebcbmaaQA
import Derived.Test.YtkipdnleebcbmaaShelf
namespace Go.Proofs.Ytkipdnleebcbmaa
open Go.RowKit
set_option linter.unusedVariables false
set_option linter.unusedSimpArgs false

theorem contains_any (A : Option Addr) (n c : Nat) (zs : List Int) (x : Int) (w : World) (h : Ints w A n zs) (hn : n ≤ 9223372036854775807) : Calls Try.prog 21 #[.slice A n c, .int .i64 x] w (RetS (.bool (zs.contains x)) w) := by
  rcases Nat.eq_zero_or_pos n with h0 | h0
  · subst h0
    obtain rfl : zs = [] := List.eq_nil_of_length_eq_zero h.1
    exact (Try.slices_Contains_int_empty A c x w).mono fun e w' ⟨h1, h2⟩ => ⟨h1, h2.symm⟩
  · obtain ⟨b, off, rfl, hc⟩ := h.2 h0
    have := Try.slices_Contains_int b off n c zs x w (Nat.le_of_eq h.1.symm) hn (fun j hj => hc j (by rw [← h.1]; exact hj))
    rw [List.take_of_length_le (Nat.le_of_eq h.1)] at this
    exact this.mono fun e w' ⟨h1, h2⟩ => ⟨h1, h2.symm⟩
theorem hits_succ (k : Nat) (zs : List Int) : QP.hits (k + 1) zs = QP.hits k zs + if zs.contains (k : Int) = true then 1 else 0 := by
  unfold QP.hits
  rw [List.range_succ, List.countP_append, List.countP_singleton]
theorem hits_le (k : Nat) (zs : List Int) : QP.hits k zs ≤ k := by
  have := List.countP_le_length (p := fun i : Nat => zs.contains (i : Int)) (l := List.range k)
  simpa [QP.hits] using this
def hasB (N : Nat) (zs : List Int) : Bool := decide (need N ≤ QP.hits N zs)
theorem hasB_is (N : Nat) (zs : List Int) : decide ((need N : Int) ≤ (QP.hits N zs : Int)) = hasB N zs := by
  unfold hasB; rw [Bool.eq_iff_iff]; simp

theorem has_any (n : Int) (A : Option Addr) (m c : Nat) (zs : List Int) (w : World) (h : Ints w A m zs) (hm : m ≤ 9223372036854775807) : Calls Try.prog 10 #[.int .i64 n, .slice A m c] w (RetS (.bool (hasB (nod n) zs)) w) := by
  have HI := Lib.hid h
  clear h
  have hN := nod_range n
  go_enter Try.func10, Try.ntmps10
  go_wp2_with (go_at_call 19; refine (nodes_any _ _).mono ?_; rintro e w' ⟨rfl, rfl⟩)
  go_loop [5, 9] (fun t i => ∃ k : Nat, k ≤ nod n ∧ i = .int .i64 k ∧ t = .int .i64 (QP.hits k zs)) (fun _ i => nod n - (intOf i).toNat)
  case atStart => exact ⟨0, Nat.zero_le _, rfl, rfl⟩
  case round =>
    obtain ⟨k, hk, rfl, rfl⟩ := hrel
    have hle := hits_le k zs
    by_cases hlt : k < nod n
    · have hs := hits_succ k zs
      have HS := Lib.hid hs
      clear hs
      cases hc : zs.contains (k : Int) with
      | true =>
        go_wp2_with (go_at_call 21; refine (contains_any _ _ _ zs _ _ HI.out hm).mono ?_; rw [hc]; rintro e w' ⟨rfl, rfl⟩)
        go_round
        case rel => exact ⟨k + 1, by omega, by go_num, by rw [HS.out, hc]; simp⟩
        case measure => simp [intOf]; omega
      | false =>
        go_wp2_with (go_at_call 21; refine (contains_any _ _ _ zs _ _ HI.out hm).mono ?_; rw [hc]; rintro e w' ⟨rfl, rfl⟩)
        go_round
        case rel => exact ⟨k + 1, by omega, by go_num, by rw [HS.out, hc]; simp⟩
        case measure => simp [intOf]; omega
    · obtain rfl : k = nod n := by omega
      go_wp2_with (go_at_call 8; refine (need_any _ _).mono ?_; rintro e w' ⟨rfl, rfl⟩)
      go_ret
      exact ⟨rfl, rfl⟩
theorem leader_any (v : Nat) (n : Int) (w : World) (hv : v < 18446744073709551616) : Calls Try.prog 12 #[.int .u64 v, .int .i64 n] w (RetS (.int .i64 ((v % nod n : Nat) : Int)) w) := by
  have hN := nod_range n
  have hm := Nat.mod_lt v (show 0 < nod n by omega)
  have e : ((v % nod n : Nat) : Int) = (v : Int) % (nod n : Int) := by omega
  have h1 : 0 ≤ (v : Int) % (nod n : Int) := by omega
  have h2 : (v : Int) % (nod n : Int) < 7 := by omega
  rw [e]
  clear e
  go_enter Try.func12, Try.ntmps12
  go_wp2_with (go_at_call 19; refine (nodes_any _ _).mono ?_; rintro e w' ⟨rfl, rfl⟩)
  go_ret
  exact ⟨rfl, rfl⟩
end Go.Proofs.Ytkipdnleebcbmaa
