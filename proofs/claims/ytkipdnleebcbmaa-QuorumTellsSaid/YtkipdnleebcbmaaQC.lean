/- Majorities: the reference's Has, Leader; Next of both; Place. -/
import Derived.Test.YtkipdnleebcbmaaQB
import Derived.Deep.QuietTactic
import Derived.BigQuiet
namespace Go.Proofs.Ytkipdnleebcbmaa
open Go.RowKit
set_option linter.unusedVariables false
set_option linter.unusedSimpArgs false

theorem rleader_any (v : Nat) (n : Int) (w : World) (hv : v < 18446744073709551616) : Calls Try.prog 13 #[.int .u64 v, .int .i64 n] w (RetS (.int .i64 ((v % nod n : Nat) : Int)) w) := by
  have hN := nod_range n
  have hm := Nat.mod_lt v (show 0 < nod n by omega)
  have e : ((v % nod n : Nat) : Int) = (v : Int) % (nod n : Int) := by omega
  have h1 : 0 ≤ (v : Int) % (nod n : Int) := by omega
  have h2 : (v : Int) % (nod n : Int) < 7 := by omega
  rw [e]
  clear e
  go_enter Try.func13, Try.ntmps13
  go_wp2_with (go_at_call 20; refine (rnodes_any _ _).mono ?_; rintro e w' ⟨rfl, rfl⟩)
  go_ret
  exact ⟨rfl, rfl⟩
theorem nod_nod (n : Int) : nod (nod n : Int) = nod n := nod_small _ (nod_range n).1 (nod_range n).2

/-- whom Next serves -/
def servedB (v : Nat) (s : Int) (N : Nat) : Bool := decide (0 ≤ s) && decide (s < N) && decide (v < 4611686018427387904)
def nextOf (v : Nat) (s : Int) (N : Nat) : Nat × Bool := if servedB v s N then (if 4611686018427387904 < QP.nxt v N s.toNat then (0, false) else (QP.nxt v N s.toNat, true)) else (0, false)
def rnextOf (v : Nat) (s : Int) (N : Nat) : Nat × Bool := if servedB v s N then (QP.nxt v N s.toNat, !decide (4611686018427387904 < QP.nxt v N s.toNat)) else (0, false)
theorem next_same (v : Nat) (s : Int) (N : Nat) : nextOf v s N = (if (rnextOf v s N).2 then (rnextOf v s N).1 else 0, (rnextOf v s N).2) := by
  unfold nextOf rnextOf
  cases servedB v s N
  · simp
  · by_cases h : 4611686018427387904 < QP.nxt v N s.toNat <;> simp [h]
theorem nextOf_no {v : Nat} {s : Int} {N : Nat} (h : ¬ (0 ≤ s ∧ s < N ∧ v < 4611686018427387904)) : nextOf v s N = (0, false) ∧ rnextOf v s N = (0, false) := by
  have : servedB v s N = false := by
    rw [Bool.eq_false_iff]
    intro h'
    simp only [servedB, Bool.and_eq_true, decide_eq_true_eq] at h'
    exact h ⟨h'.1.1, h'.1.2, h'.2⟩
  unfold nextOf rnextOf
  rw [this]
  exact ⟨rfl, rfl⟩
theorem nextOf_yes {v s N : Nat} (h1 : s < N) (h2 : v < 4611686018427387904) : nextOf v s N = (if 4611686018427387904 < QP.nxt v N s then (0, false) else (QP.nxt v N s, true)) ∧ rnextOf v s N = (QP.nxt v N s, !decide (4611686018427387904 < QP.nxt v N s)) := by
  have : servedB v s N = true := by simp [servedB, h1, h2]
  unfold nextOf rnextOf
  rw [this]
  exact ⟨rfl, rfl⟩
def RetP (x : Nat × Bool) (w : World) (e : Ending) (w' : World) : Prop := e = .returned (.tuple #[.int .u64 x.1, .bool x.2]) ∧ w = w'
theorem nxt_step {v N s u : Nat} (hs : s < N) (h1 : v < u) (h2 : u ≤ QP.nxt v N s) : (u % N = s → u = QP.nxt v N s) ∧ (u % N ≠ s → u < QP.nxt v N s) := by
  constructor
  · intro h
    rcases Nat.lt_or_ge u (QP.nxt v N s) with hlt | hge
    · exact absurd h (QP.nxt_least v N s u hs h1 hlt)
    · omega
  · intro h
    rcases Nat.eq_or_lt_of_le h2 with e | e
    · exact absurd (e ▸ QP.nxt_mod v N s hs) h
    · exact e

set_option maxHeartbeats 400000 in
theorem next_any (v : Nat) (s n : Int) (w : World) (hv : v < 18446744073709551616) : Calls Try.prog 17 #[.int .u64 v, .int .i64 s, .int .i64 n] w (RetP (nextOf v s (nod n)) w) := by
  have hN := nod_range n
  by_cases h0 : s < 0
  · rw [(nextOf_no (by omega)).1]
    go_enter Try.func17, Try.ntmps17
    go_wp2_with (go_at_call 19; refine (nodes_any _ _).mono ?_; rintro e w' ⟨rfl, rfl⟩)
    go_ret2
    exact ⟨rfl, rfl⟩
  obtain ⟨m, rfl⟩ := Int.eq_ofNat_of_zero_le (by omega : 0 ≤ s)
  clear h0
  have hm0 : ((m : Int) < 0) = False := by simp
  by_cases h1 : nod n ≤ m
  · rw [(nextOf_no (by omega)).1]
    go_enter Try.func17, Try.ntmps17
    go_wp2_with (go_at_call 19; refine (nodes_any _ _).mono ?_; rintro e w' ⟨rfl, rfl⟩)
    go_ret2
    exact ⟨rfl, rfl⟩
  have h1' : m < nod n := by omega
  clear h1
  by_cases h2 : 4611686018427387904 ≤ v
  · rw [(nextOf_no (by omega)).1]
    go_enter Try.func17, Try.ntmps17
    go_wp2_with (go_at_call 19; refine (nodes_any _ _).mono ?_; rintro e w' ⟨rfl, rfl⟩)
    go_ret2
    exact ⟨rfl, rfl⟩
  have h2' : v < 4611686018427387904 := by omega
  clear h2
  rw [(nextOf_yes h1' h2').1]
  have hgt := QP.nxt_gt v (nod n) m
  have hle := QP.nxt_le v (nod n) m (by omega)
  have hst := fun u a b => @nxt_step v (nod n) m u h1' a b
  obtain ⟨N, hNe⟩ : ∃ N, nod n = N := ⟨_, rfl⟩
  have hNN : nod (N : Int) = N := by rw [← hNe]; exact nod_nod n
  obtain ⟨X, hX⟩ : ∃ X, QP.nxt v N m = X := ⟨_, rfl⟩
  have HC := fun w => nodes_any n w
  rw [hNe] at hN h1' hgt hle hst HC ⊢
  rw [hX] at hgt hle hst ⊢
  obtain ⟨R, hR⟩ : ∃ R : Nat × Bool, R = (if 4611686018427387904 < X then (0, false) else (X, true)) := ⟨_, rfl⟩
  rw [← hR]
  have HR := Lib.hid hR
  clear hR
  have HNN := Lib.hid hNN
  have HST := Lib.hid hst
  have HHC := Lib.hid HC
  clear hNe hX hNN hst HC
  have hA : decide (N ≤ m) = false := by simp; omega
  have hB : decide (4611686018427387904 ≤ (v : Int)) = false := by simp; omega
  go_enter Try.func17, Try.ntmps17
  go_wp2_with (go_at_call 19; refine (HHC.out _).mono ?_; rintro e w' ⟨rfl, rfl⟩)
  all_goals
    go_loop [8] (fun t => ∃ u : Nat, v < u ∧ u ≤ X ∧ t = .int .u64 u) (fun t => X - (intOf t).toNat)
    case atStart => exact ⟨v + 1, by omega, by omega, by go_num⟩
    case round =>
      obtain ⟨u, hu1, hu2, rfl⟩ := hrel
      obtain ⟨q, hq⟩ : ∃ q, u % N = q := ⟨_, rfl⟩
      have hqN : q < N := by rw [← hq]; exact Nat.mod_lt _ (by omega)
      have HLD := Lib.hid (fun w => leader_any u (N : Int) w (by omega))
      rw [HNN.out, hq] at HLD
      have hst := HST.out u hu1 hu2
      rw [hq] at hst
      clear hq
      by_cases hs : q = m
      · have hux := hst.1 hs
        clear hst
        subst hs
        subst hux
        by_cases hbig : 4611686018427387904 < u
        · go_wp2_with (go_at_call 12; refine (HLD.out _).mono ?_; rintro e w' ⟨rfl, rfl⟩)
          go_ret2
          exact ⟨by rw [HR.out, if_pos hbig]; rfl, rfl⟩
        · go_wp2_with (go_at_call 12; refine (HLD.out _).mono ?_; rintro e w' ⟨rfl, rfl⟩)
          go_ret2
          exact ⟨by rw [HR.out, if_neg hbig]; rfl, rfl⟩
      · have hux := hst.2 hs
        clear hst
        have hsi : ((q : Int) == (m : Int)) = false := by simp; omega
        go_wp2_with (go_at_call 12; refine (HLD.out _).mono ?_; rintro e w' ⟨rfl, rfl⟩)
        go_round
        case rel => exact ⟨u + 1, by omega, by omega, by go_num⟩
        case measure => simp [intOf]; omega
set_option maxHeartbeats 400000 in
theorem rnext_any (v : Nat) (s n : Int) (w : World) (hv : v < 18446744073709551616) : Calls Try.prog 18 #[.int .u64 v, .int .i64 s, .int .i64 n] w (RetP (rnextOf v s (nod n)) w) := by
  have hN := nod_range n
  by_cases h0 : s < 0
  · rw [(nextOf_no (by omega)).2]
    go_enter Try.func18, Try.ntmps18
    go_wp2_with (go_at_call 20; refine (rnodes_any _ _).mono ?_; rintro e w' ⟨rfl, rfl⟩)
    go_ret2
    exact ⟨rfl, rfl⟩
  obtain ⟨m, rfl⟩ := Int.eq_ofNat_of_zero_le (by omega : 0 ≤ s)
  clear h0
  have hm0 : ((m : Int) < 0) = False := by simp
  by_cases h1 : nod n ≤ m
  · rw [(nextOf_no (by omega)).2]
    go_enter Try.func18, Try.ntmps18
    go_wp2_with (go_at_call 20; refine (rnodes_any _ _).mono ?_; rintro e w' ⟨rfl, rfl⟩)
    go_ret2
    exact ⟨rfl, rfl⟩
  have h1' : m < nod n := by omega
  clear h1
  by_cases h2 : 4611686018427387904 ≤ v
  · rw [(nextOf_no (by omega)).2]
    go_enter Try.func18, Try.ntmps18
    go_wp2_with (go_at_call 20; refine (rnodes_any _ _).mono ?_; rintro e w' ⟨rfl, rfl⟩)
    go_ret2
    exact ⟨rfl, rfl⟩
  have h2' : v < 4611686018427387904 := by omega
  clear h2
  rw [(nextOf_yes h1' h2').2]
  have hgt := QP.nxt_gt v (nod n) m
  have hle := QP.nxt_le v (nod n) m (by omega)
  have hst := fun u a b => @nxt_step v (nod n) m u h1' a b
  obtain ⟨N, hNe⟩ : ∃ N, nod n = N := ⟨_, rfl⟩
  have hNN : nod (N : Int) = N := by rw [← hNe]; exact nod_nod n
  obtain ⟨X, hX⟩ : ∃ X, QP.nxt v N m = X := ⟨_, rfl⟩
  have HC := fun w => rnodes_any n w
  rw [hNe] at hN h1' hgt hle hst HC ⊢
  rw [hX] at hgt hle hst ⊢
  obtain ⟨R, hR⟩ : ∃ R : Nat × Bool, R = (X, !decide (4611686018427387904 < X)) := ⟨_, rfl⟩
  rw [← hR]
  have HR := Lib.hid hR
  clear hR
  have HNN := Lib.hid hNN
  have HST := Lib.hid hst
  have HHC := Lib.hid HC
  clear hNe hX hNN hst HC
  have hA : decide (N ≤ m) = false := by simp; omega
  have hB : decide (4611686018427387904 ≤ (v : Int)) = false := by simp; omega
  go_enter Try.func18, Try.ntmps18
  go_wp2_with (go_at_call 20; refine (HHC.out _).mono ?_; rintro e w' ⟨rfl, rfl⟩)
  all_goals
    go_loop [8] (fun t => ∃ u : Nat, v < u ∧ u ≤ X ∧ t = .int .u64 u) (fun t => X - (intOf t).toNat)
    case atStart => exact ⟨v + 1, by omega, by omega, by go_num⟩
    case round =>
      obtain ⟨u, hu1, hu2, rfl⟩ := hrel
      obtain ⟨q, hq⟩ : ∃ q, u % N = q := ⟨_, rfl⟩
      have hqN : q < N := by rw [← hq]; exact Nat.mod_lt _ (by omega)
      have HLD := Lib.hid (fun w => rleader_any u (N : Int) w (by omega))
      rw [HNN.out, hq] at HLD
      have hst := HST.out u hu1 hu2
      rw [hq] at hst
      clear hq
      by_cases hs : q = m
      · have hux := hst.1 hs
        clear hst
        subst hs
        subst hux
        by_cases hbig : 4611686018427387904 < u
        · go_wp2_with (go_at_call 13; refine (HLD.out _).mono ?_; rintro e w' ⟨rfl, rfl⟩)
          go_ret2
          exact ⟨by rw [HR.out]; simp; rw [Bool.eq_iff_iff]; simp; omega, rfl⟩
        · go_wp2_with (go_at_call 13; refine (HLD.out _).mono ?_; rintro e w' ⟨rfl, rfl⟩)
          go_ret2
          exact ⟨by rw [HR.out]; simp; rw [Bool.eq_iff_iff]; simp; omega, rfl⟩
      · have hux := hst.2 hs
        clear hst
        have hsi : ((q : Int) == (m : Int)) = false := by simp; omega
        go_wp2_with (go_at_call 13; refine (HLD.out _).mono ?_; rintro e w' ⟨rfl, rfl⟩)
        go_round
        case rel => exact ⟨u + 1, by omega, by omega, by go_num⟩
        case measure => simp [intOf]; omega
theorem place_any (k n : Int) (w : World) (hk : IntKind.i64.min ≤ k ∧ k ≤ IntKind.i64.max) (hn : 0 < n ∧ n ≤ 8) : ∃ s : Int, Calls Try.prog 16 #[.int .i64 k, .int .i64 n] w (RetS (.int .i64 s) w) := by
  by_cases h : k.tmod n < 0
  · refine ⟨wrap64 (k.tmod n + n), ?_⟩
    go_enter Try.func16, Try.ntmps16
    go_wp2
    go_ret
    exact ⟨rfl, rfl⟩
  · refine ⟨k.tmod n, ?_⟩
    go_enter Try.func16, Try.ntmps16
    go_wp2
    go_ret
    exact ⟨rfl, rfl⟩
end Go.Proofs.Ytkipdnleebcbmaa
