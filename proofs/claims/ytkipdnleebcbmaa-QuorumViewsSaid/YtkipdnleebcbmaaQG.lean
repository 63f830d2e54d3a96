/- QuorumViews, walked. -/
import Derived.Test.YtkipdnleebcbmaaQF
namespace Go.Proofs.Ytkipdnleebcbmaa
open Go.RowKit
set_option linter.unusedVariables false
set_option linter.unusedSimpArgs false

set_option maxRecDepth 100000 in
set_option maxHeartbeats 1000000 in
theorem quorumViews_law (v0 : Int) (hv0 : (Lit.int .u32 v0).wf = true) (n0 : Int) (hn0 : (Lit.int .u8 n0).wf = true) (s0 : Int) (hs0 : (Lit.int .u8 s0).wf = true) (w : World) : Calls Try.prog 6 #[.int .u32 v0, .int .u8 n0, .int .u8 s0] w (RetX (.bool true) w) := by
  have hv : 0 ≤ v0 ∧ v0 ≤ 4294967295 := by simpa [Lit.wf, IntKind.min, IntKind.max, IntKind.signed, IntKind.bits] using hv0
  have hn : 0 ≤ n0 ∧ n0 ≤ 255 := by simpa [Lit.wf, IntKind.min, IntKind.max, IntKind.signed, IntKind.bits] using hn0
  have hs : 0 ≤ s0 ∧ s0 ≤ 255 := by simpa [Lit.wf, IntKind.min, IntKind.max, IntKind.signed, IntKind.bits] using hs0
  clear hv0 hn0 hs0
  obtain ⟨v, rfl⟩ := Int.eq_ofNat_of_zero_le hv.1
  obtain ⟨n, rfl⟩ := Int.eq_ofNat_of_zero_le hn.1
  obtain ⟨s, rfl⟩ := Int.eq_ofNat_of_zero_le hs.1
  obtain ⟨k, hk⟩ : ∃ k : Nat, (n : Int) % 7 + 1 = (k : Int) := ⟨n % 7 + 1, by omega⟩
  have hk1 : 1 ≤ k := by omega
  have hk7 : k ≤ 7 := by omega
  obtain ⟨q, hq⟩ : ∃ q : Nat, (s : Int) % (k : Int) = (q : Int) := ⟨s % k, by omega⟩
  have hqk : q < k := by
    have : s % k < k := Nat.mod_lt _ (by omega)
    omega
  have hNK : nod (k : Int) = k := nod_small k hk1 hk7
  obtain ⟨X, hX⟩ : ∃ X, QP.nxt v k q = X := ⟨_, rfl⟩
  have hgt := QP.nxt_gt v k q
  have hle := QP.nxt_le v k q (by omega)
  have hmod := QP.nxt_mod v k q hqk
  have hlst := fun u => QP.nxt_least v k q u hqk
  rw [hX] at hgt hle hmod hlst
  have HNX : Hid (∀ w, Calls Try.prog 17 #[.int .u64 v, .int .i64 q, .int .i64 k] w (RetP (X, true) w)) := Lib.hid (fun w => by
    have := next_any v q k w (by omega)
    rw [hNK, (nextOf_yes hqk (by omega)).1, hX, if_neg (by omega)] at this
    exact this)
  have HLX : Hid (∀ w, Calls Try.prog 12 #[.int .u64 X, .int .i64 k] w (RetS (.int .i64 q) w)) := Lib.hid (fun w => by
    have := leader_any X k w (by omega)
    rw [hNK, hmod] at this
    exact this)
  have HLU : Hid (∀ (u : Nat) w, u < 18446744073709551616 → Calls Try.prog 12 #[.int .u64 u, .int .i64 k] w (RetS (.int .i64 ((u % k : Nat) : Int)) w)) := Lib.hid (fun u w hu => by
    have := leader_any u k w hu
    rwa [hNK] at this)
  have HRU : Hid (∀ (u : Nat) w, u < 18446744073709551616 → Calls Try.prog 13 #[.int .u64 u, .int .i64 k] w (RetS (.int .i64 ((u % k : Nat) : Int)) w)) := Lib.hid (fun u w hu => by
    have := rleader_any u k w hu
    rwa [hNK] at this)
  have HLST := Lib.hid hlst
  clear hNK hX hmod hlst
  have d1 : decide (X ≤ v) = false := by simp; omega
  have d2 : decide ((v : Int) + (k : Int) < (X : Int)) = false := by simp; omega
  go_enter Try.func6, Try.ntmps6
  go_wp2_with fail
  refine (known_any _).mono ?_; rintro e w1 ⟨rfl, hx⟩
  go_wp2_with fail
  refine (HNX.out _).mono ?_; rintro e w2 ⟨rfl, rfl⟩
  go_wp2_with fail
  refine (HLX.out _).mono ?_; rintro e w2 ⟨rfl, rfl⟩
  go_wp2_with fail
  clear hk hq
  go_loop [11] (fun t => ∃ u : Nat, v < u ∧ u ≤ X ∧ t = .int .u64 u) (fun t => X - (intOf t).toNat)
  case atStart => exact ⟨v + 1, by omega, by omega, by go_num⟩
  case round =>
    obtain ⟨u, hu1, hu2, rfl⟩ := hrel
    by_cases hlt : u < X
    · obtain ⟨r, hr⟩ : ∃ r, u % k = r := ⟨_, rfl⟩
      have hne := HLST.out u hu1 hlt
      have HL := Lib.hid (fun w => HLU.out u w (by omega))
      rw [hr] at hne HL
      have hrk : r < k := by rw [← hr]; exact Nat.mod_lt _ (by omega)
      have hne' : ((r : Int) == (q : Int)) = false := by simp; omega
      clear hr
      go_wp2_with fail
      refine (HL.out _).mono ?_; rintro e w2 ⟨rfl, rfl⟩
      go_wp2_with fail
      go_round
      case rel => exact ⟨u + 1, by omega, by omega, by go_num⟩
      case measure => simp [intOf]; omega
    · obtain rfl : u = X := by omega
      obtain ⟨r, hr⟩ : ∃ r, v % k = r := ⟨_, rfl⟩
      have HL := Lib.hid (fun w => HLU.out v w (by omega))
      have HR := Lib.hid (fun w => HRU.out v w (by omega))
      rw [hr] at HL HR
      clear hr
      go_wp2_with fail
      refine (HL.out _).mono ?_; rintro e w2 ⟨rfl, rfl⟩
      go_wp2_with fail
      refine (HR.out _).mono ?_; rintro e w2 ⟨rfl, rfl⟩
      go_wp2_with fail
      go_ret
      exact ⟨rfl, hx⟩
end Go.Proofs.Ytkipdnleebcbmaa
