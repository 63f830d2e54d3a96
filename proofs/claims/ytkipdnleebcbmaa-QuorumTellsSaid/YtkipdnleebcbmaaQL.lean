/- QuorumTells, walked. -/
import Derived.Test.YtkipdnleebcbmaaQF
namespace Go.Proofs.Ytkipdnleebcbmaa
open Go.RowKit
set_option linter.unusedVariables false
set_option linter.unusedSimpArgs false

theorem two_cells (w : World) (k : IntKind) (x y : Int) (T : TypeId) : ∀ j, j < 2 → ∃ z, (z = x ∨ z = y) ∧ (w.alloc (.cells #[.int k x, .int k y] T)).cell? ⟨w.heap.size, j, none⟩ = some (.int k z) := by
  intro j hj
  rw [cell_of_row _ _ _ _ _ _ (heap_alloc_new w _)]
  match j, hj with
  | 0, _ => exact ⟨x, .inl rfl, rfl⟩
  | 1, _ => exact ⟨y, .inr rfl, rfl⟩
theorem place_all (k : Int) (hk : IntKind.i64.min ≤ k ∧ k ≤ IntKind.i64.max) : ∃ s : Int, ∀ w, Calls Try.prog 16 #[.int .i64 k, .int .i64 8] w (RetS (.int .i64 s) w) := by
  by_cases h : k.tmod 8 < 0
  · refine ⟨wrap64 (k.tmod 8 + 8), fun w => ?_⟩
    go_enter Try.func16, Try.ntmps16
    go_wp2
    go_ret
    exact ⟨rfl, rfl⟩
  · refine ⟨k.tmod 8, fun w => ?_⟩
    go_enter Try.func16, Try.ntmps16
    go_wp2
    go_ret
    exact ⟨rfl, rfl⟩
theorem ints_small {w : World} {A : Option Addr} {n c : Nat} {zs : List Int} (h : Ints w A n zs ∧ n ≤ c ∧ c ≤ maxLen) : n ≤ 9223372036854775807 ∧ n ≤ c ∧ c ≤ 9223372036854775807 := by
  obtain ⟨_, h1, h2⟩ := h
  unfold maxLen at h2
  omega

set_option maxRecDepth 100000 in
set_option maxHeartbeats 4000000 in
theorem quorumTells_law (w : World) (n0 : Int) (hn0 : (Lit.int .i64 n0).wf = true) (s0 : Int) (hs0 : (Lit.int .i64 s0).wf = true) (v0 : Int) (hv0 : (Lit.int .u64 v0).wf = true) (A : Option Addr) (l c : Nat) (zs : List Int) (hz : Ints w A l zs ∧ l ≤ c ∧ c ≤ maxLen) (B : Option Addr) (m d : Nat) (ys : List Int) (hy : Ints w B m ys ∧ m ≤ d ∧ d ≤ maxLen) :
    Calls Try.prog 3 #[.int .i64 n0, .int .i64 s0, .int .u64 v0, .slice A l c, .slice B m d] w (RetX (.bool true) w) := by
  have hs : IntKind.i64.min ≤ s0 ∧ s0 ≤ IntKind.i64.max := by simpa [Lit.wf] using hs0
  have hv : 0 ≤ v0 ∧ v0 ≤ 18446744073709551615 := by simpa [Lit.wf, IntKind.min, IntKind.max, IntKind.signed, IntKind.bits] using hv0
  obtain ⟨v, rfl⟩ := Int.eq_ofNat_of_zero_le hv.1
  have HV : Hid (v < 18446744073709551616) := Lib.hid (by have := hv.2; omega)
  have HSS := Lib.hid hs
  have HZ := Lib.hid (And.intro hz (ints_small hz))
  have HY := Lib.hid (And.intro hy (ints_small hy))
  clear hn0 hs0 hv0 hv hs hz hy
  by_cases hl : 20 < l
  · have hl' : (20 : Int) < (l : Int) := by omega
    go_enter Try.func3, Try.ntmps3
    go_wp2_with fail
    refine (known_any _).mono ?_; rintro e w1 ⟨rfl, hx⟩
    go_wp2
    go_ret
    exact ⟨rfl, hx⟩
  have hl1 : decide ((20 : Int) < (l : Int)) = false := by simp; omega
  by_cases hm : 20 < m
  · have hm' : (20 : Int) < (m : Int) := by omega
    go_enter Try.func3, Try.ntmps3
    go_wp2_with fail
    refine (known_any _).mono ?_; rintro e w1 ⟨rfl, hx⟩
    go_wp2
    all_goals
      go_ret
      exact ⟨rfl, hx⟩
  have hm1 : decide ((20 : Int) < (m : Int)) = false := by simp; omega
  clear hl hm
  go_enter Try.func3, Try.ntmps3
  go_wp2_with fail
  refine (known_any _).mono ?_; rintro e w1 ⟨rfl, hx⟩
  go_wp2_with fail
  have C1 := Lib.hid (two_cells w1 .i64 n0 (n0.tmod 9) 3)
  replace hx := hx.alloc (.cells #[.int .i64 n0, .int .i64 (n0.tmod 9)] 3)
  generalize w1.alloc (.cells #[.int .i64 n0, .int .i64 (n0.tmod 9)] 3) = w2 at *
  generalize w1.heap.size = g1 at *
  go_loopw [36] (fun i wr => ∃ j : Nat, j ≤ 2 ∧ i = .int .i64 j ∧ Ext w2 wr) (fun i _ => 2 - (intOf i).toNat)
  case atStart => exact ⟨0, by omega, rfl, Ext.refl _⟩
  case round =>
    obtain ⟨j, hj, rfl, hw⟩ := hrel
    by_cases hlt : j < 2
    · obtain ⟨x, _, e0⟩ := C1.out j hlt
      replace e0 := hw.cell e0
      have hji : (j : Int) < 2 := by omega
      have hjn : ((j : Int) < 0) = False := by simp
      have hxw := hx.trans hw
      obtain ⟨N, hN⟩ : ∃ N, nod x = N := ⟨_, rfl⟩
      have hNr := nod_range x
      have K1 : Hid (∀ w', Calls Try.prog 8 #[.int .i64 x] w' (RetS (.int .i64 (need N)) w')) := Lib.hid (fun w' => by rw [← hN]; exact need_any x w')
      have K2 : Hid (∀ w', Calls Try.prog 9 #[.int .i64 x] w' (RetS (.int .i64 (need N)) w')) := Lib.hid (fun w' => by rw [← hN]; exact rneed_any x w')
      have K3 : Hid (∀ w', Ext w w' → Calls Try.prog 10 #[.int .i64 x, .slice A l c] w' (RetS (.bool (hasB N zs)) w')) := Lib.hid (fun w' h' => by rw [← hN]; exact has_any x A l c zs w' (HZ.out.1.1.ext h') HZ.out.2.1)
      have K4 : Hid (∀ w', Ext w w' → Calls Try.prog 11 #[.int .i64 x, .slice A l c] w' (RetX (.bool (hasB N zs)) w')) := Lib.hid (fun w' h' => by rw [← hN]; exact rhas_any x A l c zs w' (HZ.out.1.1.ext h') HZ.out.2.1)
      have K5 : Hid (∀ w', Calls Try.prog 12 #[.int .u64 v, .int .i64 x] w' (RetS (.int .i64 ((v % N : Nat) : Int)) w')) := Lib.hid (fun w' => by rw [← hN]; exact leader_any v x w' HV.out)
      have K6 : Hid (∀ w', Calls Try.prog 13 #[.int .u64 v, .int .i64 x] w' (RetS (.int .i64 ((v % N : Nat) : Int)) w')) := Lib.hid (fun w' => by rw [← hN]; exact rleader_any v x w' HV.out)
      obtain ⟨su, hsu⟩ : ∃ su, su = QP.nth (QP.padded N ys) (need N) := ⟨_, rfl⟩
      have K7 : Hid (∀ w', Ext w w' → Calls Try.prog 14 #[.int .i64 x, .slice B m d] w' (RetX (.int .i64 su) w')) := Lib.hid (fun w' h' => by
        have := sure_any x B m d ys w' (HY.out.1.1.ext h') HY.out.2.2.1 HY.out.2.2.2
        rwa [hN, ← hsu] at this)
      have K8 : Hid (∀ w', Ext w w' → Calls Try.prog 15 #[.int .i64 x, .slice B m d] w' (RetX (.int .i64 su) w')) := Lib.hid (fun w' h' => by
        have := rsure_any x B m d ys w' (HY.out.1.1.ext h') HY.out.2.1
        rw [hN] at this hNr
        rw [hsu, QP.sure_best N (need N) ys (need_range hNr.1).1 (need_range hNr.1).2, HY.out.1.1.1]
        exact this)
      have K9 : Hid (∀ (u : Nat) (s : Int) w', u < 18446744073709551616 → Calls Try.prog 17 #[.int .u64 u, .int .i64 s, .int .i64 x] w' (RetP (nextOf u s N) w')) := Lib.hid (fun u s w' hu => by rw [← hN]; exact next_any u s x w' hu)
      have K10 : Hid (∀ (u : Nat) (s : Int) w', u < 18446744073709551616 → Calls Try.prog 18 #[.int .u64 u, .int .i64 s, .int .i64 x] w' (RetP (rnextOf u s N) w')) := Lib.hid (fun u s w' hu => by rw [← hN]; exact rnext_any u s x w' hu)
      obtain ⟨s1, hs1⟩ : ∃ s1 : Int, ∀ w', Calls Try.prog 16 #[.int .i64 s0, .int .i64 8] w' (RetS (.int .i64 s1) w') := place_all s0 HSS.out
      have K11 := Lib.hid hs1
      obtain ⟨nd, hnd⟩ : ∃ nd, need N = nd := ⟨_, rfl⟩
      obtain ⟨hb, hhb⟩ : ∃ hb, hasB N zs = hb := ⟨_, rfl⟩
      obtain ⟨le, hle⟩ : ∃ le, v % N = le := ⟨_, rfl⟩
      rw [hnd] at K1 K2
      rw [hhb] at K3 K4
      rw [hle] at K5 K6
      clear hs1 hsu hnd hhb hle hN hNr
      go_wp2_with fail
      refine (K1.out _).mono ?_; rintro e w3 ⟨rfl, rfl⟩
      go_wp2_with fail
      refine (K2.out _).mono ?_; rintro e w3 ⟨rfl, rfl⟩
      go_wp2_with fail
      refine (K3.out _ hxw).mono ?_; rintro e w3 ⟨rfl, rfl⟩
      go_wp2_with fail
      refine (K4.out _ hxw).mono ?_; rintro e w3 ⟨rfl, h3⟩
      go_wp2_with fail
      refine (K5.out _).mono ?_; rintro e w4 ⟨rfl, rfl⟩
      go_wp2_with fail
      refine (K6.out _).mono ?_; rintro e w4 ⟨rfl, rfl⟩
      go_wp2_with fail
      refine (K7.out _ (hxw.trans h3)).mono ?_; rintro e w4 ⟨rfl, h4⟩
      go_wp2_with fail
      refine (K8.out _ ((hxw.trans h3).trans h4)).mono ?_; rintro e w5 ⟨rfl, h5⟩
      go_wp2_with fail
      refine (K11.out _).mono ?_; rintro e w6 ⟨rfl, rfl⟩
      have hw5 := ((hw.trans h3).trans h4).trans h5
      clear hw hxw h3 h4 h5 e0
      go_wp2_with fail
      have C2 := Lib.hid (two_cells w5 .i64 s0 s1 3)
      replace hw5 := hw5.alloc (.cells #[.int .i64 s0, .int .i64 s1] 3)
      generalize w5.alloc (.cells #[.int .i64 s0, .int .i64 s1] 3) = w6 at *
      generalize w5.heap.size = g2 at *
      go_loopw [77] (fun i wr => ∃ q : Nat, q ≤ 2 ∧ i = .int .i64 q ∧ Ext w6 wr) (fun i _ => 2 - (intOf i).toNat)
      case atStart => exact ⟨0, by omega, rfl, Ext.refl _⟩
      case round =>
        obtain ⟨q, hq, rfl, hw⟩ := hrel
        by_cases hqt : q < 2
        · obtain ⟨s, _, e0⟩ := C2.out q hqt
          replace e0 := hw.cell e0
          have hqi : (q : Int) < 2 := by omega
          have hqn : ((q : Int) < 0) = False := by simp
          go_wp2_with fail
          have C3 : Hid (∀ t, t < 2 → ∃ u : Nat, u < 18446744073709551616 ∧ (wr.alloc (.cells #[.int .u64 (v : Int), .int .u64 ((v : Int) % 100)] 22)).cell? ⟨wr.heap.size, t, none⟩ = some (.int .u64 u)) := Lib.hid (fun t ht => by
            obtain ⟨z, hz, hc⟩ := two_cells wr .u64 v ((v : Int) % 100) 22 t ht
            have hv := HV.out
            rcases hz with rfl | rfl
            · exact ⟨v, hv, hc⟩
            · exact ⟨v % 100, by omega, by rw [hc]; rfl⟩)
          have hw7 := hw.alloc (.cells #[.int .u64 (v : Int), .int .u64 ((v : Int) % 100)] 22)
          clear hw e0
          generalize wr.alloc (.cells #[.int .u64 (v : Int), .int .u64 ((v : Int) % 100)] 22) = w7 at *
          generalize wr.heap.size = g3 at *
          go_loopw [86] (fun i wr => ∃ t : Nat, t ≤ 2 ∧ i = .int .i64 t ∧ Ext w7 wr) (fun i _ => 2 - (intOf i).toNat)
          case atStart => exact ⟨0, by omega, rfl, Ext.refl _⟩
          case round =>
            obtain ⟨t, ht, rfl, hw⟩ := hrel
            by_cases htt : t < 2
            · obtain ⟨u, hu, e0⟩ := C3.out t htt
              replace e0 := hw.cell e0
              have hti : (t : Int) < 2 := by omega
              have htn : ((t : Int) < 0) = False := by simp
              have K12 := Lib.hid (fun w' => K9.out u s w' hu)
              have K13 := Lib.hid (fun w' => K10.out u s w' hu)
              have hsame := next_same u s N
              obtain ⟨⟨b, is⟩, hR⟩ : ∃ r, rnextOf u s N = r := ⟨_, rfl⟩
              rw [hR] at hsame K13
              rw [hsame] at K12
              clear hsame hR hu
              cases is with
              | true =>
                go_wp2_with fail
                refine (K12.out _).mono ?_; rintro e w8 ⟨rfl, rfl⟩
                go_wp2_with fail
                refine (K13.out _).mono ?_; rintro e w8 ⟨rfl, rfl⟩
                go_wp2_with fail
                go_roundw
                case rel => exact ⟨t + 1, by omega, by go_num, hw⟩
                case measure => simp [intOf]; omega
              | false =>
                go_wp2_with fail
                refine (K12.out _).mono ?_; rintro e w8 ⟨rfl, rfl⟩
                go_wp2_with fail
                refine (K13.out _).mono ?_; rintro e w8 ⟨rfl, rfl⟩
                go_wp2_with fail
                go_roundw
                case rel => exact ⟨t + 1, by omega, by go_num, hw⟩
                case measure => simp [intOf]; omega
            · have hti : ((t : Int) < 2) = False := by simp; omega
              go_wp2_with fail
              go_roundw
              case rel => exact ⟨q + 1, by omega, by go_num, hw7.trans hw⟩
              case measure => simp [intOf]; omega
        · have hqi : ((q : Int) < 2) = False := by simp; omega
          go_wp2_with fail
          go_roundw
          case rel => exact ⟨j + 1, by omega, by go_num, hw5.trans hw⟩
          case measure => simp [intOf]; omega
    · have hji : ((j : Int) < 2) = False := by simp; omega
      go_wp2
      go_ret
      exact ⟨rfl, hx.trans hw⟩
end Go.Proofs.Ytkipdnleebcbmaa
