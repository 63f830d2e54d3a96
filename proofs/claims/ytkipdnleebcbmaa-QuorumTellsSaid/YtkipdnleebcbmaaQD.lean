/- Majorities: the reference's Has. -/
import Derived.Test.YtkipdnleebcbmaaQC
import Derived.WalkSmall
namespace Go.Proofs.Ytkipdnleebcbmaa
open Go.RowKit
set_option linter.unusedVariables false
set_option linter.unusedSimpArgs false

theorem Ext.drewN {w w' : World} (h : Ext w w') (n : Nat) : Ext w (w'.drewN n) := ⟨h.os, h.tape, h.output, h.size, h.block⟩
def twiceB (N : Nat) (zs : List Int) (i j : Nat) : Bool := decide (zs.getD i 0 < 0) || decide ((N : Int) ≤ zs.getD i 0) || (zs.take j).contains (zs.getD i 0)
theorem twice_succ (N : Nat) (zs : List Int) (i j : Nat) (hj : j < zs.length) : twiceB N zs i (j + 1) = (twiceB N zs i j || (zs.getD j 0 == zs.getD i 0)) := by
  unfold twiceB
  rw [List.take_succ_eq_append_getElem hj]
  have e : zs.getD j 0 = zs[j] := by rw [List.getD_eq_getElem?_getD, List.getElem?_eq_getElem hj]; rfl
  rw [e, List.contains_append]
  have e2 : List.contains [zs[j]] (zs.getD i 0) = (zs[j] == zs.getD i 0) := by
    rw [Bool.eq_iff_iff, List.contains_iff_mem, List.mem_singleton, beq_iff_eq]
    exact eq_comm
  rw [e2]
  simp only [Bool.or_assoc]
theorem twice_fresh (N : Nat) (zs : List Int) (i : Nat) (hi : i ≤ zs.length) : QP.distinct N zs (i + 1) = QP.distinct N zs i + if twiceB N zs i i = true then 0 else 1 := by
  rw [QP.distinct]
  congr 1
  have e : QP.fresh N (zs.take i) (zs.getD i 0) = !twiceB N zs i i := by
    unfold QP.fresh twiceB
    generalize (zs.take i).contains (zs.getD i 0) = c
    rw [Bool.eq_iff_iff]
    cases c
    · simp
    · simp
  rw [e]
  cases twiceB N zs i i <;> rfl
theorem distinct_le (N : Nat) (zs : List Int) : ∀ k, QP.distinct N zs k ≤ k
  | 0 => Nat.le_refl _
  | k + 1 => by
    have := distinct_le N zs k
    rw [QP.distinct]; split <;> omega

set_option maxRecDepth 100000 in
set_option maxHeartbeats 1000000 in
theorem rhas_any (n : Int) (A : Option Addr) (m c : Nat) (zs : List Int) (w : World) (h : Ints w A m zs) (hm : m ≤ 9223372036854775807) : Calls Try.prog 11 #[.int .i64 n, .slice A m c] w (RetX (.bool (hasB (nod n) zs)) w) := by
  have HI := Lib.hid h
  have hlen := h.1
  have HLEN := Lib.hid hlen
  clear h hlen
  have hN := nod_range n
  go_enter Try.func11, Try.ntmps11
  go_wp2
  go_loopw [5, 6] (fun t i wr => ∃ k : Nat, k ≤ m ∧ i = .int .i64 k ∧ t = .int .i64 (QP.distinct (nod n) zs k) ∧ Ext w wr) (fun _ i _ => m - (intOf i).toNat)
  case atStart => exact ⟨0, Nat.zero_le _, rfl, rfl, Ext.refl _⟩
  case round =>
    obtain ⟨k, hk, rfl, rfl, hw⟩ := hrel
    have hle := distinct_le (nod n) zs k
    by_cases hlt : k < m
    · obtain ⟨b, off, rfl, hcell⟩ := HI.out.2 (by omega)
      have e0 := hw.cell (hcell k hlt)
      have HC := Lib.hid hcell
      obtain ⟨x, hx⟩ : ∃ x, zs.getD k 0 = x := ⟨_, rfl⟩
      rw [hx] at e0
      have HX := Lib.hid hx
      clear hcell hx
      have hki : (k : Int) < (m : Int) := by omega
      have hkn : ((k : Int) < 0) = False := by simp
      have HS := Lib.hid (twice_fresh (nod n) zs k (by rw [HLEN.out]; omega))
      have hT : twiceB (nod n) zs k 0 = (decide (x < 0) || decide ((nod n : Int) ≤ x)) := by unfold twiceB; rw [HX.out]; simp
      have hcase : (x < 0 ∧ twiceB (nod n) zs k 0 = true) ∨ (decide (x < 0) = false ∧ 0 ≤ x ∧ (nod n : Int) ≤ x ∧ twiceB (nod n) zs k 0 = true) ∨ (decide (x < 0) = false ∧ 0 ≤ x ∧ decide ((nod n : Int) ≤ x) = false ∧ twiceB (nod n) zs k 0 = false) := by
        rw [hT]
        by_cases g0 : x < 0
        · left; simp [g0]
        · right
          by_cases g1 : (nod n : Int) ≤ x
          · left; simp [g0, g1]; omega
          · right; simp [g0, g1]; omega
      clear hT
      rcases hcase with ⟨h0, hT⟩ | ⟨h0, h1, h2, hT⟩ | ⟨h0, h1, h2, hT⟩
      all_goals
        have HT := Lib.hid hT
        clear hT
        go_wp2_with fail
        go_quiet ((go_at_call 20; refine Calls.quiet_of_same ((rnodes_any _ _).mono fun e w' h => ⟨h.1, h.2.symm⟩)))
        have hw2 := hw.drewN nq
        clear hw e0
        go_wp2_with fail
        go_loopw [7, 8] (fun t j w2 => ∃ q : Nat, q ≤ k ∧ j = .int .i64 q ∧ t = .bool (twiceB (nod n) zs k q) ∧ Ext w w2) (fun _ j _ => k - (intOf j).toNat)
        case atStart => exact ⟨0, Nat.zero_le _, rfl, by rw [HT.out], hw2⟩
        case round =>
          clear hw2
          obtain ⟨q, hq, rfl, rfl, hw3⟩ := hrel
          obtain ⟨T, hTq⟩ : ∃ T, twiceB (nod n) zs k q = T := ⟨_, rfl⟩
          rw [hTq]
          have HTq := Lib.hid hTq
          clear hTq
          by_cases hql : q < k
          · have hqi : (q : Int) < (k : Int) := by omega
            have hqm : (q : Int) < (m : Int) := by omega
            have hqn : ((q : Int) < 0) = False := by simp
            have e0 := hw3.cell (HC.out k hlt)
            have e1 := hw3.cell (HC.out q (by omega))
            obtain ⟨y, hy⟩ : ∃ y, zs.getD q 0 = y := ⟨_, rfl⟩
            rw [hy] at e1
            rw [HX.out] at e0
            have HY := Lib.hid hy
            clear hy
            cases T with
            | true =>
              go_wp2_with fail
              go_quiet (fail)
              have hw4 := hw3.drewN nq
              go_wp2_with fail
              go_roundw
              case rel => exact ⟨q + 1, by omega, by go_num, by rw [twice_succ _ _ _ _ (by rw [HLEN.out]; omega), HTq.out]; rfl, hw4⟩
              case measure => simp [intOf]; omega
            | false =>
              go_wp2_with fail
              go_quiet (fail)
              have hw4 := hw3.drewN nq
              go_wp2_with fail
              go_roundw
              case rel => exact ⟨q + 1, by omega, by go_num, by rw [twice_succ _ _ _ _ (by rw [HLEN.out]; omega), HTq.out, HX.out, HY.out]; rfl, hw4⟩
              case measure => simp [intOf]; omega
          · obtain rfl : q = k := by omega
            have hs := HS.out
            rw [HTq.out] at hs
            have HS2 := Lib.hid hs
            clear hs
            cases T with
            | true =>
              go_wp2_with fail
              go_roundw
              case rel => exact ⟨q + 1, by omega, by go_num, by rw [HS2.out]; rfl, hw3⟩
              case measure => simp [intOf]; omega
            | false =>
              go_wp2_with fail
              go_roundw
              case rel => exact ⟨q + 1, by omega, by go_num, by rw [HS2.out]; go_num, hw3⟩
              case measure => simp [intOf]; omega
    · obtain rfl : k = m := by omega
      rw [← HLEN.out, QP.distinct_all]
      go_wp2_with (go_at_call 9; refine (rneed_any _ _).mono ?_; rintro e w' ⟨rfl, rfl⟩)
      go_ret
      exact ⟨rfl, hw⟩
end Go.Proofs.Ytkipdnleebcbmaa
