/- Majorities: Sure of both. -/
import Derived.Test.YtkipdnleebcbmaaQD
import Derived.Sort.OwnSortedInts
namespace Go.Proofs.Ytkipdnleebcbmaa
open Go.RowKit
set_option linter.unusedVariables false
set_option linter.unusedSimpArgs false

theorem cnt_snoc (t : Int) (zs : List Int) (j : Nat) (hj : j < zs.length) : QP.cnt t (zs.take (j + 1)) = QP.cnt t (zs.take j) + if t ≤ zs.getD j 0 then 1 else 0 := by
  unfold QP.cnt
  rw [List.take_succ_eq_append_getElem hj, List.countP_append, List.countP_singleton]
  have e : zs.getD j 0 = zs[j] := by rw [List.getD_eq_getElem?_getD, List.getElem?_eq_getElem hj]; rfl
  rw [e]
  congr 1
  simp
theorem cnt_le (t : Int) (l : List Int) : QP.cnt t l ≤ l.length := List.countP_le_length
theorem best_succ (M need : Nat) (zs : List Int) (i : Nat) (x : Int) (b : Int) (hb : QP.best M need zs i = b) (hx : zs.getD i 0 = x) : QP.best M need zs (i + 1) = if need ≤ QP.cnt x (zs.take M) then max b x else b := by
  rw [QP.best, hx, hb]

set_option maxRecDepth 100000 in
set_option maxHeartbeats 1000000 in
theorem rsure_any (n : Int) (A : Option Addr) (m c : Nat) (zs : List Int) (w : World) (h : Ints w A m zs) (hm : m ≤ 9223372036854775807) : Calls Try.prog 15 #[.int .i64 n, .slice A m c] w (RetX (.int .i64 (QP.best (min (nod n) m) (need (nod n)) zs (min (nod n) m))) w) := by
  have HI := Lib.hid h
  have hlen := h.1
  have HLEN := Lib.hid hlen
  clear h hlen
  have HND := Lib.hid (nod_nod n)
  obtain ⟨N, hNe⟩ : ∃ N, nod n = N := ⟨_, rfl⟩
  have hN := nod_range n
  have HC := Lib.hid (fun w => rnodes_any n w)
  rw [hNe] at hN HC HND ⊢
  clear hNe
  obtain ⟨M, hMe⟩ : ∃ M, min N m = M := ⟨_, rfl⟩
  rw [hMe]
  have hM1 : M ≤ N := by omega
  have hM2 : M ≤ m := by omega
  have hM3 : M = N ∨ (M < N ∧ M = m) := by omega
  have HM3 := Lib.hid hM3
  clear hMe hM3
  obtain ⟨nd, hnd⟩ : ∃ nd, need N = nd := ⟨_, rfl⟩
  have HNE : Hid (∀ w, Calls Try.prog 9 #[.int .i64 N] w (RetS (.int .i64 nd) w)) := Lib.hid (fun w => by
    have := rneed_any (N : Int) w
    rwa [HND.out, hnd] at this)
  have hndr := need_range hN.1
  rw [hnd] at hndr ⊢
  clear hnd
  go_enter Try.func15, Try.ntmps15
  go_wp2_with (go_at_call 20; refine (HC.out _).mono ?_; rintro e w' ⟨rfl, rfl⟩)
  go_loopw [5, 6] (fun t i wr => ∃ k : Nat, k ≤ M ∧ i = .int .i64 k ∧ t = .int .i64 (QP.best M nd zs k) ∧ Ext w wr) (fun _ i _ => M - (intOf i).toNat)
  case atStart => exact ⟨0, Nat.zero_le _, rfl, rfl, Ext.refl _⟩
  case round =>
    obtain ⟨k, hk, rfl, rfl, hw⟩ := hrel
    obtain ⟨bst, hbst⟩ : ∃ b, QP.best M nd zs k = b := ⟨_, rfl⟩
    rw [hbst]
    have HB := Lib.hid hbst
    clear hbst
    by_cases hlt : k < M
    · obtain ⟨b, off, rfl, hcell⟩ := HI.out.2 (by omega)
      have HCL := Lib.hid hcell
      clear hcell
      obtain ⟨x, hx⟩ : ∃ x, zs.getD k 0 = x := ⟨_, rfl⟩
      have HX := Lib.hid hx
      clear hx
      have hkN : (k : Int) < (N : Int) := by omega
      have hkm : (k : Int) < (m : Int) := by omega
      have hkn : ((k : Int) < 0) = False := by simp
      have HS := Lib.hid (best_succ M nd zs k x bst HB.out HX.out)
      go_wp2_with fail
      go_loopw [7, 8] (fun t j w2 => ∃ q : Nat, q ≤ M ∧ j = .int .i64 q ∧ t = .int .i64 (QP.cnt x (zs.take q)) ∧ Ext w w2) (fun _ j _ => M - (intOf j).toNat)
      case atStart => exact ⟨0, Nat.zero_le _, rfl, rfl, hw⟩
      case round =>
        clear hw
        obtain ⟨q, hq, rfl, rfl, hw3⟩ := hrel
        by_cases hql : q < M
        · have hqN : (q : Int) < (N : Int) := by omega
          have hqm : (q : Int) < (m : Int) := by omega
          have hqn : ((q : Int) < 0) = False := by simp
          have e0 := hw3.cell (HCL.out k (by omega))
          have e1 := hw3.cell (HCL.out q (by omega))
          obtain ⟨y, hy⟩ : ∃ y, zs.getD q 0 = y := ⟨_, rfl⟩
          have hs := cnt_snoc x zs q (by rw [HLEN.out]; omega)
          rw [hy] at e1 hs
          rw [HX.out] at e0
          have HY := Lib.hid hs
          have hcl := cnt_le x (zs.take q)
          rw [List.length_take] at hcl
          clear hy hs
          by_cases hxy : x ≤ y
          · go_wp2_with fail
            go_quiet (fail)
            have hw4 := hw3.drewN nq
            go_wp2_with fail
            go_roundw
            case rel => exact ⟨q + 1, by omega, by go_num, by rw [HY.out, if_pos hxy]; go_num, hw4⟩
            case measure => simp [intOf]; omega
          · go_wp2_with fail
            go_quiet (fail)
            have hw4 := hw3.drewN nq
            go_wp2_with fail
            go_roundw
            case rel => exact ⟨q + 1, by omega, by go_num, by rw [HY.out, if_neg (by omega)]; rfl, hw4⟩
            case measure => simp [intOf]; omega
        · obtain rfl : q = M := by omega
          have e0 := hw3.cell (HCL.out k (by omega))
          rw [HX.out] at e0
          have hcase : (∃ u : Nat, N = u ∧ q = u) ∨ (∃ u : Nat, m = u ∧ q = u ∧ (u : Int) < (N : Int)) := by
            rcases HM3.out with g | ⟨g1, g2⟩
            · exact .inl ⟨_, rfl, g⟩
            · exact .inr ⟨_, rfl, g2, by omega⟩
          obtain ⟨cn, hcn⟩ : ∃ cn, QP.cnt x (zs.take q) = cn := ⟨_, rfl⟩
          rw [hcn]
          have hs := HS.out
          rw [hcn] at hs
          have HS2 := Lib.hid hs
          clear hs hcn
          by_cases hge : nd ≤ cn
          · have HS3 := Lib.hid (HS2.out.trans (if_pos hge))
            rcases hcase with ⟨u, rfl, rfl⟩ | ⟨u, rfl, rfl, hun⟩
            all_goals
              go_wp2_with (go_at_call 9; refine (HNE.out _).mono ?_; rintro e w' ⟨rfl, rfl⟩)
              go_roundw
              case rel => exact ⟨k + 1, by omega, by go_num, by rw [HS3.out], hw3⟩
              case measure => simp [intOf]; omega
          · have HS3 := Lib.hid (HS2.out.trans (if_neg hge))
            rcases hcase with ⟨u, rfl, rfl⟩ | ⟨u, rfl, rfl, hun⟩
            all_goals
              go_wp2_with (go_at_call 9; refine (HNE.out _).mono ?_; rintro e w' ⟨rfl, rfl⟩)
              go_roundw
              case rel => exact ⟨k + 1, by omega, by go_num, by rw [HS3.out], hw3⟩
              case measure => simp [intOf]; omega
    · obtain rfl : k = M := by omega
      have hcase : (∃ u : Nat, N = u ∧ k = u) ∨ (∃ u : Nat, m = u ∧ k = u ∧ (u : Int) < (N : Int)) := by
        rcases HM3.out with g | ⟨g1, g2⟩
        · exact .inl ⟨_, rfl, g⟩
        · exact .inr ⟨_, rfl, g2, by omega⟩
      rcases hcase with ⟨u, rfl, rfl⟩ | ⟨u, rfl, rfl, hun⟩
      all_goals
        go_wp2
        go_ret
        exact ⟨by rw [HB.out]; rfl, hw⟩
/-- what the loop of Sure has stored -/
def padTo (N : Nat) (zs : List Int) (i : Nat) : List Int := (List.range N).map fun j => if j < i then max (zs.getD j 0) 0 else 0
def ints (l : List Int) : List Value := l.map (Value.int .i64)
theorem padTo_length (N : Nat) (zs : List Int) (i : Nat) : (padTo N zs i).length = N := by simp [padTo]
theorem padTo_zero (N : Nat) (zs : List Int) : ints (padTo N zs 0) = List.replicate N (.int .i64 0) := by
  apply List.ext_getElem (by simp [ints, padTo])
  intro j h1 h2
  simp [ints, padTo]
theorem padTo_set (N : Nat) (zs : List Int) (i : Nat) (x : Int) (hx : zs.getD i 0 = x) (hi : i < N) : (ints (padTo N zs i)).set i (.int .i64 (max x 0)) = ints (padTo N zs (i + 1)) := by
  apply List.ext_getElem (by simp [ints, padTo])
  intro j h1 h2
  by_cases h : i = j
  · subst h
    simp only [List.getElem_set_self]
    simp [ints, padTo, ← hx]
  · rw [List.getElem_set_ne h]
    have e : (j < i) ↔ (j < i + 1) := by omega
    simp [ints, padTo, e]
theorem padTo_all (N : Nat) (zs : List Int) (i : Nat) (hi : i = min N zs.length) : padTo N zs i = QP.padded N zs := by
  unfold padTo QP.padded
  apply List.map_congr_left
  intro j hj
  simp only [List.mem_range] at hj
  have e : (j < i) ↔ (j < zs.length) := by omega
  simp [e]
theorem info3 : (Try.prog.info? 3).map (fun i => (i.zero, i.size, i.bytes)) = some (some (.int .i64 0), 1, 8) := by kernel_rfl

set_option maxRecDepth 100000 in
set_option maxHeartbeats 1000000 in
theorem sure_any (n : Int) (A : Option Addr) (m c : Nat) (zs : List Int) (w : World) (h : Ints w A m zs) (hm : m ≤ c) (hc : c ≤ 9223372036854775807) : Calls Try.prog 14 #[.int .i64 n, .slice A m c] w (RetX (.int .i64 (QP.nth (QP.padded (nod n) zs) (need (nod n)))) w) := by
  have HI := Lib.hid h
  have hlen := h.1
  have HLEN := Lib.hid hlen
  clear h hlen
  have HND := Lib.hid (nod_nod n)
  obtain ⟨N, hNe⟩ : ∃ N, nod n = N := ⟨_, rfl⟩
  have hN := nod_range n
  have HC := Lib.hid (fun w => nodes_any n w)
  rw [hNe] at hN HC HND ⊢
  clear hNe
  obtain ⟨nd, hnd⟩ : ∃ nd, need N = nd := ⟨_, rfl⟩
  have HNE : Hid (∀ w, Calls Try.prog 8 #[.int .i64 N] w (RetS (.int .i64 nd) w)) := Lib.hid (fun w => by
    have := need_any (N : Int) w
    rwa [HND.out, hnd] at this)
  have hndr := need_range hN.1
  rw [hnd] at hndr ⊢
  clear hnd
  obtain ⟨M, hMe⟩ : ∃ M, min N m = M := ⟨_, rfl⟩
  have hM1 : M ≤ N := by omega
  have hM2 : M ≤ m := by omega
  have HM : Hid (M = min N zs.length) := Lib.hid (by rw [HLEN.out, hMe])
  have hcase : (m ≤ N ∧ M = m) ∨ (N < m ∧ M = N) := by omega
  clear hMe
  obtain ⟨i0, hi, hz0, hz1, hz2⟩ := info_parts info3
  go_enter Try.func14, Try.ntmps14
  go_wp2_with (first | (go_at_call 19; refine (HC.out _).mono ?_; rintro e w' ⟨rfl, rfl⟩) | (refine wpList_make_full _ rfl _ _ 23 rfl w.heap.size 3 i0 (.int .i64 0) 1 Try.underlying23 hi hz0 hz1 .i64 .i64 (N : Int) (N : Int) N rfl rfl rfl rfl ?b2 ?b3 (Nat.le_refl _) ?next))
  case b2 => rw [hz2]; omega
  case b3 => unfold maxLen; omega
  case next =>
    intro w1 hown hgrow
    have e0 : (madeCells #[Value.int .i64 0] N).toList = ints (padTo N zs 0) := by
      rw [padTo_zero]; exact toList_madeCells_one _ _
    rw [e0] at hown
    have hx1 : Ext w w1 := (Ext.refl w).grown hgrow (Nat.le_refl _) (fun j hj => by cases hj)
    have HO := Lib.hid hown
    obtain ⟨B, hB⟩ : ∃ B, w.heap.size = B := ⟨_, rfl⟩
    have HBB : Hid (w.heap.size = B) := Lib.hid hB
    rw [hB] at HO ⊢
    clear e0 hgrow hown hi hz0 hz1 hz2 hB
    have hmin : min (m : Int) (N : Int) = (M : Int) := by omega
    have hmax : max (M : Int) 0 = (M : Int) := by omega
    have hMc : (M : Int) ≤ (c : Int) := by omega
    have hMn : ((M : Int) < 0) = False := by simp
    clear hcase
    go_wp2_with fail
    clear hmin hmax hMc hMn
    go_loopw [19] (fun i wr => ∃ k : Nat, k ≤ M ∧ i = .int .i64 k ∧ wr.ownsRow B 3 1 (.slice (some ⟨B, 0, none⟩) N N) N (ints (padTo N zs k)) ∧ Ext w wr) (fun i _ => M - (intOf i).toNat)
    case atStart => exact ⟨0, Nat.zero_le _, rfl, HO.out, hx1⟩
    case round =>
      clear hx1 HO
      obtain ⟨k, hk, rfl, hown, hw⟩ := hrel
      have HO := Lib.hid hown
      by_cases hlt : k < M
      · obtain ⟨b, off, rfl, hcell⟩ := HI.out.2 (by omega)
        have e0 := hw.cell (hcell k (by omega))
        obtain ⟨x, hx⟩ : ∃ x, zs.getD k 0 = x := ⟨_, rfl⟩
        rw [hx] at e0
        have d0 := hown.cellAt k (by omega)
        have df := hown.frozenAt k
        have e1 : (ints (padTo N zs k))[k]? = some (.int .i64 ((padTo N zs k).getD k 0)) := by
          have : k < (padTo N zs k).length := by rw [padTo_length]; omega
          simp [ints, List.getElem?_eq_getElem this, List.getD_eq_getElem?_getD]
        rw [e1] at d0
        have hst := (hown.stored k (.int .i64 (max x 0)))
        rw [padTo_set N zs k x hx (by omega)] at hst
        have HST := Lib.hid hst
        have hkN : (k : Int) < (N : Int) := by omega
        have hkm : (k : Int) < (M : Int) := by omega
        have hkn : ((k : Int) < 0) = False := by simp
        clear hst e1 hcell hown hx
        go_wp2_with fail
        go_roundw
        case rel => exact ⟨k + 1, by omega, by go_num, HST.out.1, hw.setCell (by rw [HBB.out]; exact Nat.le_refl _) _⟩
        case measure => simp [intOf]; omega
      · obtain rfl : k = M := by omega
        rw [padTo_all N zs k HM.out] at hown
        rcases hown.2 with ⟨h0, _⟩ | ⟨g, cap, cur, hv, hb, hg, h1, h2, h3, h4⟩
        · cases h0
        · simp only [Value.slice.injEq, Option.some.injEq, Addr.mk.injEq, and_true, true_and] at hv
          obtain ⟨rfl, rfl⟩ := hv
          have hl : (QP.padded N zs).length = N := QP.padded_length N zs
          have hH := holds_of_blockI (ss := QP.padded N zs) hg (by rw [hl]; simpa [ints] using h4)
          have hS := Try.slices_Sort_int B 0 N (QP.padded N zs) wr hH (Array.getElem?_eq_some_iff.1 hg).1 (by rw [hl]; omega)
          rw [hl] at hS
          have hS2 : Calls Try.prog 22 #[.slice (some ⟨B, 0, none⟩) N N] wr (fun e w' => e = .returned (.tuple #[]) ∧ w'.cell? ⟨B, N - nd, none⟩ = some (.int .i64 (QP.nth (QP.padded N zs) nd)) ∧ Ext w w') := by
            refine hS.mono ?_
            rintro e w' ⟨he, q, os, rfl⟩
            have hlm : ((QP.padded N zs).mergeSort fun x y => decide (x ≤ y)).length = (QP.padded N zs).length := List.length_mergeSort _
            have r1 := ownsRow_sortedI (n := q) (os := os) hlm hb hg (by rw [hl]; exact h1) h2 h3
            have r2 := grownBy_sortedI (w := wr) (g := B) (n := q) (os := os) ((QP.padded N zs).mergeSort fun x y => decide (x ≤ y)).toArray
            rw [hl] at r1
            refine ⟨he, ?_, hw.grown r2 (by have := hw.size; exact this) (fun j hj => by cases hj; rw [HBB.out]; exact Nat.le_refl _)⟩
            rw [r1.cellAt (N - nd) (by omega)]
            unfold QP.nth
            rw [hl]
            have : N - nd < ((QP.padded N zs).mergeSort fun x y => decide (x ≤ y)).length := by rw [hlm, hl]; omega
            simp [List.getElem?_eq_getElem this, List.getD_eq_getElem?_getD]
          clear hown HO hS hH hg h1 h2 h3 h4 hl
          go_wp2_with fail
          refine hS2.mono ?_
          rintro e w4 ⟨rfl, e0, hw4⟩
          clear hS2
          have hndi : (nd : Int) ≤ (N : Int) := by omega
          have hlt2 : (N : Int) - (nd : Int) < (N : Int) := by omega
          go_wp2_with (go_at_call 8; refine (HNE.out _).mono ?_; rintro e w' ⟨rfl, rfl⟩)
          go_ret
          exact ⟨rfl, hw4⟩
end Go.Proofs.Ytkipdnleebcbmaa
