/- The law's 'known'. -/
import Derived.Test.YtbeoickdcbnjgaaNetJ
import Derived.Lib.SmallJoins
namespace Go.Proofs.Ytbeoickdcbnjgaa
open Go.RowKit
set_option linter.unusedVariables false
set_option linter.unusedSimpArgs false
attribute [local go_sem] stepR givesR fillE Ext.refl

theorem k_take1 : takeOf 1 [(0, 1, [120]), (1, 2, [])] 0 = ([(1, 2, [])], (0, 0, []), false) := by decide +kernel
theorem k_take2 : takeOf 1 [(1, 2, [])] 0 = ([], (1, 2, []), true) := by decide +kernel
theorem k_j01 : joinB 1 0 1 = false := by decide +kernel
theorem k_j12 : joinB 1 1 2 = true := by decide +kernel
theorem says_nil {ps : List Pk} (h : ps.map Pk.says = []) : ps = [] := by simpa using h
theorem says_wf {ps : List Pk} {L : List Says} (h : ps.map Pk.says = L) (hL : ∀ s ∈ L, (IntKind.i64.min ≤ s.1 ∧ s.1 ≤ IntKind.i64.max) ∧ (IntKind.i64.min ≤ s.2.1 ∧ s.2.1 ≤ IntKind.i64.max)) : ∀ p ∈ ps, (IntKind.i64.min ≤ p.f ∧ p.f ≤ IntKind.i64.max) ∧ (IntKind.i64.min ≤ p.t ∧ p.t ≤ IntKind.i64.max) := by
  intro p hp
  exact hL p.says (by rw [← h]; exact List.mem_map_of_mem hp)

def kp0 (g : Nat) : Pk := ⟨0, 1, some ⟨g + 1, 0, none⟩, 1, 1, [120]⟩
def kp1 : Pk := ⟨1, 2, none, 0, 0, []⟩
theorem known_start {w : World} {g : Nat} {fr : Nat × Nat} (o0 : w.heap[g]? = some (.cells #[.slice none 0 0, .int .u64 0] 47 (0, 0))) (o1 : w.heap[g + 1]? = some (.cells #[.int .u8 120] 5 fr)) (o2 : w.heap[g + 1 + 1]? = some (.cells (pcells [kp0 g, kp1]).toArray 33 (0, 0))) :
    NetP w (fun k => k = g) g g (.slice none 0 0) 0 [] ∧ PSlice w (With (fun k => k = g) (.slice none 0 0)) (some ⟨g + 1 + 1, 0, none⟩) [kp0 g, kp1] := by
  have hg : g < w.heap.size := (Array.getElem?_eq_some_iff.1 o0).1
  have hS : ∀ k, With (fun k => k = g) (.slice none 0 0) k → k = g := by
    intro k hk
    rcases hk with hk | hk
    · exact hk
    · simp [Value.ownBlock] at hk
  refine ⟨new_net o0 (Nat.le_refl _) rfl (fun k e => by rw [show k = g from e]; exact hg), fun _ => ⟨g + 1 + 1, 0, rfl, fun h => by have := hS _ h; omega, fun j p hj => ?_⟩⟩
  match j, hj with
  | 0, hj =>
    simp at hj
    subst hj
    refine ⟨⟨?_, ?_, ?_⟩, ⟨⟨rfl, fun _ => ⟨g + 1, 0, rfl, fun h => by have := hS _ h; omega, fun i hi => ?_⟩⟩, Nat.le_refl _, (show (1 : Nat) ≤ 1000 by decide)⟩⟩
    · rw [cell_of_row _ _ _ _ _ _ o2]; rfl
    · rw [cell_of_row _ _ _ _ _ _ o2]; rfl
    · rw [cell_of_row _ _ _ _ _ _ o2]; rfl
    · have : i = 0 := by have : i < 1 := hi; omega
      subst this
      rw [cell_of_row _ _ _ _ _ _ o1]; rfl
  | 1, hj =>
    simp at hj
    subst hj
    refine ⟨⟨?_, ?_, ?_⟩, ⟨Bt.nil _ _ _, Nat.le_refl _, Nat.zero_le _⟩⟩ <;> (rw [cell_of_row _ _ _ _ _ _ o2]; rfl)
set_option maxRecDepth 100000 in
set_option maxHeartbeats 4000000 in
theorem known_any (w : World) : Calls Try.prog 4 #[] w (RetX (.bool true) w) := by
  go_enter Try.func4, Try.ntmps4
  go_wp2_with fail
  refine (new_any w).mono ?_
  rintro e w1 ⟨rfl, rfl⟩
  have kc := Go.Joins.run_convert_bytes_const_at (P := Try.prog) (w.alloc (.cells #[.slice none 0 0, .int .u64 0] 47)) 31 5 #[.int .u8 120] 1 1 (w.heap.size + 1) (by simp) Try.underlying31 Try.underlying5
  go_wp2_with fail
  have x1 : Ext (w.alloc (.cells #[.slice none 0 0, .int .u64 0] 47)) ((w.alloc (.cells #[.slice none 0 0, .int .u64 0] 47)).alloc (.cells #[.int .u8 120] 5 (1, 2))) := (Ext.refl _).alloc _
  have x2 : Ext ((w.alloc (.cells #[.slice none 0 0, .int .u64 0] 47)).alloc (.cells #[.int .u8 120] 5 (1, 2))) (((w.alloc (.cells #[.slice none 0 0, .int .u64 0] 47)).alloc (.cells #[.int .u8 120] 5 (1, 2))).alloc (.cells (pcells [kp0 w.heap.size, kp1]).toArray 33)) := (Ext.refl _).alloc _
  have o0 := (x1.trans x2).obj (heap_alloc_new w (.cells #[.slice none 0 0, .int .u64 0] 47))
  have o1 : (((w.alloc (.cells #[.slice none 0 0, .int .u64 0] 47)).alloc (.cells #[.int .u8 120] 5 (1, 2))).alloc (.cells (pcells [kp0 w.heap.size, kp1]).toArray 33)).heap[w.heap.size + 1]? = some (.cells #[.int .u8 120] 5 (1, 2)) := by
    have := x2.obj (heap_alloc_new (w.alloc (.cells #[.slice none 0 0, .int .u64 0] 47)) (.cells #[.int .u8 120] 5 (1, 2)))
    simpa using this
  have o2 : (((w.alloc (.cells #[.slice none 0 0, .int .u64 0] 47)).alloc (.cells #[.int .u8 120] 5 (1, 2))).alloc (.cells (pcells [kp0 w.heap.size, kp1]).toArray 33)).heap[w.heap.size + 1 + 1]? = some (.cells (pcells [kp0 w.heap.size, kp1]).toArray 33 (0, 0)) := by
    have := heap_alloc_new ((w.alloc (.cells #[.slice none 0 0, .int .u64 0] 47)).alloc (.cells #[.int .u8 120] 5 (1, 2))) (.cells (pcells [kp0 w.heap.size, kp1]).toArray 33)
    simpa using this
  obtain ⟨n1, n2⟩ := known_start o0 o1 o2
  have hx : Ext w (((w.alloc (.cells #[.slice none 0 0, .int .u64 0] 47)).alloc (.cells #[.int .u8 120] 5 (1, 2))).alloc (.cells (pcells [kp0 w.heap.size, kp1]).toArray 33)) := ((Ext.refl w).alloc _).trans (x1.trans x2)
  have hs1 := send_any n1 (Nat.le_of_lt n1.lt) (some ⟨w.heap.size + 1 + 1, 0, none⟩) 2 [kp0 w.heap.size, kp1] n2 (show 0 + 2 ≤ 1000 by decide)
  have HX := Lib.hid hx
  clear x1 x2 o0 o1 o2 n1 n2 hx kc
  refine hs1.mono ?_
  rintro e w4 ⟨v4, ps4, rfl, n4, s4, _, c4⟩
  obtain ⟨g, hg⟩ : ∃ g, w.heap.size = g := ⟨_, rfl⟩
  have HG := Lib.hid hg
  have HX4 : Hid (Ext w w4) := Lib.hid (Below.trans HX.out (c4.below HX.out.size_le' (fun k hk => by
    rcases hk with hk | hk
    · omega
    · simp [Value.ownBlock] at hk)))
  rw [hg] at n4 ⊢
  have hs5 := part_any n4 1 (by decide)
  have HS4 := Lib.hid (And.intro n4 s4)
  clear hs1 n4 s4 c4 HX hg
  go_wp2_with fail
  refine hs5.mono ?_
  rintro e w5 ⟨v5, ps5, rfl, n5, s5, _, c5⟩
  have HX5 : Hid (Ext w w5) := Lib.hid (Below.trans HX4.out (c5.below HX4.out.size_le' (fun k hk => by
    rcases hk with hk | hk
    · have := HG.out; omega
    · have := (CRow.lt HS4.out.1.row k hk.symm).1; have := HG.out; omega)))
  have e5 : ps5.map Pk.says = [(0, 1, [120]), (1, 2, [])] := by rw [s5, HS4.out.2]; rfl
  have hs6 := take_any n5 (Nat.le_of_lt n5.lt) 0 (says_wf e5 (by decide))
  rw [e5, k_take1] at hs6
  have HS5 := Lib.hid n5
  clear hs5 n5 s5 c5 HX4 HS4 e5
  go_wp2_with fail
  refine hs6.mono ?_
  rintro e w6 ⟨v6, ps6, ⟨qf, qt, qB, qn, qc, qxs⟩, rfl, n6, s6, t6, _, _, c6⟩
  simp only at s6
  have HX6 : Hid (Ext w w6) := Lib.hid (Below.trans HX5.out (c6.below HX5.out.size_le' (fun k hk => by
    rcases hk with hk | hk
    · have := HG.out; omega
    · have := (CRow.lt HS5.out.row k hk.symm).1; have := HG.out; omega)))
  have HS6 := Lib.hid (And.intro n6 s6)
  clear hs6 n6 s6 t6 c6 HX5 HS5
  go_wp2_with fail
  have x7 : Ext w6 (w6.alloc (.cells #[.int .i64 qf, .int .i64 qt, .slice qB qn qc] 33)) := (Ext.refl w6).alloc _
  have n7 := HS6.out.1.ext x7
  have hs7 := take_any n7 (Nat.le_of_lt n7.lt) 0 (says_wf HS6.out.2 (by decide))
  rw [HS6.out.2, k_take2] at hs7
  have HX7 : Hid (Ext w _) := Lib.hid (HX6.out.trans x7)
  have HS7 := Lib.hid n7
  clear n7 x7 HX6 HS6
  refine hs7.mono ?_
  rintro e w8 ⟨v8, ps8, ⟨pf, pt, pB, pn, pc, pxs⟩, rfl, n8, s8, t8, _, _, c8⟩
  simp only at s8
  simp only [Pk.says, Prod.mk.injEq] at t8
  obtain ⟨rfl, rfl, rfl⟩ := t8
  obtain rfl := says_nil s8
  have HX8 : Hid (Ext w w8) := Lib.hid (Below.trans HX7.out (c8.below HX7.out.size_le' (fun k hk => by
    rcases hk with hk | hk
    · have := HG.out; omega
    · have := (CRow.lt HS7.out.row k hk.symm).1; have := HG.out; omega)))
  have x9 : Ext w8 (w8.alloc (.cells #[.int .i64 1, .int .i64 2, .slice pB pn pc] 33)) := (Ext.refl w8).alloc _
  have n9 := n8.ext x9
  have j1 := joined_any n9 0 1 (by decide) (by decide)
  have j2 := joined_any n9 1 2 (by decide) (by decide)
  rw [k_j01] at j1
  rw [k_j12] at j2
  have l9 := len_any n9
  have HX9 := Lib.hid (HX8.out.trans x9)
  clear hs7 n8 s8 c8 HX7 HS7 HX8 x9 n9
  go_wp2_with fail
  refine j1.mono ?_; rintro e w10 ⟨rfl, rfl⟩
  go_wp2_with fail
  refine j2.mono ?_; rintro e w10 ⟨rfl, rfl⟩
  go_wp2_with fail
  refine l9.mono ?_; rintro e w10 ⟨rfl, rfl⟩
  go_wp2_with fail
  go_ret
  exact ⟨rfl, HX9.out⟩
end Go.Proofs.Ytbeoickdcbnjgaa
