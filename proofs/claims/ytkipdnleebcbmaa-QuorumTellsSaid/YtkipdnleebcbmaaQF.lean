/- Majorities: the laws' 'known'. -/
import Derived.Test.YtkipdnleebcbmaaQE
namespace Go.Proofs.Ytkipdnleebcbmaa
open Go.RowKit
set_option linter.unusedVariables false
set_option linter.unusedSimpArgs false

theorem ints_new (w : World) (cs : Array Value) (T : TypeId) (zs : List Int) (h : cs.toList = ints zs) (n : Nat) (hn : zs.length = n) : Ints (w.alloc (.cells cs T)) (some ⟨w.heap.size, 0, none⟩) n zs := by
  refine ⟨hn, fun _ => ⟨w.heap.size, 0, rfl, fun j hj => ?_⟩⟩
  rw [cell_of_row _ _ _ _ _ _ (heap_alloc_new w _), Nat.zero_add, ← Array.getElem?_toList, h]
  have : j < zs.length := by omega
  simp [ints, List.getElem?_eq_getElem this, List.getD_eq_getElem?_getD]

theorem k_next0 (w : World) : Calls Try.prog 17 #[.int .u64 4, .int .i64 0, .int .i64 3] w (fun e w' => e = .returned (.tuple #[.int .u64 6, .bool true]) ∧ w = w') := next_any 4 0 3 w (by decide)
theorem k_next3 (w : World) : Calls Try.prog 17 #[.int .u64 4, .int .i64 3, .int .i64 3] w (fun e w' => e = .returned (.tuple #[.int .u64 0, .bool false]) ∧ w = w') := next_any 4 3 3 w (by decide)
theorem k_need3 (w : World) : Calls Try.prog 8 #[.int .i64 3] w (fun e w' => e = .returned (.int .i64 2) ∧ w = w') := need_any 3 w
theorem k_need4 (w : World) : Calls Try.prog 8 #[.int .i64 4] w (fun e w' => e = .returned (.int .i64 3) ∧ w = w') := need_any 4 w
theorem k_leader (w : World) : Calls Try.prog 12 #[.int .u64 5, .int .i64 3] w (fun e w' => e = .returned (.int .i64 2) ∧ w = w') := leader_any 5 3 w (by decide)
theorem k_has1 (w : World) (T : TypeId) : Calls Try.prog 10 #[.int .i64 3, .slice (some ⟨w.heap.size, 0, none⟩) 2 2] (w.alloc (.cells #[.int .i64 0, .int .i64 2] T)) (fun e w' => e = .returned (.bool true) ∧ Ext w w') := (has_any 3 _ 2 2 [0, 2] _ (ints_new w _ T [0, 2] rfl 2 rfl) (by decide)).mono fun e w' ⟨h1, h2⟩ => ⟨h1, h2 ▸ (Ext.refl w).alloc _⟩
theorem k_has2 (w : World) (T : TypeId) : Calls Try.prog 10 #[.int .i64 3, .slice (some ⟨w.heap.size, 0, none⟩) 2 2] (w.alloc (.cells #[.int .i64 0, .int .i64 0] T)) (fun e w' => e = .returned (.bool false) ∧ Ext w w') := (has_any 3 _ 2 2 [0, 0] _ (ints_new w _ T [0, 0] rfl 2 rfl) (by decide)).mono fun e w' ⟨h1, h2⟩ => ⟨h1, h2 ▸ (Ext.refl w).alloc _⟩
theorem k_sure (w : World) (T : TypeId) : Calls Try.prog 14 #[.int .i64 3, .slice (some ⟨w.heap.size, 0, none⟩) 3 3] (w.alloc (.cells #[.int .i64 5, .int .i64 2, .int .i64 4] T)) (fun e w' => e = .returned (.int .i64 4) ∧ Ext w w') := by
  have := sure_any 3 _ 3 3 [5, 2, 4] _ (ints_new w _ T [5, 2, 4] rfl 3 rfl) (by decide) (by decide)
  have e : QP.nth (QP.padded (nod 3) [5, 2, 4]) (need (nod 3)) = 4 := by
    rw [QP.sure_best _ _ _ (by decide) (by decide)]; decide
  rw [e] at this
  exact this.mono fun e w' ⟨h1, h2⟩ => ⟨h1, ((Ext.refl w).alloc _).trans h2⟩
set_option maxRecDepth 100000 in
set_option maxHeartbeats 1000000 in
theorem known_any (w : World) : Calls Try.prog 7 #[] w (RetX (.bool true) w) := by
  go_enter Try.func7, Try.ntmps7
  go_wp2_with fail
  refine (k_next0 _).mono ?_; rintro e w1 ⟨rfl, rfl⟩
  go_wp2_with fail
  refine (k_next3 _).mono ?_; rintro e w1 ⟨rfl, rfl⟩
  go_wp2_with fail
  refine (k_need3 _).mono ?_; rintro e w1 ⟨rfl, rfl⟩
  go_wp2_with fail
  refine (k_need4 _).mono ?_; rintro e w1 ⟨rfl, rfl⟩
  go_wp2_with fail
  refine (k_has1 _ _).mono ?_; rintro e w1 ⟨rfl, hx1⟩
  go_wp2_with fail
  refine (k_has2 _ _).mono ?_; rintro e w2 ⟨rfl, hx2⟩
  go_wp2_with fail
  refine (k_leader _).mono ?_; rintro e w1 ⟨rfl, rfl⟩
  go_wp2_with fail
  refine (k_sure _ _).mono ?_; rintro e w1 ⟨rfl, hx⟩
  go_wp2
  go_ret
  exact ⟨rfl, (hx1.trans hx2).trans hx⟩
end Go.Proofs.Ytkipdnleebcbmaa
