/- The document's Check. -/
import Derived.Test.YtdcbpnkcpglhhaaValE
namespace Go.Proofs.Ytdcbpnkcpglhhaa
open Go.RowKit
set_option linter.unusedVariables false
set_option linter.unusedSimpArgs false
set_option linter.unnecessarySimpa false
attribute [local go_sem] stepR givesR fillE Ext.refl run_store_float

theorem rcheck_any {S : Nat → Prop} {n : Nat} {w : World} {t : T} {A : Option Addr} {c : Nat} (h : Rd w S n t A c) : Calls Try.prog 26 #[t.val A c] w (RetX (.int .i64 (checkT t)) w) := by
  have T1 := fun w' (hx : Ext w w') => kinds_any n w' t A c (h.ext hx)
  have T2 := fun w' (hx : Ext w w') => rgreat_any n w' 0 t A c (by omega) (h.ext hx)
  have T3 := fun w' (hx : Ext w w') => rsize_any n w' t A c (h.ext hx)
  unfold checkT
  generalize strangeT t = z1 at *
  have e8 : (8 : Int) - 0 = 8 := rfl
  simp only [e8] at T2
  generalize greatT 8 t = z2 at *
  generalize wsz (sizeT t) = z3 at *
  obtain ⟨k, i, f, s, l⟩ := t
  simp only [T.val] at T1 T2 T3
  show Calls _ _ #[.agg #[.int .i64 k, .int .i64 i, .float .f64 f, .string s, .slice A l.length c]] _ _
  have hx : Ext w (w.alloc (.cells #[.int .i64 k, .int .i64 i, .float .f64 f, .string s, .slice A l.length c] 28)) := (Ext.refl w).alloc _
  have o := heap_alloc_new w (.cells #[.int .i64 k, .int .i64 i, .float .f64 f, .string s, .slice A l.length c] 28)
  have HX := Lib.hid (And.intro hx o)
  have C1 := T1 _ hx
  clear h hx o T1
  cases z1 with
  | true =>
    rw [if_pos rfl]
    go_enter Try.func26, Try.ntmps26
    go_wp2_with fail
    refine C1.mono ?_
    rintro e w1 ⟨rfl, hx1⟩
    go_wp2_with fail
    go_ret
    exact ⟨rfl, HX.out.1.trans hx1⟩
  | false =>
    rw [if_neg Bool.false_ne_true]
    cases z2 with
    | true =>
      rw [if_pos (by simp)]
      go_enter Try.func26, Try.ntmps26
      go_wp2_with fail
      refine C1.mono ?_
      rintro e w1 ⟨rfl, hx1⟩
      have hx2 := HX.out.1.trans hx1
      have o1 := hx1.obj HX.out.2
      have a0 := (cell_of_row w1 w.heap.size 0 _ _ _ o1).trans rfl
      have a1 := (cell_of_row w1 w.heap.size 1 _ _ _ o1).trans rfl
      have a2 := (cell_of_row w1 w.heap.size 2 _ _ _ o1).trans rfl
      have a3 := (cell_of_row w1 w.heap.size 3 _ _ _ o1).trans rfl
      have a4 := (cell_of_row w1 w.heap.size 4 _ _ _ o1).trans rfl
      have C2 := T2 _ hx2
      have HX2 := Lib.hid (And.intro hx2 o1)
      clear C1 hx2 o1 T2 hx1
      go_wp2_with fail
      refine C2.mono ?_
      rintro e w2 ⟨rfl, hx3⟩
      go_wp2_with fail
      go_ret
      exact ⟨rfl, HX2.out.1.trans hx3⟩
    | false =>
      by_cases hz : 4096 < z3
      · rw [if_pos (by simp [hz])]
        go_enter Try.func26, Try.ntmps26
        go_wp2_with fail
        refine C1.mono ?_
        rintro e w1 ⟨rfl, hx1⟩
        have hx2 := HX.out.1.trans hx1
        have o1 := hx1.obj HX.out.2
        have a0 := (cell_of_row w1 w.heap.size 0 _ _ _ o1).trans rfl
        have a1 := (cell_of_row w1 w.heap.size 1 _ _ _ o1).trans rfl
        have a2 := (cell_of_row w1 w.heap.size 2 _ _ _ o1).trans rfl
        have a3 := (cell_of_row w1 w.heap.size 3 _ _ _ o1).trans rfl
        have a4 := (cell_of_row w1 w.heap.size 4 _ _ _ o1).trans rfl
        have C2 := T2 _ hx2
        have HX2 := Lib.hid (And.intro hx2 o1)
        clear C1 hx2 o1 T2 hx1
        go_wp2_with fail
        refine C2.mono ?_
        rintro e w2 ⟨rfl, hx3⟩
        have hx2 := HX2.out.1.trans hx3
        have o1 := hx3.obj HX2.out.2
        have b0 := (cell_of_row w2 w.heap.size 0 _ _ _ o1).trans rfl
        have b1 := (cell_of_row w2 w.heap.size 1 _ _ _ o1).trans rfl
        have b2 := (cell_of_row w2 w.heap.size 2 _ _ _ o1).trans rfl
        have b3 := (cell_of_row w2 w.heap.size 3 _ _ _ o1).trans rfl
        have b4 := (cell_of_row w2 w.heap.size 4 _ _ _ o1).trans rfl
        have C3 := T3 _ hx2
        have HX3 := Lib.hid hx2
        clear C2 hx2 o1 T3 hx3 a0 a1 a2 a3 a4
        go_wp2_with fail
        refine C3.mono ?_
        rintro e w3 ⟨rfl, hx4⟩
        go_wp2_with fail
        go_ret
        exact ⟨rfl, HX3.out.trans hx4⟩
      · rw [if_neg (by simp [hz])]
        have hz' : decide (4096 < z3) = false := by simpa using hz
        go_enter Try.func26, Try.ntmps26
        go_wp2_with fail
        refine C1.mono ?_
        rintro e w1 ⟨rfl, hx1⟩
        have hx2 := HX.out.1.trans hx1
        have o1 := hx1.obj HX.out.2
        have a0 := (cell_of_row w1 w.heap.size 0 _ _ _ o1).trans rfl
        have a1 := (cell_of_row w1 w.heap.size 1 _ _ _ o1).trans rfl
        have a2 := (cell_of_row w1 w.heap.size 2 _ _ _ o1).trans rfl
        have a3 := (cell_of_row w1 w.heap.size 3 _ _ _ o1).trans rfl
        have a4 := (cell_of_row w1 w.heap.size 4 _ _ _ o1).trans rfl
        have C2 := T2 _ hx2
        have HX2 := Lib.hid (And.intro hx2 o1)
        clear C1 hx2 o1 T2 hx1
        go_wp2_with fail
        refine C2.mono ?_
        rintro e w2 ⟨rfl, hx3⟩
        have hx2 := HX2.out.1.trans hx3
        have o1 := hx3.obj HX2.out.2
        have b0 := (cell_of_row w2 w.heap.size 0 _ _ _ o1).trans rfl
        have b1 := (cell_of_row w2 w.heap.size 1 _ _ _ o1).trans rfl
        have b2 := (cell_of_row w2 w.heap.size 2 _ _ _ o1).trans rfl
        have b3 := (cell_of_row w2 w.heap.size 3 _ _ _ o1).trans rfl
        have b4 := (cell_of_row w2 w.heap.size 4 _ _ _ o1).trans rfl
        have C3 := T3 _ hx2
        have HX3 := Lib.hid hx2
        clear C2 hx2 o1 T3 hx3 a0 a1 a2 a3 a4
        go_wp2_with fail
        refine C3.mono ?_
        rintro e w3 ⟨rfl, hx4⟩
        go_wp2_with fail
        go_ret
        exact ⟨rfl, HX3.out.trans hx4⟩
end Go.Proofs.Ytdcbpnkcpglhhaa
