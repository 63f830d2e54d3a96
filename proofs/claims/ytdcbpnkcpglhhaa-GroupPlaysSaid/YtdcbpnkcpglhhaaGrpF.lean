/- class, style of the program. -/
import Derived.Test.YtdcbpnkcpglhhaaGrpE
namespace Go.Proofs.Ytdcbpnkcpglhhaa
open Go.RowKit
set_option linter.unusedVariables false
set_option linter.unusedSimpArgs false
set_option linter.unnecessarySimpa false
attribute [local go_sem] stepR givesR fillE Ext.refl run_store_float

/-- is it a class's name? -/
def classS (s : ByteArray) : Bool := decide (0 ≤ idxS classesL s)
def classT : T → Bool
  | .mk k _ _ s _ => decide (k = 3) && classS s
/-- which style it is -/
def styS (s : ByteArray) : Int := idxS stylesL s
def styleT : T → Bool
  | .mk k _ _ s _ => decide (0 ≤ styS s) && decide (k = 3)
theorem row_post {w : World} {zs : List ByteArray} {f : Nat} {args : Array Value} (h : Calls Try.prog f args w (RowPost w zs)) : Calls Try.prog f args w (fun e w' => ∃ v, e = .returned v ∧ Ext w w' ∧ IsRow zs v w') := by
  refine h.mono ?_
  rintro e w' ⟨v, rfl, h1, h2⟩
  exact ⟨v, rfl, h2, h1⟩
set_option maxRecDepth 100000 in
set_option maxHeartbeats 1000000 in
theorem class_any {w : World} {t : T} {A : Option Addr} {c : Nat} : Calls Try.prog 39 #[t.val A c] w (RetX (.bool (classT t)) w) := by
  obtain ⟨k, i, f, s, l⟩ := t
  show Calls _ _ #[.agg #[.int .i64 k, .int .i64 i, .float .f64 f, .string s, .slice A l.length c]] _ _
  rw [classT]
  have HX := Lib.hid ((Ext.refl w).alloc (.cells #[.int .i64 k, .int .i64 i, .float .f64 f, .string s, .slice A l.length c] 28))
  have HO := Lib.hid (heap_alloc_new w (.cells #[.int .i64 k, .int .i64 i, .float .f64 f, .string s, .slice A l.length c] 28))
  by_cases k3 : k = 3
  · subst k3
    rw [show (decide ((3 : Int) = 3) && classS s) = classS s by simp]
    have HC : Hid (classS s = decide (0 ≤ idxS classesL s)) := Lib.hid rfl
    generalize classS s = z at *
    go_enter Try.func39, Try.ntmps39
    go_wp2_with fail
    have ha := HX.out
    have ho := HO.out
    revert ha ho
    generalize World.alloc _ _ = w0
    generalize w.heap.size = bx
    intro ha ho
    have HA := Lib.hid ha
    have a0 : ∀ p : Later w0, p.w.cell? ⟨bx, 0, none⟩ = some (.int .i64 3) := fun p => p.cell ((cell_of_row w0 bx 0 _ _ _ ho).trans rfl)
    have a3 : ∀ p : Later w0, p.w.cell? ⟨bx, 3, none⟩ = some (.string s) := fun p => p.cell ((cell_of_row w0 bx 3 _ _ _ ho).trans rfl)
    clear ha ho
    refine wp_region_rel' 10 (by kernel_rfl) (by kernel_rfl) (fun Fin hFin => ?_)
    simp only [List.take_succ_cons, List.take_zero]
    (refine relGo_p (fun K hK => ?_); go_simp; refine hK _ ?_; clear hK K)
    (refine relGo_p (fun K hK => ?_); go_simp; refine hK _ ?_; clear hK K)
    (refine relGo_p (fun K hK => ?_); go_simp; refine hK _ ?_; clear hK K)
    (refine relGo_p (fun K hK => ?_); go_simp; refine hK _ ?_; clear hK K)
    refine relGo_r (IsRow classesL) (IsRow.later _) ?_ ?_
    · intro w' hw'
      go_simp
      exact row_post (classes_any w')
    (refine relGo_p (fun K hK => ?_); go_simp; refine hK _ ?_; clear hK K)
    (refine relGo_p (fun K hK => ?_); go_simp; refine hK _ ?_; clear hK K)
    refine relGo_q (.bool z) ?_ (fun K hK => ?_)
    · intro w' hw' v hv
      obtain ⟨A', rfl, hr⟩ : IsRow classesL v w' := hv (by kernel_rfl)
      have T1 := contains_any w' A' classesL.length classesL s hr (by decide)
      rw [← HC.out] at T1
      clear hv hr
      go_simp
      refine T1.mono ?_
      rintro e w'' ⟨rfl, rfl⟩
      exact ⟨rfl, Ext.refl _⟩
    go_simp; refine hK _ ?_; clear hK K
    (refine relGo_p (fun K hK => ?_); go_simp; refine hK _ ?_; clear hK K)
    (refine relGo_p (fun K hK => ?_); go_simp; refine hK _ ?_; clear hK K)
    refine hFin _ _ (fun w9 hw9 => ?_)
    intro v hv
    obtain ⟨A', rfl, hr⟩ : IsRow classesL v w9 := hv (by kernel_rfl)
    clear hFin Fin hv a0 a3 hr
    have HW := Lib.hid hw9
    simp only [fillE, List.drop_succ_cons, List.drop_zero, List.drop_nil]
    go_wp2_with fail
    go_ret
    exact ⟨rfl, HA.out.trans HW.out⟩
  · rw [show (decide (k = 3) && classS s) = false by simp [k3]]
    have q3 : (k == 3) = false := by simpa using k3
    go_enter Try.func39, Try.ntmps39
    go_wp2_with fail
    have ha := HX.out
    have ho := HO.out
    revert ha ho
    generalize World.alloc _ _ = w0
    generalize w.heap.size = bx
    intro ha ho
    have HA := Lib.hid ha
    have a0 : ∀ p : Later w0, p.w.cell? ⟨bx, 0, none⟩ = some (.int .i64 k) := fun p => p.cell ((cell_of_row w0 bx 0 _ _ _ ho).trans rfl)
    clear ha ho
    refine wp_region_rel' 10 (by kernel_rfl) (by kernel_rfl) (fun Fin hFin => ?_)
    simp only [List.take_succ_cons, List.take_zero]
    (refine relGo_p (fun K hK => ?_); go_simp; refine hK _ ?_; clear hK K)
    (refine relGo_p (fun K hK => ?_); go_simp; refine hK _ ?_; clear hK K)
    (refine relGo_p (fun K hK => ?_); go_simp; refine hK _ ?_; clear hK K)
    (refine relGo_p (fun K hK => ?_); go_simp; refine hK _ ?_; clear hK K)
    (refine relGo_p (fun K hK => ?_); go_simp; refine hK _ ?_; clear hK K)
    (refine relGo_p (fun K hK => ?_); go_simp; refine hK _ ?_; clear hK K)
    (refine relGo_p (fun K hK => ?_); go_simp; refine hK _ ?_; clear hK K)
    (refine relGo_p (fun K hK => ?_); go_simp; refine hK _ ?_; clear hK K)
    (refine relGo_p (fun K hK => ?_); go_simp; refine hK _ ?_; clear hK K)
    (refine relGo_p (fun K hK => ?_); go_simp; refine hK _ ?_; clear hK K)
    refine hFin _ _ (fun w9 hw9 => ?_)
    clear hFin Fin a0
    have HW := Lib.hid hw9
    simp only [fillE, List.drop_succ_cons, List.drop_zero, List.drop_nil]
    go_wp2_with fail
    go_ret
    exact ⟨rfl, HA.out.trans HW.out⟩
set_option maxRecDepth 100000 in
set_option maxHeartbeats 1000000 in
theorem style_any {w : World} {k i : Int} {f : Nat} {s : ByteArray} {n c : Nat} {A : Option Addr} : Calls Try.prog 40 #[.agg #[.int .i64 k, .int .i64 i, .float .f64 f, .string s, .slice A n c]] w (RetX (.tuple #[.int .i64 (styS s), .bool (decide (0 ≤ styS s) && decide (k = 3))]) w) := by
  have HX := Lib.hid ((Ext.refl w).alloc (.cells #[.int .i64 k, .int .i64 i, .float .f64 f, .string s, .slice A n c] 28))
  have HO := Lib.hid (heap_alloc_new w (.cells #[.int .i64 k, .int .i64 i, .float .f64 f, .string s, .slice A n c] 28))
  have HC : Hid (styS s = idxS stylesL s) := Lib.hid rfl
  generalize styS s = z at *
  obtain ⟨q, hq⟩ : ∃ q, (k == 3) = q := ⟨_, rfl⟩
  obtain ⟨u, hu⟩ : ∃ u, decide (0 ≤ z) = u := ⟨_, rfl⟩
  have hqu : (decide (0 ≤ z) && decide (k = 3)) = (u && q) := by
    rw [hu, ← hq]
    congr 1
  rw [hqu]
  clear hqu
  cases u with
  | true =>
    rw [Bool.true_and]
    have hz : 0 ≤ z := by simpa using hu
    clear hu
    go_enter Try.func40, Try.ntmps40
    go_wp2_with fail
    have ha := HX.out
    have ho := HO.out
    revert ha ho
    generalize World.alloc _ _ = w0
    generalize w.heap.size = bx
    intro ha ho
    have HA := Lib.hid (And.intro ha ho)
    have a3 : ∀ p : Later w0, p.w.cell? ⟨bx, 3, none⟩ = some (.string s) := fun p => p.cell ((cell_of_row w0 bx 3 _ _ _ ho).trans rfl)
    clear ha ho
    refine wp_region_rel' 5 (by kernel_rfl) (by kernel_rfl) (fun Fin hFin => ?_)
    simp only [List.take_succ_cons, List.take_zero]
    refine relGo_r (IsRow stylesL) (IsRow.later _) ?_ ?_
    · intro w' hw'
      go_simp
      exact row_post (styles_any w')
    (refine relGo_p (fun K hK => ?_); go_simp; refine hK _ ?_; clear hK K)
    (refine relGo_p (fun K hK => ?_); go_simp; refine hK _ ?_; clear hK K)
    refine relGo_q (.int .i64 z) ?_ (fun K hK => ?_)
    · intro w' hw' v hv
      obtain ⟨A', rfl, hr⟩ : IsRow stylesL v w' := hv (by kernel_rfl)
      have T1 := index_any w' A' stylesL.length stylesL s hr (by decide)
      rw [← HC.out] at T1
      clear hv hr
      go_simp
      refine T1.mono ?_
      rintro e w'' ⟨rfl, rfl⟩
      exact ⟨rfl, Ext.refl _⟩
    go_simp; refine hK _ ?_; clear hK K
    (refine relGo_p (fun K hK => ?_); go_simp; refine hK _ ?_; clear hK K)
    refine hFin _ _ (fun w9 hw9 => ?_)
    intro v hv
    obtain ⟨A', rfl, hr⟩ : IsRow stylesL v w9 := hv (by kernel_rfl)
    have o9 := hw9.obj HA.out.2
    have d0 : w9.cell? ⟨bx, 0, none⟩ = some (.int .i64 k) := (cell_of_row w9 bx 0 _ _ _ o9).trans rfl
    clear hFin Fin hv a3 hr o9
    have HW := Lib.hid hw9
    clear hw9
    simp only [fillE, List.drop_succ_cons, List.drop_zero, List.drop_nil]
    go_wp2_with fail
    go_quiet (fail)
    go_wp2_with fail
    go_ret2
    exact ⟨rfl, (HA.out.1.trans HW.out).drewN nq⟩
  | false =>
    rw [Bool.false_and]
    go_enter Try.func40, Try.ntmps40
    go_wp2_with fail
    have ha := HX.out
    have ho := HO.out
    revert ha ho
    generalize World.alloc _ _ = w0
    generalize w.heap.size = bx
    intro ha ho
    have HA := Lib.hid (And.intro ha ho)
    have a3 : ∀ p : Later w0, p.w.cell? ⟨bx, 3, none⟩ = some (.string s) := fun p => p.cell ((cell_of_row w0 bx 3 _ _ _ ho).trans rfl)
    clear ha ho
    refine wp_region_rel' 5 (by kernel_rfl) (by kernel_rfl) (fun Fin hFin => ?_)
    simp only [List.take_succ_cons, List.take_zero]
    refine relGo_r (IsRow stylesL) (IsRow.later _) ?_ ?_
    · intro w' hw'
      go_simp
      exact row_post (styles_any w')
    (refine relGo_p (fun K hK => ?_); go_simp; refine hK _ ?_; clear hK K)
    (refine relGo_p (fun K hK => ?_); go_simp; refine hK _ ?_; clear hK K)
    refine relGo_q (.int .i64 z) ?_ (fun K hK => ?_)
    · intro w' hw' v hv
      obtain ⟨A', rfl, hr⟩ : IsRow stylesL v w' := hv (by kernel_rfl)
      have T1 := index_any w' A' stylesL.length stylesL s hr (by decide)
      rw [← HC.out] at T1
      clear hv hr
      go_simp
      refine T1.mono ?_
      rintro e w'' ⟨rfl, rfl⟩
      exact ⟨rfl, Ext.refl _⟩
    go_simp; refine hK _ ?_; clear hK K
    (refine relGo_p (fun K hK => ?_); go_simp; refine hK _ ?_; clear hK K)
    refine hFin _ _ (fun w9 hw9 => ?_)
    intro v hv
    obtain ⟨A', rfl, hr⟩ : IsRow stylesL v w9 := hv (by kernel_rfl)
    clear hFin Fin hv a3 hr
    have HW := Lib.hid hw9
    clear hw9
    simp only [fillE, List.drop_succ_cons, List.drop_zero, List.drop_nil]
    go_wp2_with fail
    go_quiet (fail)
    go_wp2_with fail
    go_ret2
    exact ⟨rfl, (HA.out.1.trans HW.out).drewN nq⟩
end Go.Proofs.Ytdcbpnkcpglhhaa
