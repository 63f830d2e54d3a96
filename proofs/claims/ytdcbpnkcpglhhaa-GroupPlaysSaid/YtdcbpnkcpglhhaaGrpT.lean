/- The document's small functions: styleOf, Start, class, styleName, Bits. -/
import Derived.Test.YtdcbpnkcpglhhaaGrpM
namespace Go.Proofs.Ytdcbpnkcpglhhaa
open Go.RowKit
set_option linter.unusedVariables false
set_option linter.unusedSimpArgs false
set_option linter.unnecessarySimpa false
attribute [local go_sem] stepR givesR fillE Ext.refl run_store_float

def nanW : Nat := 9221120237041090561
def isNaN (f : Nat) : Bool := FloatKind.f64.format.order f f != some .eq
def canon (f : Nat) : Nat := if isNaN f = true then nanW else f
theorem run_frombits (n : Int) (w : World) : (callFunc 66 #[.int .u64 n]).run Try.prog w = .ok (.value (.float .f64 n.toNat)) w := by kernel_rfl
theorem run_bits (f : Nat) (w : World) : (callFunc 54 #[.float .f64 f]).run Try.prog w = .ok (.value (.int .u64 f)) w := by kernel_rfl
theorem frombits_nan (w : World) : (callFunc 66 #[.int .u64 9221120237041090561]).run Try.prog w = .ok (.value (.float .f64 nanW)) w := run_frombits 9221120237041090561 w
theorem rcanon_any (f : Nat) (w : World) : Calls Try.prog 55 #[.float .f64 f] w (RetX (.float .f64 (canon f)) w) := by
  have kn := frombits_nan
  cases h : isNaN f with
  | true =>
    rw [canon, if_pos h]
    unfold isNaN at h
    go_enter Try.func55, Try.ntmps55
    go_wp2
    go_ret
    exact ⟨rfl, Ext.refl _⟩
  | false =>
    rw [canon, if_neg (by rw [h]; simp)]
    unfold isNaN at h
    go_enter Try.func55, Try.ntmps55
    go_wp2
    go_ret
    exact ⟨rfl, Ext.refl _⟩
theorem rbits_any (f : Nat) (w : World) : Calls Try.prog 34 #[.float .f64 f] w (RetX (.int .u64 (canon f)) w) := by
  have kb := run_bits
  go_enter Try.func34, Try.ntmps34
  go_wp2_with (go_at_call 55; refine (rcanon_any f w).mono ?_; rintro e w' ⟨rfl, h1⟩)
  go_ret
  exact ⟨rfl, h1⟩
theorem canon_0 : canon 0 = 0 := by unfold canon isNaN; decide +kernel
set_option maxRecDepth 100000 in
theorem rfloat0_any (w : World) : Calls Try.prog 65 #[.float .f64 0] w (RetX (.agg #[.int .i64 2, .int .i64 0, .float .f64 0, .string ⟨#[]⟩, .slice none 0 0]) w) := by
  have C := rcanon_any 0
  rw [canon_0] at C
  have HX := Lib.hid ((Ext.refl w).alloc (.cells #[.int .i64 0, .int .i64 0, .float .f64 0, .string ⟨#[]⟩, .slice none 0 0] 28))
  have HO := Lib.hid (heap_alloc_new w (.cells #[.int .i64 0, .int .i64 0, .float .f64 0, .string ⟨#[]⟩, .slice none 0 0] 28))
  go_enter Try.func65, Try.ntmps65
  go_wp2_with fail
  have ha := HX.out
  have ho := HO.out
  clear HX HO
  revert ha ho
  generalize World.alloc _ _ = w0
  generalize hbx : w.heap.size = bx
  intro ha ho
  have HA := Lib.hid (And.intro ha (And.intro ho hbx))
  clear ha ho hbx
  refine (C _).mono ?_
  rintro e w1 ⟨rfl, hx⟩
  have o1 := hx.obj HA.out.2.1
  obtain ⟨c0, c1, c2, c3, c4, f0, f1, f2, f3, f4⟩ := cells5 o1
  have HY := Lib.hid (And.intro hx o1)
  clear hx o1
  go_wp2_with fail
  obtain ⟨o4, hch⟩ := put5 (v0 := .int .i64 2) (v1 := .int .i64 0) (v2 := .float .f64 0) (v3 := .string ⟨#[]⟩) (v4 := .slice none 0 0) HY.out.2
  obtain ⟨z0, z1, z2, z3, z4, _⟩ := cells5 o4
  have hB : w.heap.size ≤ bx := Nat.le_of_eq HA.out.2.2
  exact bodyPost_ret (v := .agg #[.int .i64 2, .int .i64 0, .float .f64 0, .string ⟨#[]⟩, .slice none 0 0]) (by simp [results, Try.results65, go_sem, z0, z1, z2, z3, z4]; try rfl) rfl ⟨rfl, (((((Ext.trans HA.out.1 HY.out.1).put hB).put hB).put hB).put hB).put hB⟩

theorem litAct (m : ByteArray) : (m.toList == [97, 99, 116, 105, 118, 101]) = eqN m bActive := by rw [eqN, show bActive.toList = [97, 99, 116, 105, 118, 101] by rw [Lib.toList_data]; rfl]
theorem litWarm (m : ByteArray) : (m.toList == [119, 97, 114, 109]) = eqN m bWarm := by rw [eqN, show bWarm.toList = [119, 97, 114, 109] by rw [Lib.toList_data]; rfl]
theorem litCold (m : ByteArray) : (m.toList == [99, 111, 108, 100]) = eqN m bCold := by rw [eqN, show bCold.toList = [99, 111, 108, 100] by rw [Lib.toList_data]; rfl]
theorem styS_of (s : ByteArray) : styS s = if eqN s bActive then 0 else if eqN s bWarm then 1 else if eqN s bCold then 2 else -1 := by
  unfold styS
  cases e1 : eqN s bActive with
  | true => exact idxS_some (zs := stylesL) (j := 0) (z := bActive) rfl e1 (fun q u hq hu => by omega)
  | false =>
    cases e2 : eqN s bWarm with
    | true => exact idxS_some (zs := stylesL) (j := 1) (z := bWarm) rfl e2 (fun q u hq hu => by
        match q, hq with
        | 0, _ => cases hu; exact e1)
    | false =>
      cases e3 : eqN s bCold with
      | true => exact idxS_some (zs := stylesL) (j := 2) (z := bCold) rfl e3 (fun q u hq hu => by
          match q, hq with
          | 0, _ => cases hu; exact e1
          | 1, _ => cases hu; exact e2)
      | false => exact idxS_none (zs := stylesL) (fun q u hq hu => by
          match q, hq with
          | 0, _ => cases hu; exact e1
          | 1, _ => cases hu; exact e2
          | 2, _ => cases hu; exact e3)
def styR (t : Bool) (z : Int) : Int := if t then z else 0
set_option maxRecDepth 100000 in
set_option maxHeartbeats 1000000 in
theorem styleOf_any {w : World} {k i : Int} {f : Nat} {s : ByteArray} {n c : Nat} {A : Option Addr} : Calls Try.prog 27 #[.agg #[.int .i64 k, .int .i64 i, .float .f64 f, .string s, .slice A n c]] w (RetX (.tuple #[.int .i64 (styR (decide (0 ≤ styS s) && decide (k = 3)) (styS s)), .bool (decide (0 ≤ styS s) && decide (k = 3))]) w) := by
  have HX := Lib.hid ((Ext.refl w).alloc (.cells #[.int .i64 k, .int .i64 i, .float .f64 f, .string s, .slice A n c] 28))
  have l1 := litAct s
  have l2 := litWarm s
  have l3 := litCold s
  rw [styS_of s]
  by_cases k3 : k = 3
  · subst k3
    cases e1 : eqN s bActive with
    | true =>
      rw [e1] at l1
      rw [show styR (decide (0 ≤ (if true = true then (0 : Int) else if eqN s bWarm = true then 1 else if eqN s bCold = true then 2 else -1)) && decide ((3 : Int) = 3)) (if true = true then (0 : Int) else if eqN s bWarm = true then 1 else if eqN s bCold = true then 2 else -1) = 0 by simp [styR], show (decide (0 ≤ (if true = true then (0 : Int) else if eqN s bWarm = true then 1 else if eqN s bCold = true then 2 else -1)) && decide ((3 : Int) = 3)) = true by simp]
      clear l2 l3 e1
      go_enter Try.func27, Try.ntmps27
      go_wp2_with fail
      go_ret2
      exact ⟨rfl, HX.out⟩
    | false =>
      cases e2 : eqN s bWarm with
      | true =>
        rw [e1] at l1
        rw [e2] at l2
        simp only [Bool.false_eq_true, if_false, if_true, styR]
        rw [show (decide ((0 : Int) ≤ 1) && decide True) = true by decide, if_pos rfl]
        clear l3 e1 e2
        go_enter Try.func27, Try.ntmps27
        go_wp2_with fail
        go_ret2
        exact ⟨rfl, HX.out⟩
      | false =>
        cases e3 : eqN s bCold with
        | true =>
          rw [e1] at l1
          rw [e2] at l2
          rw [e3] at l3
          simp only [Bool.false_eq_true, if_false, if_true, styR]
          rw [show (decide ((0 : Int) ≤ 2) && decide True) = true by decide, if_pos rfl]
          clear e1 e2 e3
          go_enter Try.func27, Try.ntmps27
          go_wp2_with fail
          go_ret2
          exact ⟨rfl, HX.out⟩
        | false =>
          rw [e1] at l1
          rw [e2] at l2
          rw [e3] at l3
          simp only [Bool.false_eq_true, if_false, if_true, styR]
          rw [show (decide ((0 : Int) ≤ -1) && decide True) = false by decide, if_neg (by simp)]
          clear e1 e2 e3
          go_enter Try.func27, Try.ntmps27
          go_wp2_with fail
          go_ret2
          exact ⟨rfl, HX.out⟩
  · have q3 : (k == 3) = false := by simpa using k3
    generalize (if eqN s bActive = true then (0 : Int) else if eqN s bWarm = true then 1 else if eqN s bCold = true then 2 else -1) = z
    rw [show (decide (0 ≤ z) && decide (k = 3)) = false by simp [k3]]
    rw [styR, if_neg (by simp)]
    clear l1 l2 l3 k3
    go_enter Try.func27, Try.ntmps27
    go_wp2_with fail
    go_ret2
    exact ⟨rfl, HX.out⟩
set_option maxRecDepth 100000 in
theorem styleName_any (w : World) (j : Nat) (hj : j < 3) : Calls Try.prog 32 #[.int .i64 (j : Int)] w (RetX (.string (styN j)) w) := by
  have hx := (Ext.refl w).alloc (.cells (stylesL.map Value.string).toArray 9)
  have hr := newrow w stylesL 9
  have hcell : (w.alloc (.cells (stylesL.map Value.string).toArray 9)).cell? ⟨w.heap.size, j, none⟩ = some (.string (styN j)) := by
    rw [cell_of_row _ _ j _ _ _ (heap_alloc_new w _)]
    unfold styN
    rw [Int.toNat_natCast, List.getD_eq_getElem?_getD]
    have hl : j < stylesL.length := hj
    simp [List.getElem?_eq_getElem hl]
  have HX := Lib.hid hx
  have hjn : ((j : Int) < 0) = False := by simp
  have hj3 : (j : Int) < 3 := by omega
  simp only [stylesL, List.map_cons, List.map_nil, bActive, bWarm, bCold] at hcell
  clear hx hr
  go_enter Try.func32, Try.ntmps32
  go_wp2_with fail
  go_ret
  exact ⟨rfl, HX.out⟩
def c_counter : ByteArray := ⟨#[99, 111, 117, 110, 116, 101, 114]⟩
theorem lit_counter (m : ByteArray) : (m.toList == [99, 111, 117, 110, 116, 101, 114]) = eqN m c_counter := by rw [eqN, show c_counter.toList = [99, 111, 117, 110, 116, 101, 114] by rw [Lib.toList_data]; rfl]
def c_ledger : ByteArray := ⟨#[108, 101, 100, 103, 101, 114]⟩
theorem lit_ledger (m : ByteArray) : (m.toList == [108, 101, 100, 103, 101, 114]) = eqN m c_ledger := by rw [eqN, show c_ledger.toList = [108, 101, 100, 103, 101, 114] by rw [Lib.toList_data]; rfl]
def c_orch : ByteArray := ⟨#[111, 114, 99, 104]⟩
theorem lit_orch (m : ByteArray) : (m.toList == [111, 114, 99, 104]) = eqN m c_orch := by rw [eqN, show c_orch.toList = [111, 114, 99, 104] by rw [Lib.toList_data]; rfl]
def c_queue : ByteArray := ⟨#[113, 117, 101, 117, 101]⟩
theorem lit_queue (m : ByteArray) : (m.toList == [113, 117, 101, 117, 101]) = eqN m c_queue := by rw [eqN, show c_queue.toList = [113, 117, 101, 117, 101] by rw [Lib.toList_data]; rfl]
def c_register : ByteArray := ⟨#[114, 101, 103, 105, 115, 116, 101, 114]⟩
theorem lit_register (m : ByteArray) : (m.toList == [114, 101, 103, 105, 115, 116, 101, 114]) = eqN m c_register := by rw [eqN, show c_register.toList = [114, 101, 103, 105, 115, 116, 101, 114] by rw [Lib.toList_data]; rfl]
def c_table : ByteArray := ⟨#[116, 97, 98, 108, 101]⟩
theorem lit_table (m : ByteArray) : (m.toList == [116, 97, 98, 108, 101]) = eqN m c_table := by rw [eqN, show c_table.toList = [116, 97, 98, 108, 101] by rw [Lib.toList_data]; rfl]
theorem classesL_c : classesL = [c_counter, c_ledger, c_orch, c_queue, c_register, c_table] := rfl
theorem classS_of (s : ByteArray) : classS s = (eqN s c_counter || (eqN s c_ledger || (eqN s c_orch || (eqN s c_queue || (eqN s c_register || eqN s c_table))))) := by
  have h : classS s = true ↔ (eqN s c_counter || (eqN s c_ledger || (eqN s c_orch || (eqN s c_queue || (eqN s c_register || eqN s c_table))))) = true := by
    unfold classS idxS
    cases hq : classesL.findIdx? (fun z => eqN s z) with
    | some j =>
      obtain ⟨hj, he, _⟩ := List.findIdx?_eq_some_iff_getElem.1 hq
      have hm := List.getElem_mem hj
      generalize classesL[j] = z at he hm
      have e1 : decide ((0 : Int) ≤ (j : Int)) = true := by simp
      simp only [e1, true_iff]
      rw [classesL_c] at hm
      simp only [List.mem_cons, List.not_mem_nil, or_false] at hm
      simp only [Bool.or_eq_true]
      rcases hm with rfl | rfl | rfl | rfl | rfl | rfl
      · exact .inl he
      · exact .inr (.inl he)
      · exact .inr (.inr (.inl he))
      · exact .inr (.inr (.inr (.inl he)))
      · exact .inr (.inr (.inr (.inr (.inl he))))
      · exact .inr (.inr (.inr (.inr (.inr he))))
    | none =>
      rw [List.findIdx?_eq_none_iff] at hq
      have e1 : decide ((0 : Int) ≤ -1) = false := by decide
      simp only [e1, Bool.false_eq_true, false_iff, Bool.or_eq_true, not_or, Bool.not_eq_true]
      have hm : ∀ x, x ∈ [c_counter, c_ledger, c_orch, c_queue, c_register, c_table] → eqN s x = false := fun x hx => hq x (by rw [classesL_c]; exact hx)
      exact ⟨hm _ (by simp), hm _ (by simp), hm _ (by simp), hm _ (by simp), hm _ (by simp), hm _ (by simp)⟩
  exact Bool.eq_iff_iff.2 h
def StartPost (w : World) (r : Bool) (e : Ending) (w' : World) : Prop := ∃ k i f s' A n c, e = .returned (.tuple #[.agg #[.int .i64 k, .int .i64 i, .float .f64 f, .string s', .slice A n c], .bool r]) ∧ Ext w w'
set_option maxRecDepth 100000 in
set_option maxHeartbeats 2000000 in
theorem start_any (w : World) (s : ByteArray) : Calls Try.prog 53 #[.string s] w (StartPost w (classS s)) := by
  rw [classS_of]
  have HX := Lib.hid ((Ext.refl w).alloc (.cells #[.int .i64 0, .int .i64 0, .float .f64 0, .string ⟨#[]⟩, .slice none 0 0] 28))
  have HO := Lib.hid (heap_alloc_new w (.cells #[.int .i64 0, .int .i64 0, .float .f64 0, .string ⟨#[]⟩, .slice none 0 0] 28))
  have l1 := lit_counter s
  have l2 := lit_ledger s
  have l3 := lit_orch s
  have l4 := lit_queue s
  have l5 := lit_register s
  have l6 := lit_table s
  cases e1 : eqN s c_counter with
  | true =>
    rw [e1] at l1
    simp only [Bool.true_or, Bool.or_true, Bool.false_or]
    clear l2 l3 l4 l5 l6 e1
    go_enter Try.func53, Try.ntmps53
    go_wp2_with fail
    have ha := HX.out
    have ho := HO.out
    clear HX HO
    revert ha ho
    generalize World.alloc _ _ = w0
    generalize hbx : w.heap.size = bx
    intro ha ho
    have HA := Lib.hid (And.intro ha (And.intro ho hbx))
    clear ha ho hbx
    refine (rint_any _ _).mono ?_
    rintro e w1 ⟨rfl, x1⟩
    go_wp2_with fail
    refine (rfloat0_any _).mono ?_
    rintro e w2 ⟨rfl, x2⟩
    go_wp2_with fail
    refine (rlist_any _ _ _ _).mono ?_
    rintro e w3 ⟨rfl, x3⟩
    have xx : Ext w0 w3 := (x1.trans x2).trans (Ext.trans ((Ext.refl w2).alloc _) x3)
    have o1 := xx.obj HA.out.2.1
    obtain ⟨c0, c1, c2, c3, c4, f0, f1, f2, f3, f4⟩ := cells5 o1
    have HY := Lib.hid (And.intro xx o1)
    clear xx o1
    go_wp2_with fail
    obtain ⟨o4, hch⟩ := put5 (v0 := .int .i64 4) (v1 := .int .i64 0) (v2 := .float .f64 0) (v3 := .string ⟨#[]⟩) (v4 := .slice (some ⟨w2.heap.size, 0, none⟩) 2 2) HY.out.2
    obtain ⟨z0, z1, z2, z3, z4, _⟩ := cells5 o4
    have hB : w.heap.size ≤ bx := Nat.le_of_eq HA.out.2.2
    exact bodyPost_ret (v := .tuple #[.agg #[.int .i64 4, .int .i64 0, .float .f64 0, .string ⟨#[]⟩, .slice (some ⟨w2.heap.size, 0, none⟩) 2 2], .bool true]) (by simp [results, Try.results53, go_sem, z0, z1, z2, z3, z4]; try rfl) rfl ⟨_, _, _, _, _, _, _, rfl, (((((Ext.trans HA.out.1 HY.out.1).put hB).put hB).put hB).put hB).put hB⟩
  | false =>
    cases e2 : eqN s c_ledger with
    | true =>
      rw [e1] at l1
      rw [e2] at l2
      simp only [Bool.true_or, Bool.or_true, Bool.false_or]
      clear l3 l4 l5 l6 e1 e2
      go_enter Try.func53, Try.ntmps53
      go_wp2_with fail
      have ha := HX.out
      have ho := HO.out
      clear HX HO
      revert ha ho
      generalize World.alloc _ _ = w0
      generalize hbx : w.heap.size = bx
      intro ha ho
      have HA := Lib.hid (And.intro ha (And.intro ho hbx))
      clear ha ho hbx
      refine (rlist_any _ _ _ _).mono ?_
      rintro e w1 ⟨rfl, xx⟩
      have o1 := xx.obj HA.out.2.1
      obtain ⟨c0, c1, c2, c3, c4, f0, f1, f2, f3, f4⟩ := cells5 o1
      have HY := Lib.hid (And.intro xx o1)
      clear xx o1
      go_wp2_with fail
      obtain ⟨o4, hch⟩ := put5 (v0 := .int .i64 4) (v1 := .int .i64 0) (v2 := .float .f64 0) (v3 := .string ⟨#[]⟩) (v4 := .slice none 0 0) HY.out.2
      obtain ⟨z0, z1, z2, z3, z4, _⟩ := cells5 o4
      have hB : w.heap.size ≤ bx := Nat.le_of_eq HA.out.2.2
      exact bodyPost_ret (v := .tuple #[.agg #[.int .i64 4, .int .i64 0, .float .f64 0, .string ⟨#[]⟩, .slice none 0 0], .bool true]) (by simp [results, Try.results53, go_sem, z0, z1, z2, z3, z4]; try rfl) rfl ⟨_, _, _, _, _, _, _, rfl, (((((Ext.trans HA.out.1 HY.out.1).put hB).put hB).put hB).put hB).put hB⟩
    | false =>
      cases e4 : eqN s c_queue with
      | true =>
        rw [e1] at l1
        rw [e2] at l2
        rw [e4] at l4
        simp only [Bool.true_or, Bool.or_true, Bool.false_or]
        clear l3 l5 l6 e1 e2 e4
        go_enter Try.func53, Try.ntmps53
        go_wp2_with fail
        have ha := HX.out
        have ho := HO.out
        clear HX HO
        revert ha ho
        generalize World.alloc _ _ = w0
        generalize hbx : w.heap.size = bx
        intro ha ho
        have HA := Lib.hid (And.intro ha (And.intro ho hbx))
        clear ha ho hbx
        refine (rlist_any _ _ _ _).mono ?_
        rintro e w1 ⟨rfl, xx⟩
        have o1 := xx.obj HA.out.2.1
        obtain ⟨c0, c1, c2, c3, c4, f0, f1, f2, f3, f4⟩ := cells5 o1
        have HY := Lib.hid (And.intro xx o1)
        clear xx o1
        go_wp2_with fail
        obtain ⟨o4, hch⟩ := put5 (v0 := .int .i64 4) (v1 := .int .i64 0) (v2 := .float .f64 0) (v3 := .string ⟨#[]⟩) (v4 := .slice none 0 0) HY.out.2
        obtain ⟨z0, z1, z2, z3, z4, _⟩ := cells5 o4
        have hB : w.heap.size ≤ bx := Nat.le_of_eq HA.out.2.2
        exact bodyPost_ret (v := .tuple #[.agg #[.int .i64 4, .int .i64 0, .float .f64 0, .string ⟨#[]⟩, .slice none 0 0], .bool true]) (by simp [results, Try.results53, go_sem, z0, z1, z2, z3, z4]; try rfl) rfl ⟨_, _, _, _, _, _, _, rfl, (((((Ext.trans HA.out.1 HY.out.1).put hB).put hB).put hB).put hB).put hB⟩
      | false =>
        cases e6 : eqN s c_table with
        | true =>
          rw [e1] at l1
          rw [e2] at l2
          rw [e4] at l4
          rw [e6] at l6
          simp only [Bool.true_or, Bool.or_true, Bool.false_or]
          clear l3 l5 e1 e2 e4 e6
          go_enter Try.func53, Try.ntmps53
          go_wp2_with fail
          have ha := HX.out
          have ho := HO.out
          clear HX HO
          revert ha ho
          generalize World.alloc _ _ = w0
          generalize hbx : w.heap.size = bx
          intro ha ho
          have HA := Lib.hid (And.intro ha (And.intro ho hbx))
          clear ha ho hbx
          refine (rlist_any _ _ _ _).mono ?_
          rintro e w1 ⟨rfl, xx⟩
          have o1 := xx.obj HA.out.2.1
          obtain ⟨c0, c1, c2, c3, c4, f0, f1, f2, f3, f4⟩ := cells5 o1
          have HY := Lib.hid (And.intro xx o1)
          clear xx o1
          go_wp2_with fail
          obtain ⟨o4, hch⟩ := put5 (v0 := .int .i64 4) (v1 := .int .i64 0) (v2 := .float .f64 0) (v3 := .string ⟨#[]⟩) (v4 := .slice none 0 0) HY.out.2
          obtain ⟨z0, z1, z2, z3, z4, _⟩ := cells5 o4
          have hB : w.heap.size ≤ bx := Nat.le_of_eq HA.out.2.2
          exact bodyPost_ret (v := .tuple #[.agg #[.int .i64 4, .int .i64 0, .float .f64 0, .string ⟨#[]⟩, .slice none 0 0], .bool true]) (by simp [results, Try.results53, go_sem, z0, z1, z2, z3, z4]; try rfl) rfl ⟨_, _, _, _, _, _, _, rfl, (((((Ext.trans HA.out.1 HY.out.1).put hB).put hB).put hB).put hB).put hB⟩
        | false =>
          cases e3 : eqN s c_orch with
          | true =>
            rw [e1] at l1
            rw [e2] at l2
            rw [e4] at l4
            rw [e6] at l6
            rw [e3] at l3
            simp only [Bool.true_or, Bool.or_true, Bool.false_or]
            clear l5 e1 e2 e4 e6 e3
            go_enter Try.func53, Try.ntmps53
            go_wp2_with fail
            have ha := HX.out
            have ho := HO.out
            clear HX HO
            revert ha ho
            generalize World.alloc _ _ = w0
            generalize hbx : w.heap.size = bx
            intro ha ho
            have HA := Lib.hid (And.intro ha (And.intro ho hbx))
            clear ha ho hbx
            refine (rint_any _ _).mono ?_
            rintro e w1 ⟨rfl, xx⟩
            have o1 := xx.obj HA.out.2.1
            obtain ⟨c0, c1, c2, c3, c4, f0, f1, f2, f3, f4⟩ := cells5 o1
            have HY := Lib.hid (And.intro xx o1)
            clear xx o1
            go_wp2_with fail
            obtain ⟨o4, hch⟩ := put5 (v0 := .int .i64 1) (v1 := .int .i64 0) (v2 := .float .f64 0) (v3 := .string ⟨#[]⟩) (v4 := .slice none 0 0) HY.out.2
            obtain ⟨z0, z1, z2, z3, z4, _⟩ := cells5 o4
            have hB : w.heap.size ≤ bx := Nat.le_of_eq HA.out.2.2
            exact bodyPost_ret (v := .tuple #[.agg #[.int .i64 1, .int .i64 0, .float .f64 0, .string ⟨#[]⟩, .slice none 0 0], .bool true]) (by simp [results, Try.results53, go_sem, z0, z1, z2, z3, z4]; try rfl) rfl ⟨_, _, _, _, _, _, _, rfl, (((((Ext.trans HA.out.1 HY.out.1).put hB).put hB).put hB).put hB).put hB⟩
          | false =>
            cases e5 : eqN s c_register with
            | true =>
              rw [e1] at l1
              rw [e2] at l2
              rw [e4] at l4
              rw [e6] at l6
              rw [e3] at l3
              rw [e5] at l5
              simp only [Bool.true_or, Bool.or_true, Bool.false_or]
              clear e1 e2 e4 e6 e3 e5
              go_enter Try.func53, Try.ntmps53
              go_wp2_with fail
              have ha := HX.out
              have ho := HO.out
              clear HX HO
              revert ha ho
              generalize World.alloc _ _ = w0
              generalize hbx : w.heap.size = bx
              intro ha ho
              obtain ⟨z0, z1, z2, z3, z4, _⟩ := cells5 ho
              exact bodyPost_ret (v := .tuple #[.agg #[.int .i64 0, .int .i64 0, .float .f64 0, .string ⟨#[]⟩, .slice none 0 0], .bool true]) (by simp [results, Try.results53, go_sem, z0, z1, z2, z3, z4]; try rfl) rfl ⟨_, _, _, _, _, _, _, rfl, ha⟩
            | false =>
              rw [e1] at l1
              rw [e2] at l2
              rw [e4] at l4
              rw [e6] at l6
              rw [e3] at l3
              rw [e5] at l5
              simp only [Bool.or_false]
              clear e1 e2 e4 e6 e3 e5
              go_enter Try.func53, Try.ntmps53
              go_wp2_with fail
              have ha := HX.out
              have ho := HO.out
              clear HX HO
              revert ha ho
              generalize World.alloc _ _ = w0
              generalize hbx : w.heap.size = bx
              intro ha ho
              obtain ⟨z0, z1, z2, z3, z4, _⟩ := cells5 ho
              exact bodyPost_ret (v := .tuple #[.agg #[.int .i64 0, .int .i64 0, .float .f64 0, .string ⟨#[]⟩, .slice none 0 0], .bool false]) (by simp [results, Try.results53, go_sem, z0, z1, z2, z3, z4]; try rfl) rfl ⟨_, _, _, _, _, _, _, rfl, ha⟩
theorem rclass_any (w : World) (s : ByteArray) : Calls Try.prog 29 #[.string s] w (RetX (.bool (classS s)) w) := by
  have T1 := start_any w s
  generalize classS s = z at *
  go_enter Try.func29, Try.ntmps29
  go_wp2_with fail
  refine T1.mono ?_
  rintro e w1 ⟨k, i, f, s', A, n, c, rfl, hx⟩
  have HX := Lib.hid (hx.trans ((Ext.refl w1).alloc (.cells #[.int .i64 k, .int .i64 i, .float .f64 f, .string s', .slice A n c] 28)))
  clear hx
  go_wp2_with fail
  go_ret
  exact ⟨rfl, HX.out⟩
end Go.Proofs.Ytdcbpnkcpglhhaa
