/- Values made: texts, ints, lists. -/
import Derived.Test.YtdcbpnkcpglhhaaGrpI
namespace Go.Proofs.Ytdcbpnkcpglhhaa
open Go.RowKit
set_option linter.unusedVariables false
set_option linter.unusedSimpArgs false
set_option linter.unnecessarySimpa false
attribute [local go_sem] stepR givesR fillE Ext.refl run_store_float

set_option maxRecDepth 100000 in
theorem text_any (s : ByteArray) (w : World) : Calls Try.prog 44 #[.string s] w (RetX (.agg #[.int .i64 3, .int .i64 0, .float .f64 0, .string s, .slice none 0 0]) w) := by
  have HX := Lib.hid ((Ext.refl w).alloc (.cells #[.int .i64 3, .int .i64 0, .float .f64 0, .string s, .slice none 0 0] 28))
  have HO := Lib.hid (heap_alloc_new w (.cells #[.int .i64 3, .int .i64 0, .float .f64 0, .string s, .slice none 0 0] 28))
  go_enter Try.func44, Try.ntmps44
  go_wp2_with fail
  have ha := HX.out
  have ho := HO.out
  clear HX HO
  revert ha ho
  generalize World.alloc _ _ = w0
  generalize w.heap.size = bx
  intro ha ho
  have z0 := (cell_of_row _ bx 0 _ _ _ ho)
  have z1 := (cell_of_row _ bx 1 _ _ _ ho)
  have z2 := (cell_of_row _ bx 2 _ _ _ ho)
  have z3 := (cell_of_row _ bx 3 _ _ _ ho)
  have z4 := (cell_of_row _ bx 4 _ _ _ ho)
  exact bodyPost_ret (v := .agg #[.int .i64 3, .int .i64 0, .float .f64 0, .string s, .slice none 0 0]) (by simp [results, Try.results44, go_sem, z0, z1, z2, z3, z4]; try rfl) rfl ⟨rfl, ha⟩
set_option maxRecDepth 100000 in
theorem rtext_any (s : ByteArray) (w : World) : Calls Try.prog 8 #[.string s] w (RetX (.agg #[.int .i64 3, .int .i64 0, .float .f64 0, .string s, .slice none 0 0]) w) := by
  have HX := Lib.hid ((Ext.refl w).alloc (.cells #[.int .i64 3, .int .i64 0, .float .f64 0, .string s, .slice none 0 0] 28))
  have HO := Lib.hid (heap_alloc_new w (.cells #[.int .i64 3, .int .i64 0, .float .f64 0, .string s, .slice none 0 0] 28))
  go_enter Try.func8, Try.ntmps8
  go_wp2_with fail
  have ha := HX.out
  have ho := HO.out
  clear HX HO
  revert ha ho
  generalize World.alloc _ _ = w0
  generalize w.heap.size = bx
  intro ha ho
  have z0 := (cell_of_row _ bx 0 _ _ _ ho)
  have z1 := (cell_of_row _ bx 1 _ _ _ ho)
  have z2 := (cell_of_row _ bx 2 _ _ _ ho)
  have z3 := (cell_of_row _ bx 3 _ _ _ ho)
  have z4 := (cell_of_row _ bx 4 _ _ _ ho)
  exact bodyPost_ret (v := .agg #[.int .i64 3, .int .i64 0, .float .f64 0, .string s, .slice none 0 0]) (by simp [results, Try.results8, go_sem, z0, z1, z2, z3, z4]; try rfl) rfl ⟨rfl, ha⟩
set_option maxRecDepth 100000 in
theorem rint_any (z : Int) (w : World) : Calls Try.prog 33 #[.int .i64 z] w (RetX (.agg #[.int .i64 1, .int .i64 z, .float .f64 0, .string ⟨#[]⟩, .slice none 0 0]) w) := by
  have HX := Lib.hid ((Ext.refl w).alloc (.cells #[.int .i64 1, .int .i64 z, .float .f64 0, .string ⟨#[]⟩, .slice none 0 0] 28))
  have HO := Lib.hid (heap_alloc_new w (.cells #[.int .i64 1, .int .i64 z, .float .f64 0, .string ⟨#[]⟩, .slice none 0 0] 28))
  go_enter Try.func33, Try.ntmps33
  go_wp2_with fail
  have ha := HX.out
  have ho := HO.out
  clear HX HO
  revert ha ho
  generalize World.alloc _ _ = w0
  generalize w.heap.size = bx
  intro ha ho
  have z0 := (cell_of_row _ bx 0 _ _ _ ho)
  have z1 := (cell_of_row _ bx 1 _ _ _ ho)
  have z2 := (cell_of_row _ bx 2 _ _ _ ho)
  have z3 := (cell_of_row _ bx 3 _ _ _ ho)
  have z4 := (cell_of_row _ bx 4 _ _ _ ho)
  exact bodyPost_ret (v := .agg #[.int .i64 1, .int .i64 z, .float .f64 0, .string ⟨#[]⟩, .slice none 0 0]) (by simp [results, Try.results33, go_sem, z0, z1, z2, z3, z4]; try rfl) rfl ⟨rfl, ha⟩
set_option maxRecDepth 100000 in
theorem rlist_any (A : Option Addr) (n c : Nat) (w : World) : Calls Try.prog 31 #[.slice A n c] w (RetX (.agg #[.int .i64 4, .int .i64 0, .float .f64 0, .string ⟨#[]⟩, .slice A n c]) w) := by
  have HX := Lib.hid ((Ext.refl w).alloc (.cells #[.int .i64 4, .int .i64 0, .float .f64 0, .string ⟨#[]⟩, .slice A n c] 28))
  have HO := Lib.hid (heap_alloc_new w (.cells #[.int .i64 4, .int .i64 0, .float .f64 0, .string ⟨#[]⟩, .slice A n c] 28))
  go_enter Try.func31, Try.ntmps31
  go_wp2_with fail
  have ha := HX.out
  have ho := HO.out
  clear HX HO
  revert ha ho
  generalize World.alloc _ _ = w0
  generalize w.heap.size = bx
  intro ha ho
  have z0 := (cell_of_row _ bx 0 _ _ _ ho)
  have z1 := (cell_of_row _ bx 1 _ _ _ ho)
  have z2 := (cell_of_row _ bx 2 _ _ _ ho)
  have z3 := (cell_of_row _ bx 3 _ _ _ ho)
  have z4 := (cell_of_row _ bx 4 _ _ _ ho)
  exact bodyPost_ret (v := .agg #[.int .i64 4, .int .i64 0, .float .f64 0, .string ⟨#[]⟩, .slice A n c]) (by simp [results, Try.results31, go_sem, z0, z1, z2, z3, z4]; try rfl) rfl ⟨rfl, ha⟩
end Go.Proofs.Ytdcbpnkcpglhhaa
