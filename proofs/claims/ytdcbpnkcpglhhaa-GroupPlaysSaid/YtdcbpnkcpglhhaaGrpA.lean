/- Groups: four cells each; the search's own order. -/
import Derived.Test.YtdcbpnkcpglhhaaCmp
namespace Go.Proofs.Ytdcbpnkcpglhhaa
open Go.RowKit
set_option linter.unusedVariables false
set_option linter.unusedSimpArgs false
attribute [local go_sem] stepR givesR fillE Ext.refl

structure Gp where
  name : ByteArray
  cls : ByteArray
  sty : Int
  ver : Int
def Gp.cells (p : Gp) : List Value := [.string p.name, .string p.cls, .int .i64 p.sty, .int .u32 p.ver]
def Gp.val (p : Gp) : Value := .agg #[.string p.name, .string p.cls, .int .i64 p.sty, .int .u32 p.ver]
theorem order_any (p : Gp) (k : ByteArray) (w : World) : Calls Try.prog 47 #[p.val, .string k] w (RetX (.int .i64 (cmpS p.name k)) w) := by
  obtain ⟨nm, cl, st, ve⟩ := p
  have T1 := fun w' => compare_any nm k w'
  have hx : Ext w (w.alloc (.cells #[.string nm, .string cl, .int .i64 st, .int .u32 ve] 36)) := (Ext.refl w).alloc _
  have HX := Lib.hid hx
  clear hx
  simp only
  generalize cmpS nm k = z at *
  show Calls _ _ #[.agg #[.string nm, .string cl, .int .i64 st, .int .u32 ve], .string k] _ _
  go_enter Try.func47, Try.ntmps47
  go_wp2_with fail
  refine (T1 _).mono ?_
  rintro e w' ⟨rfl, rfl⟩
  go_wp2_with fail
  go_ret
  exact ⟨rfl, HX.out⟩
end Go.Proofs.Ytdcbpnkcpglhhaa
