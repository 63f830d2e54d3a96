/- Same on what the operations give. -/
import Derived.Test.YtgodncdhkmpfaaaNumE
namespace Go.Proofs.Ytgodncdhkmpfaaa
open Go.RowKit
set_option linter.unusedVariables false
set_option linter.unusedSimpArgs false
attribute [local go_sem] stepR givesR fillE Ext.refl

set_option maxRecDepth 100000 in
theorem same_flat (k i : Int) (f : Nat) (w : World) : Calls Try.prog 17 #[(.agg #[.int .i64 k, .int .i64 i, .float .f64 f, .string ⟨#[]⟩, (.slice none 0 0)]), (.agg #[.int .i64 k, .int .i64 i, .float .f64 f, .string ⟨#[]⟩, (.slice none 0 0)])] w (Ret (.bool true) w) := by
  have a := VAt.new w k i f ⟨#[]⟩ (.slice none 0 0)
  have b := VAt.new (w.alloc (.cells #[.int .i64 k, .int .i64 i, .float .f64 f, .string ⟨#[]⟩, .slice none 0 0] 31)) k i f ⟨#[]⟩ (.slice none 0 0)
  rw [alloc_size] at b
  have A := a.ext (x1 _ (.cells #[.int .i64 k, .int .i64 i, .float .f64 f, .string ⟨#[]⟩, .slice none 0 0] 31))
  have hw0 := (x1 w (.cells #[.int .i64 k, .int .i64 i, .float .f64 f, .string ⟨#[]⟩, .slice none 0 0] 31)).alloc (.cells #[.int .i64 k, .int .i64 i, .float .f64 f, .string ⟨#[]⟩, .slice none 0 0] 31)
  clear a
  go_enter Try.func17, Try.ntmps17
  go_wp2
  revert b A hw0
  generalize World.alloc _ _ = w0
  intro B A hw0
  have a0 := fun p : Later w0 => p.cell (A.cell 0 _ rfl)
  have a1 := fun p : Later w0 => p.cell (A.cell 1 _ rfl)
  have a2 := fun p : Later w0 => p.cell (A.cell 2 _ rfl)
  have a3 := fun p : Later w0 => p.cell (A.cell 3 _ rfl)
  have a4 := fun p : Later w0 => p.cell (A.cell 4 _ rfl)
  have b0 := fun p : Later w0 => p.cell (B.cell 0 _ rfl)
  have b1 := fun p : Later w0 => p.cell (B.cell 1 _ rfl)
  have b2 := fun p : Later w0 => p.cell (B.cell 2 _ rfl)
  have b3 := fun p : Later w0 => p.cell (B.cell 3 _ rfl)
  have b4 := fun p : Later w0 => p.cell (B.cell 4 _ rfl)
  refine wp_region_rel' 37 (by kernel_rfl) (by kernel_rfl) (fun Fin hFin => ?_)
  simp only [List.take_succ_cons, List.take_zero]
  repeat (refine relGo_p (fun K hK => ?_); go_simp; refine hK _ ?_; clear hK K)
  refine relGo_q (.int .u64 (canon f)) ?_ (fun K hK => ?_)
  · intro w' hw'
    go_simp
    refine (rbits_any _ _).mono ?_
    rintro e w'' ⟨rfl, h⟩
    exact ⟨rfl, h⟩
  go_simp
  refine hK _ ?_
  clear hK K
  repeat (refine relGo_p (fun K hK => ?_); go_simp; refine hK _ ?_; clear hK K)
  refine relGo_q (.int .u64 (canon f)) ?_ (fun K hK => ?_)
  · intro w' hw'
    go_simp
    refine (rbits_any _ _).mono ?_
    rintro e w'' ⟨rfl, h⟩
    exact ⟨rfl, h⟩
  go_simp
  refine hK _ ?_
  clear hK K
  repeat (refine relGo_p (fun K hK => ?_); go_simp; refine hK _ ?_; clear hK K)
  refine hFin _ _ (fun w1 hw1 => ?_)
  clear hFin Fin
  simp only [fillE, List.drop_succ_cons, List.drop_nil]
  obtain ⟨c0, c1, c2, c3, c4⟩ := (A.ext hw1).pack
  have hw := hw0.trans hw1
  clear hw1 hw0 A B a0 a1 a2 a3 a4 b0 b1 b2 b3 b4
  go_wp2
  refine wp_loop_once ?_
  go_wp2
  go_ret
  exact ⟨rfl, hw⟩
end Go.Proofs.Ytgodncdhkmpfaaa
