/- A region that draws its order: two operations that may come next. -/
import Derived.Test.YtdcbpnkcpglhhaaHeld
namespace Go.Proofs.Ytdcbpnkcpglhhaa
open Go Go.RowKit
section
variable {P : Program} {ops : Array Oper} {Q : Exit → Act → World → Prop} {md : Region.Mode} {S : World → Prop} {t : Nat}
theorem Upto.two {i j : Nat} {o o' : Oper} {k : Nat} {l : Array Bool} {a : Act} {w : World} (hr : Region.ready md ops l = [i, j]) (ho : ops[i]? = some o) (ho' : ops[j]? = some o')
    (h : ∀ K : Act → World → Prop, Hid (∀ a1 w1, (i ≠ t → S w1) → Upto P md ops Q S t k (l.setIfInBounds i true) a1 w1 → K a1 w1) → if Region.wanted o (yielded ops a.tmps) = true then Oper.wp P o a w K Q else K (a.put o.dst undef) w)
    (h' : ∀ K : Act → World → Prop, Hid (∀ a1 w1, (j ≠ t → S w1) → Upto P md ops Q S t k (l.setIfInBounds j true) a1 w1 → K a1 w1) → if Region.wanted o' (yielded ops a.tmps) = true then Oper.wp P o' a w K Q else K (a.put o'.dst undef) w) : Upto P md ops Q S t (k + 1) l a w := by
  refine ⟨fun h0 => (by rw [hr] at h0; cases h0), fun q hq => ?_⟩
  rw [hr] at hq
  rcases List.mem_cons.1 hq with rfl | hq
  · exact wpOp_step ho fun K hK => h K (Lib.hid fun a1 w1 h1 h2 => hK a1 w1 ⟨h1, h2⟩)
  · obtain rfl := List.mem_singleton.1 hq
    exact wpOp_step ho' fun K hK => h' K (Lib.hid fun a1 w1 h1 h2 => hK a1 w1 ⟨h1, h2⟩)
end
end Go.Proofs.Ytdcbpnkcpglhhaa
