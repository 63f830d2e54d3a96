/- The law NetPlays: the tail, joined. -/
import Derived.Test.YtbeoickdcbnjgaaNetT
import Derived.Deep.RegionWith
namespace Go.Proofs.Ytbeoickdcbnjgaa
open Go.RowKit
set_option linter.unusedVariables false
set_option linter.unusedSimpArgs false
attribute [local go_sem] stepR givesR fillE Ext.refl

set_option maxRecDepth 1000000 in
theorem tl_loop {t : TP} {a : Act} {w : World} (hT : LS t 0 a w) : Code.wp Try.prog (nav [1,1,1,1,0,1,2,3,1,0,2,1,1,1,1,1,1,1,1,0,1] theBody) (Norm (TS t)) a w := by
  show Code.wp Try.prog (Code.block 5 (Code.loop (nav [1,1,1,1,0,1,2,3,1,0,2,1,1,1,1,1,1,1,1,0,1,2,3] theBody))) _ _ _
  refine wp_block (wp_loop (fun a w => ∃ i, LS t i a w) (fun a w => t.L.length - (intOf (G a 21)).toNat) ⟨0, hT⟩ ?_)
  rintro a w ⟨i, h⟩
  refine wp_mono (tl_round h) ?_
  intro e a' w' hr
  cases e with
  | normal =>
    refine ⟨⟨i + 1, hr⟩, ?_⟩
    have h1 := hr.2.1
    have h2 := hr.2.2
    have h3 := h.2.2
    simp only [h2, h3, intOf]
    omega
  | exit id =>
    obtain ⟨rfl, hr⟩ := hr
    simp only [Exit.then, Exit.inBlock, if_true]
    exact hr
  | _ => exact hr.elim
set_option maxRecDepth 1000000 in
set_option maxHeartbeats 4000000 in
theorem tl_joined {t : TP} {a : Act} {w : World} (hT : TS t a w) (hxy : (IntKind.i64.min ≤ t.x ∧ t.x ≤ IntKind.i64.max) ∧ (IntKind.i64.min ≤ t.y ∧ t.y ≤ IntKind.i64.max)) (hwf : Wf t.v.p.says) : Code.wp Try.prog (nav [1,1,1,1,0,1,2,3,1,0,2,1,1,1,1,1,1,1,1,1] theBody) (Norm (TS t)) a w := by
  have HT := Lib.hid hT
  obtain ⟨A, n, c, x, y, W, g, h, j, gx, ⟨vw, vn, vm, ⟨pf, pt, pB, pn, pc, pxs⟩⟩, m, L, nv, nu, ps, qs, qs4, A4, c4, b4, S4⟩ := t
  obtain ⟨k, h10, h20, d, row, ok, says, few⟩ := hT
  simp only at k h10 h20 d row ok says few hxy hwf
  have J1 := fun w' (hx : Ext w w') => joined_any (d.ext hx).1 x y hxy.1 hxy.2
  have J2 := fun w' (hx : Ext w w') => rjoined_any (d.ext hx).2.1 x y hxy.1 hxy.2
  have J3 := fun w' (hx : Ext w w') => joined_any (d.ext hx).1 pf pt hwf.1 hwf.2
  have J4 := fun w' (hx : Ext w w') => rjoined_any (d.ext hx).2.1 pf pt hwf.1 hwf.2
  have o10 := d.2.2.2.2.2.2.1 _ _ rfl
  have e3 : w.cell? ⟨gx, 3, none⟩ = some (.int .i64 pf) := (cell_of_row w gx 3 _ _ _ o10).trans rfl
  have e4 : w.cell? ⟨gx, 4, none⟩ = some (.int .i64 pt) := (cell_of_row w gx 4 _ _ _ o10).trans rfl
  obtain ⟨z1, hz1⟩ : ∃ z, joinB m x y = z := ⟨_, rfl⟩
  obtain ⟨z2, hz2⟩ : ∃ z, joinB m pf pt = z := ⟨_, rfl⟩
  simp only [hz1] at J1 J2
  simp only [hz2] at J3 J4
  rw [act_281 a k.d k.s, k.h1, k.h2, k.h7, k.h8, h10]
  clear k h10 h20 d row ok says few hxy hwf o10 hz1 hz2
  conv => arg 2; whnf
  go_wp2_with fail
  cases z1
  all_goals
    cases z2
    all_goals
      go_quiet ((first | (go_at_call_of 15 (Value.int IntKind.i64 x); refine Calls.quiet_of_same ((J1 _ (by first | exact (Ext.refl w).drew | exact (Ext.refl w).drewN _)).mono fun e w' h => ⟨h.1, h.2.symm⟩)) | (go_at_call_of 16 (Value.int IntKind.i64 x); refine Calls.quiet_of_same ((J2 _ (by first | exact (Ext.refl w).drew | exact (Ext.refl w).drewN _)).mono fun e w' h => ⟨h.1, h.2.symm⟩)) | (go_at_call_of 15 (Value.int IntKind.i64 pf); refine Calls.quiet_of_same ((J3 _ (by first | exact (Ext.refl w).drew | exact (Ext.refl w).drewN _)).mono fun e w' h => ⟨h.1, h.2.symm⟩)) | (go_at_call_of 16 (Value.int IntKind.i64 pf); refine Calls.quiet_of_same ((J4 _ (by first | exact (Ext.refl w).drew | exact (Ext.refl w).drewN _)).mono fun e w' h => ⟨h.1, h.2.symm⟩))))
      go_wp2_with fail
      exact HT.out.ext ((Ext.refl w).drewN nq) ⟨rfl, rfl, HT.out.k.h0, rfl, rfl, rfl, rfl, HT.out.k.h9⟩ rfl HT.out.h20
def TailPost (A : Option Addr) (n c : Nat) (x y : Int) (W : World) (g h j l : Nat) (a : Act) (w : World) : Prop := Kn A n c x y g h j a ∧ Stand W g h none [] l w
set_option maxRecDepth 1000000 in
theorem tail_any {A : Option Addr} {n c : Nat} {x y : Int} {W : World} {g h j gx l : Nat} {v : ActV} {a : Act} {w : World} (hS : SwPost A n c x y W g h j gx l v a w) (hl : l ≤ 61)
    (hxy : (IntKind.i64.min ≤ x ∧ x ≤ IntKind.i64.max) ∧ (IntKind.i64.min ≤ y ∧ y ≤ IntKind.i64.max)) (hwf : Wf v.p.says) :
    Code.wp Try.prog (nav [1,1,1,1,0,1,2,3,1,0,2,1,1,1,1,1,1] theBody) (Norm (TailPost A n c x y W g h j l)) a w := by
  obtain ⟨hk, h10, m, L, ⟨nv, nu, ps, qs, hd⟩, hL, hLw⟩ := hS
  show Code.wp Try.prog (Code.seq (nav [1,1,1,1,0,1,2,3,1,0,2,1,1,1,1,1,1,0] theBody) (Code.seq (nav [1,1,1,1,0,1,2,3,1,0,2,1,1,1,1,1,1,1,0] theBody) (Code.seq (Code.seq (nav [1,1,1,1,0,1,2,3,1,0,2,1,1,1,1,1,1,1,1,0,0] theBody) (nav [1,1,1,1,0,1,2,3,1,0,2,1,1,1,1,1,1,1,1,0,1] theBody)) (nav [1,1,1,1,0,1,2,3,1,0,2,1,1,1,1,1,1,1,1,1] theBody)))) _ _ _
  refine seq_norm (tl_all hk h10 hd (Nat.le_trans hL hl)) ?_
  rintro a w ⟨qs4, A4, c4, b4, S4, hT⟩
  refine seq_norm (tl_len hT) ?_
  intro a w hT
  refine seq_norm (seq_norm (tl_zero hT) (fun a w h => tl_loop h)) ?_
  intro a w hT
  refine norm_mono (tl_joined hT hxy hwf) ?_
  intro a w hT
  exact ⟨hT.k, m, L, Duo.less (X := [v.p]) (Duo.noact ⟨nv, nu, ps, qs, hT.d⟩) (by simp), hL, hLw⟩
end Go.Proofs.Ytbeoickdcbnjgaa
