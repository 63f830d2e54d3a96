/- The law NetPlays: its switch: an act that parts. -/
import Derived.Test.YtbeoickdcbnjgaaNetO
namespace Go.Proofs.Ytbeoickdcbnjgaa
open Go.RowKit
set_option linter.unusedVariables false
set_option linter.unusedSimpArgs false
attribute [local go_sem] stepR givesR fillE Ext.refl

set_option maxRecDepth 1000000 in
set_option maxHeartbeats 4000000 in
theorem sw_part {A : Option Addr} {n c : Nat} {x y : Int} {W : World} {g h j gx l : Nat} {v : ActV} {k : Int} {t : Bool} {a : Act} {w : World}
    (hk : Kn A n c x y g h j a) (h10 : G a 10 = .pointer (some ⟨gx, 0, none⟩)) (h11 : G a 11 = .int .i64 k) (h12 : G a 12 = .bool t) (hS : StandI W g h (some (gx, v.arr)) [v.p] l k t w) (hl60 : l ≤ 60) (hkr : IntKind.i64.min ≤ k ∧ k ≤ IntKind.i64.max) (hok : ActOk W v) (hw : v.what % 8 = 7) (hw2 : 0 ≤ v.what ∧ v.what ≤ 255) :
    Code.wp Try.prog (nav [1,1,1,1,0,1,2,3,1,0,2,1,1,1,1,1,0] theBody) (Norm (SwPost A n c x y W g h j gx (l + 1) v)) a w := by
  obtain ⟨m, L, hd, hl, hwf, hte⟩ := hS
  have x0 : w.cell? ⟨gx, 0, none⟩ = some (.int .u8 v.what) := (cell_of_row w gx 0 _ _ _ hd.actc).trans rfl
  have x2 : w.cell? ⟨gx, 2, none⟩ = some (.int .u64 v.mask) := (cell_of_row w gx 2 _ _ _ hd.actc).trans rfl
  have hm : v.mask < 18446744073709551616 := hok.2.2.2.1
  have T1 := duo_n (m1 := v.mask) (L1 := L) (r := .tuple #[]) hd (fun v' ps hn hs hb => hs ▸ part_any hn v.mask hm)
  have HH := Lib.hid (And.intro hk (And.intro h10 (And.intro hwf hl)))
  rw [act_281 a hk.d hk.s, hk.h7, hk.h8, h10, h11, h12]
  clear hk h10 h11 h12 hl hwf
  conv => arg 2; whnf
  obtain ⟨what, hv⟩ : ∃ what, v.what = what := ⟨_, rfl⟩
  rw [hv] at hw hw2 x0
  clear hv
  have hw8 : what % 8 = 7 := hw
  go_wp2_with fail
  refine T1.mono ?_
  rintro e w1 ⟨rfl, d1⟩
  have y2 : w1.cell? ⟨gx, 2, none⟩ = some (.int .u64 v.mask) := (cell_of_row w1 gx 2 _ _ _ d1.actc).trans rfl
  have D1 := Lib.hid d1
  obtain ⟨v1, u1, ps1, qs1, d⟩ := d1
  obtain ⟨c0, c1, f0, f1⟩ := d.2.1.cells
  have D := Lib.hid d
  clear T1 x0 x2 d hd
  go_wp2_with fail
  obtain ⟨n1, n2⟩ := D.out.2.1.put_mask hm
  exact ⟨⟨rfl, rfl, HH.out.1.h0, HH.out.1.h1, HH.out.1.h2, rfl, rfl, HH.out.1.h9⟩, rfl, v.mask, L, ⟨v1, u1, ps1, qs1, D.out.rturned n1 D.out.2.2.2.1 n2⟩, by have := HH.out.2.2.2; omega, HH.out.2.2.1⟩
end Go.Proofs.Ytbeoickdcbnjgaa
