/- The law NetPlays: a round ahead of the switch. -/
import Derived.Test.YtbeoickdcbnjgaaNetO
namespace Go.Proofs.Ytbeoickdcbnjgaa
open Go.RowKit
set_option linter.unusedVariables false
set_option linter.unusedSimpArgs false
attribute [local go_sem] stepR givesR fillE Ext.refl

theorem tmod6 (n : Int) : -6 < n.tmod 6 ∧ n.tmod 6 < 6 := by
  rw [Int.tmod_eq_emod]
  split <;> simp <;> omega
def Fin (W : World) (K : Act → World → Prop) : Exit → Act → World → Prop
  | .normal, a, w => K a w
  | .ret, a, w => a.defers = [] ∧ a.tmps.size = 281 ∧ G a 6 = .bool true ∧ Ext W w
  | _, _, _ => False
theorem seq_fin {W : World} {P : Program} {c d : Code} {K1 K : Act → World → Prop} {a : Act} {w : World} (h1 : c.wp P (Fin W K1) a w) (h2 : ∀ a w, K1 a w → d.wp P (Fin W K) a w) : (Code.seq c d).wp P (Fin W K) a w := by
  refine wp_seq (wp_mono h1 ?_)
  intro e a' w' h
  cases e with
  | normal => exact h2 _ _ h
  | ret => exact h
  | _ => exact h.elim
theorem norm_fin {W : World} {P : Program} {c : Code} {K1 K : Act → World → Prop} {a : Act} {w : World} (h1 : c.wp P (Norm K1) a w) (h2 : ∀ a w, K1 a w → K a w) : c.wp P (Fin W K) a w := by
  refine wp_mono h1 ?_
  intro e a' w' h
  cases e with
  | normal => exact h2 _ _ h
  | _ => exact h.elim
theorem Stand.low {W : World} {g h l : Nat} {z : Option (Nat × Array Value)} {X : List Pk} {w : World} (s : Stand W g h z X l w) : Ext W w := by
  obtain ⟨m, L, hd, _⟩ := s
  exact hd.low
/-- with the act read -/
def HS (A : Option Addr) (n c : Nat) (x y : Int) (W : World) (g h j gx : Nat) (v : ActV) (X : List Pk) (a : Act) (w : World) : Prop :=
  Kn A n c x y g h j a ∧ G a 10 = .pointer (some ⟨gx, 0, none⟩) ∧ Stand W g h (some (gx, v.arr)) X j w
set_option maxRecDepth 1000000 in
set_option maxHeartbeats 4000000 in
theorem hd_read {A : Option Addr} {n c : Nat} {x y : Int} {W : World} {g h j : Nat} {f : Nat → ActV} {a : Act} {w : World} (hk : Kn A n c x y g h j a) (hS : Stand W g h none [] j w) (hA : Acts W A n f) (hj : j < n) :
    Code.wp Try.prog (nav [1,1,1,1,0,1,2,3,1,0,2,0] theBody) (Norm fun a w => ∃ gx, HS A n c x y W g h j gx (f j) [] a w) a w := by
  obtain ⟨bb, off, rfl, hact⟩ := hA (by omega)
  obtain ⟨hcell, hok⟩ := hact j hj
  have hlow := hS.low
  have e0 := hlow.cell (hcell 0 _ rfl)
  have e1 := hlow.cell (hcell 1 _ rfl)
  have e2 := hlow.cell (hcell 2 _ rfl)
  have e3 := hlow.cell (hcell 3 _ rfl)
  have e4 := hlow.cell (hcell 4 _ rfl)
  have e5 := hlow.cell (hcell 5 _ rfl)
  obtain ⟨⟨what, num, mask, ⟨pf, pt, pB, pn, pc, pxs⟩⟩, hfj⟩ : ∃ y, f j = y := ⟨_, rfl⟩
  rw [hfj] at e0 e1 e2 e3 e4 e5 ⊢
  simp only [Nat.add_zero] at e0 e1 e2 e3 e4 e5
  have hjn : (j : Int) < (n : Int) := by omega
  have hj0 : ((j : Int) < 0) = False := by simp
  have HH := Lib.hid (And.intro hk hS)
  rw [act_281 a hk.d hk.s, hk.h0, hk.h9]
  clear hk hS hA hact hcell hok hlow hfj
  conv => arg 2; whnf
  go_wp2_with fail
  refine ⟨_, ⟨rfl, rfl, rfl, HH.out.1.h1, HH.out.1.h2, HH.out.1.h7, HH.out.1.h8, rfl⟩, rfl, ?_⟩
  obtain ⟨m, L, hd, hl, hwf⟩ := HH.out.2
  exact ⟨m, L, (hd.ext ((Ext.refl w).alloc _)).act (heap_alloc_new w _), hl, hwf⟩
set_option maxRecDepth 1000000 in
set_option maxHeartbeats 4000000 in
theorem hd_long {A : Option Addr} {n c : Nat} {x y : Int} {W : World} {g h j gx : Nat} {v : ActV} {a : Act} {w : World} (hS : HS A n c x y W g h j gx v [] a w) (hok : ActOk W v) :
    Code.wp Try.prog (nav [1,1,1,1,0,1,2,3,1,0,2,1,0] theBody) (Fin W (HS A n c x y W g h j gx v [v.p])) a w := by
  obtain ⟨hk, h10, m, L, hd, hl, hwf⟩ := hS
  have x5 : w.cell? ⟨gx, 5, none⟩ = some (.slice v.p.B v.p.n v.p.c) := (cell_of_row w gx 5 _ _ _ hd.actc).trans rfl
  have HH := Lib.hid (And.intro hk (And.intro h10 (And.intro hd (And.intro hl hwf))))
  rw [act_281 a hk.d hk.s, h10]
  clear hk h10 hd hl hwf
  conv => arg 2; whnf
  by_cases hpn : 40 < v.p.n
  · have hpn' : (40 : Int) < (v.p.n : Int) := by omega
    clear hok hpn
    go_wp2_with fail
    exact ⟨rfl, rfl, rfl, HH.out.2.2.1.low⟩
  · have hpn' : ((40 : Int) < (v.p.n : Int)) = False := by simp; omega
    go_wp2_with fail
    refine ⟨⟨rfl, rfl, HH.out.1.h0, HH.out.1.h1, HH.out.1.h2, HH.out.1.h7, HH.out.1.h8, HH.out.1.h9⟩, rfl, m, L, HH.out.2.2.1.old hok.2.2.2.2.2.1 hok.2.2.2.2.2.2.1 (by omega), HH.out.2.2.2⟩
set_option maxRecDepth 1000000 in
set_option maxHeartbeats 4000000 in
theorem hd_num {A : Option Addr} {n c : Nat} {x y : Int} {W : World} {g h j gx : Nat} {v : ActV} {X : List Pk} {a : Act} {w : World} (hS : HS A n c x y W g h j gx v X a w) :
    Code.wp Try.prog (nav [1,1,1,1,0,1,2,3,1,0,2,1,1,0] theBody) (Norm fun a w => HS A n c x y W g h j gx v X a w ∧ G a 11 = .int .i64 v.num) a w := by
  obtain ⟨hk, h10, m, L, hd, hl, hwf⟩ := hS
  have x1 : w.cell? ⟨gx, 1, none⟩ = some (.int .i64 v.num) := (cell_of_row w gx 1 _ _ _ hd.actc).trans rfl
  have HH := Lib.hid (And.intro hk (And.intro h10 (And.intro hd (And.intro hl hwf))))
  rw [act_281 a hk.d hk.s, h10]
  clear hk h10 hd hl hwf
  conv => arg 2; whnf
  go_wp2_with fail
  exact ⟨⟨⟨rfl, rfl, HH.out.1.h0, HH.out.1.h1, HH.out.1.h2, HH.out.1.h7, HH.out.1.h8, HH.out.1.h9⟩, rfl, m, L, HH.out.2.2⟩, rfl⟩
set_option maxRecDepth 1000000 in
set_option maxHeartbeats 4000000 in
theorem hd_rem {A : Option Addr} {n c : Nat} {x y : Int} {W : World} {g h j gx : Nat} {v : ActV} {X : List Pk} {a : Act} {w : World} (hS : HS A n c x y W g h j gx v X a w ∧ G a 11 = .int .i64 v.num) (hr : IntKind.i64.min ≤ v.num ∧ v.num ≤ IntKind.i64.max) (hw2 : 0 ≤ v.what ∧ v.what ≤ 255) :
    Code.wp Try.prog (nav [1,1,1,1,0,1,2,3,1,0,2,1,1,1,0] theBody) (Norm fun a w => ∃ k : Int, (IntKind.i64.min ≤ k ∧ k ≤ IntKind.i64.max) ∧ HS A n c x y W g h j gx v X a w ∧ G a 11 = .int .i64 k) a w := by
  obtain ⟨⟨hk, h10, m, L, hd, hl, hwf⟩, h11⟩ := hS
  have x0 : w.cell? ⟨gx, 0, none⟩ = some (.int .u8 v.what) := (cell_of_row w gx 0 _ _ _ hd.actc).trans rfl
  have HH := Lib.hid (And.intro hk (And.intro h10 (And.intro hd (And.intro hl hwf))))
  rw [act_281 a hk.d hk.s, h10, h11]
  clear hk h10 hd hl hwf h11
  conv => arg 2; whnf
  obtain ⟨what, hv⟩ : ∃ what, v.what = what := ⟨_, rfl⟩
  obtain ⟨num, hn⟩ : ∃ num, v.num = num := ⟨_, rfl⟩
  rw [hv] at hw2 x0
  rw [hn] at hr ⊢
  have HR := Lib.hid hr
  clear hv hn hr
  rcases (show (what / 8 % 4 = 0) ∨ (0 < what / 8 % 4) by omega) with hq | hq
  all_goals
    go_wp2_with fail
    refine ⟨_, ?_, ⟨⟨rfl, rfl, HH.out.1.h0, HH.out.1.h1, HH.out.1.h2, HH.out.1.h7, HH.out.1.h8, HH.out.1.h9⟩, rfl, m, L, HH.out.2.2⟩, rfl⟩
    first
      | exact HR.out
      | (have h1 := tmod6 num; have e1 : IntKind.i64.min = -9223372036854775808 := by decide
         have e2 : IntKind.i64.max = 9223372036854775807 := by decide
         rw [e1, e2]; omega)
/-- what the switch goes by -/
def KS (A : Option Addr) (n c : Nat) (x y : Int) (W : World) (g h j gx : Nat) (v : ActV) (k : Int) (t : Bool) (a : Act) (w : World) : Prop :=
  Kn A n c x y g h j a ∧ G a 10 = .pointer (some ⟨gx, 0, none⟩) ∧ G a 11 = .int .i64 k ∧ G a 12 = .bool t ∧ StandI W g h (some (gx, v.arr)) [v.p] j k t w
def KE (A : Option Addr) (n c : Nat) (x y : Int) (W : World) (g h j gx : Nat) (v : ActV) (k : Int) (a : Act) (w : World) : Prop := ∃ t, KS A n c x y W g h j gx v k t a w
set_option maxRecDepth 1000000 in
set_option maxHeartbeats 4000000 in
theorem hd_in {A : Option Addr} {n c : Nat} {x y : Int} {W : World} {g h j gx : Nat} {v : ActV} {k : Int} {a : Act} {w : World} (hS : HS A n c x y W g h j gx v [v.p] a w ∧ G a 11 = .int .i64 k) :
    Code.wp Try.prog (nav [1,1,1,1,0,1,2,3,1,0,2,1,1,1,1,0] theBody) (Norm (KE A n c x y W g h j gx v k)) a w := by
  obtain ⟨⟨hk, h10, m, L, hd, hl, hwf⟩, h11⟩ := hS
  have HH := Lib.hid (And.intro hk (And.intro h10 (And.intro hd (And.intro hl hwf))))
  obtain ⟨nv, nu, ps, qs, d⟩ := hd
  obtain ⟨A1, cap, hv, hlc, hcm, hnone⟩ := CRow.form d.2.1.row
  have hlq : qs.length = L.length := by rw [← d.2.2.2.1, List.length_map]
  obtain ⟨c0, c1, f0, f1⟩ := d.2.1.cells
  rw [hv, hlq] at c0
  rw [act_281 a hk.d hk.s, h10, h11, hk.h8]
  clear hk h10 d hl hwf h11 hv hlc hcm hnone hlq
  conv => arg 2; whnf
  by_cases h0 : 0 ≤ k
  · have e : inB k L.length = decide (k < (L.length : Int)) := by unfold inB; simp [h0]
    go_wp2_with fail
    exact ⟨_, ⟨rfl, rfl, HH.out.1.h0, HH.out.1.h1, HH.out.1.h2, HH.out.1.h7, rfl, HH.out.1.h9⟩, rfl, rfl, rfl, m, L, HH.out.2.2.1, HH.out.2.2.2.1, HH.out.2.2.2.2, e.symm⟩
  · have e : inB k L.length = false := by unfold inB; simp [h0]
    have hn0 : decide (0 ≤ k) = false := by simpa using h0
    go_wp2_with fail
    exact ⟨_, ⟨rfl, rfl, HH.out.1.h0, HH.out.1.h1, HH.out.1.h2, HH.out.1.h7, rfl, HH.out.1.h9⟩, rfl, rfl, rfl, m, L, HH.out.2.2.1, HH.out.2.2.2.1, HH.out.2.2.2.2, e.symm⟩
end Go.Proofs.Ytbeoickdcbnjgaa
