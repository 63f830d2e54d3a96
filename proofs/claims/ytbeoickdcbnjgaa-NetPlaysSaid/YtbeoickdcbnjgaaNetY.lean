/- The law NetPlays: an act that sends: ahead of the append. -/
import Derived.Test.YtbeoickdcbnjgaaNetX
namespace Go.Proofs.Ytbeoickdcbnjgaa
open Go.RowKit
set_option linter.unusedVariables false
set_option linter.unusedSimpArgs false
attribute [local go_sem] stepR givesR fillE Ext.refl

/-- the law's own copy of the bytes, that it pokes later -/
def Give (w : World) (S : Nat → Prop) (lo : Nat) (A : Option Addr) (n : Nat) : Prop :=
  0 < n → ∃ b cur, A = some ⟨b, 0, none⟩ ∧ lo ≤ b ∧ S b ∧ w.heap[b]? = some (.cells cur 5 (0, 0)) ∧ ∀ j, j < n → ∃ z, cur[j]? = some (.int .u8 z)
theorem Give.ext {w w' : World} {S : Nat → Prop} {lo : Nat} {A : Option Addr} {n : Nat} (h : Give w S lo A n) (hx : Ext w w') : Give w' S lo A n := fun hn => by
  obtain ⟨b, cur, e, h1, h2, h3, h4⟩ := h hn
  exact ⟨b, cur, e, h1, h2, hx.obj h3, h4⟩
def Wide (g h : Nat) (S : Nat → Prop) : Prop := S = GH g h ∨ ∃ b, S = Add (GH g h) b
structure DS (A : Option Addr) (n c : Nat) (x y : Int) (W : World) (g h j gx : Nat) (v : ActV) (S : Nat → Prop) (Ag : Option Addr) (cg : Nat) (a : Act) (w : World) : Prop where
  k : Kn A n c x y g h j a
  h10 : G a 10 = .pointer (some ⟨gx, 0, none⟩)
  h17 : G a 17 = .slice Ag v.p.n cg
  give : Give w S W.heap.size Ag v.p.n
  wide : Wide g h S
  le : v.p.n ≤ cg
theorem BRow.gives {w w1 : World} {lo : Nat} {A : Option Addr} {n c : Nat} {xs : List Int} (h : BRow w lo (.slice A n c) xs) (hn : n = xs.length) (hp : 0 < n) : ∃ b cur, A = some ⟨b, 0, none⟩ ∧ lo ≤ b ∧ w.heap[b]? = some (.cells cur 5 (0, 0)) ∧ ∀ j, j < n → ∃ z, cur[j]? = some (.int .u8 z) := by
  obtain ⟨g, hA, hb, cur, hg, hc⟩ : ∃ g, A = some ⟨g, 0, none⟩ ∧ lo ≤ g ∧ ∃ cur, w.heap[g]? = some (.cells cur 5 (0, 0)) ∧ True := by
    rcases h with ⟨h', h0, _⟩ | ⟨g, cap, cur, h', hb, hg, r⟩
    · omega
    · injection h' with h1 h2 h3
      exact ⟨g, h1, hb, cur, hg, trivial⟩
  subst hA
  obtain ⟨g', e, _, _, _, hcell⟩ := CRow.cell h (by omega)
  obtain rfl : g = g' := by simpa using e
  refine ⟨g, cur, rfl, hb, hg, fun j hj => ⟨xs.getD j 0, ?_⟩⟩
  have := (hcell j (by omega)).1
  rw [cell_of_row w g j _ _ _ hg, u8s_at (by omega)] at this
  exact this
set_option maxRecDepth 1000000 in
set_option maxHeartbeats 4000000 in
theorem gv_copy {A : Option Addr} {n c : Nat} {x y : Int} {W : World} {g h j gx l : Nat} {v : ActV} {a : Act} {w : World} (hk : Kn A n c x y g h j a) (h10 : G a 10 = .pointer (some ⟨gx, 0, none⟩)) (hS : Stand W g h (some (gx, v.arr)) [v.p] l w) :
    Code.wp Try.prog (nav [1,1,1,1,0,1,2,3,1,0,2,1,1,1,1,1,0,1,2,1,5,1,5,1,5,1,5,0] theBody) (Norm fun a w1 => ∃ S Ag cg lo, DS A n c x y W g h j gx v S Ag cg a w1 ∧ BRow w1 lo (.slice Ag v.p.n cg) v.p.xs ∧ ∃ m L, Duo S W w1 g h (some (gx, v.arr)) m m L L [v.p] ∧ L.length ≤ l ∧ ∀ s ∈ L, Wf s) a w := by
  obtain ⟨m, L, hd, hl, hwf⟩ := hS
  have x5 : w.cell? ⟨gx, 5, none⟩ = some (.slice v.p.B v.p.n v.p.c) := (cell_of_row w gx 5 _ _ _ hd.actc).trans rfl
  have HH := Lib.hid (And.intro hk (And.intro h10 (And.intro hd (And.intro hl hwf))))
  obtain ⟨nv, nu, ps, qs, d⟩ := hd
  have hp := d.2.2.2.2.1 v.p (by simp)
  have hlen : v.p.xs.length = v.p.n := hp.1.1
  have hfew := hp.2.2
  have HP := Lib.hid hp.1.src
  have HL := Lib.hid d.2.2.2.2.2.1.size_le'
  rw [act_281 a hk.d hk.s, h10]
  clear hk h10 hl hwf d hp
  have hmm : maxLen > 2000 := by decide
  conv => arg 2; whnf
  go_wp2_with (at_builtin; refine wpList_append_crow rfl w.heap.size (.const (.slice none 0 0)) (.tmp 70) 31 rfl Try.underlying31 1 info5 (by omega) (.slice none 0 0) 0 [] (u8s v.p.xs) v.p.B v.p.n v.p.c rfl rfl (CRow.nil _ _) HP.out (Nat.le_refl _) ?len ?len2 ?next)
  case len => omega
  case len2 => omega
  case next =>
    intro v1 w1 h1 h2 h3
    have hrow : BRow w1 w.heap.size v1 v.p.xs := by
      have := h1
      rw [← hlen] at this
      exact this
    obtain ⟨Ag, cg, rfl, hcg⟩ := BRow.form hrow
    rw [hlen] at hrow hcg
    have hx : Ext w w1 := (Ext.refl w).grown h2 (by simp) (by simp [Value.ownBlock])
    have H1 := Lib.hid (And.intro hrow (And.intro hcg hx))
    rw [hlen]
    clear h1 h2 h3 hrow hcg hx x5
    go_wp2_with fail
    obtain ⟨hrow, hcg, hx⟩ := H1.out
    rcases Nat.eq_zero_or_pos v.p.n with h0 | h0
    · exact ⟨GH g h, Ag, cg, _, ⟨⟨rfl, rfl, HH.out.1.h0, HH.out.1.h1, HH.out.1.h2, HH.out.1.h7, HH.out.1.h8, HH.out.1.h9⟩, rfl, rfl, fun hn => by omega, .inl rfl, hcg⟩, hrow, m, L, HH.out.2.2.1.ext hx, HH.out.2.2.2⟩
    · obtain ⟨b, cur, hA, hb, ho, hz⟩ := BRow.gives (w1 := w1) hrow hlen.symm h0
      exact ⟨Add (GH g h) b, Ag, cg, _, ⟨⟨rfl, rfl, HH.out.1.h0, HH.out.1.h1, HH.out.1.h2, HH.out.1.h7, HH.out.1.h8, HH.out.1.h9⟩, rfl, rfl, fun hn => ⟨b, cur, hA, Nat.le_trans HL.out hb, .inr rfl, ho, hz⟩, .inr ⟨b, rfl⟩, hcg⟩, hrow, m, L, HH.out.2.2.1.add hx hb (Array.getElem?_eq_some_iff.1 ho).1, HH.out.2.2.2⟩

set_option maxRecDepth 1000000 in
set_option maxHeartbeats 4000000 in
theorem gv_pack {A : Option Addr} {n c : Nat} {x y : Int} {W : World} {g h j gx l : Nat} {v : ActV} {S : Nat → Prop} {Ag : Option Addr} {cg lo m : Nat} {L : List Says} {a : Act} {w : World} (hD : DS A n c x y W g h j gx v S Ag cg a w) (hB : BRow w lo (.slice Ag v.p.n cg) v.p.xs) (hd : Duo S W w g h (some (gx, v.arr)) m m L L [v.p]) :
    Code.wp Try.prog (nav [1,1,1,1,0,1,2,3,1,0,2,1,1,1,1,1,0,1,2,1,5,1,5,1,5,1,5,1,0] theBody) (Norm fun a w => DS A n c x y W g h j gx v S Ag cg a w ∧ BRow w lo (.slice Ag v.p.n cg) v.p.xs ∧ Duo S W w g h (some (gx, v.arr)) m m L L [v.p] ∧ ∃ gp, G a 18 = .pointer (some ⟨gp, 0, none⟩) ∧ w.heap[gp]? = some (.cells #[.int .i64 v.p.f, .int .i64 v.p.t, .slice Ag v.p.n cg] 33 (0, 0))) a w := by
  have x3 : w.cell? ⟨gx, 3, none⟩ = some (.int .i64 v.p.f) := (cell_of_row w gx 3 _ _ _ hd.actc).trans rfl
  have x4 : w.cell? ⟨gx, 4, none⟩ = some (.int .i64 v.p.t) := (cell_of_row w gx 4 _ _ _ hd.actc).trans rfl
  have HH := Lib.hid (And.intro hD (And.intro hB hd))
  rw [act_281 a hD.k.d hD.k.s, hD.h10, hD.h17]
  clear hD hB hd
  conv => arg 2; whnf
  go_wp2_with fail
  obtain ⟨hD, hB, hd⟩ := HH.out
  have hx : Ext w (w.alloc (.cells #[.int .i64 v.p.f, .int .i64 v.p.t, .slice Ag v.p.n cg] 33)) := (Ext.refl w).alloc _
  exact ⟨⟨⟨rfl, rfl, hD.k.h0, hD.k.h1, hD.k.h2, hD.k.h7, hD.k.h8, hD.k.h9⟩, rfl, rfl, hD.give.ext hx, hD.wide, hD.le⟩, CRow.ext hB hx, hd.ext hx, _, rfl, heap_alloc_new w _⟩
set_option maxRecDepth 1000000 in
set_option maxHeartbeats 4000000 in
theorem gv_send {A : Option Addr} {n c : Nat} {x y : Int} {W : World} {g h j gx l : Nat} {v : ActV} {S : Nat → Prop} {Ag : Option Addr} {cg lo gp m : Nat} {L : List Says} {a : Act} {w : World} (hD : DS A n c x y W g h j gx v S Ag cg a w) (hB : BRow w lo (.slice Ag v.p.n cg) v.p.xs) (hd : Duo S W w g h (some (gx, v.arr)) m m L L [v.p]) (hl : L.length ≤ 60) (h18 : G a 18 = .pointer (some ⟨gp, 0, none⟩)) (ho : w.heap[gp]? = some (.cells #[.int .i64 v.p.f, .int .i64 v.p.t, .slice Ag v.p.n cg] 33 (0, 0))) :
    Code.wp Try.prog (nav [1,1,1,1,0,1,2,3,1,0,2,1,1,1,1,1,0,1,2,1,5,1,5,1,5,1,5,1,1,0] theBody) (Norm fun a w => DS A n c x y W g h j gx v S Ag cg a w ∧ Duo S W w g h (some (gx, v.arr)) m m (L ++ [v.p.says]) L [v.p]) a w := by
  have y0 : w.cell? ⟨gp, 0, none⟩ = some (.int .i64 v.p.f) := (cell_of_row w gp 0 _ _ _ ho).trans rfl
  have y1 : w.cell? ⟨gp, 1, none⟩ = some (.int .i64 v.p.t) := (cell_of_row w gp 1 _ _ _ ho).trans rfl
  have y2 : w.cell? ⟨gp, 2, none⟩ = some (.slice Ag v.p.n cg) := (cell_of_row w gp 2 _ _ _ ho).trans rfl
  have HH := Lib.hid (And.intro hD (And.intro hB hd))
  obtain ⟨nv, nu, ps, qs, d⟩ := hd
  have hlp : ps.length = L.length := by rw [← d.2.2.1, List.length_map]
  have hpx := d.2.2.2.2.1 v.p (by simp)
  -- the bytes lie apart from both nets
  have hbt : Bt w (With (GH g h) nv) Ag v.p.n v.p.xs := (BRow.bt hB (fun k cur hk hc hs => by
    rcases hs with (rfl | rfl) | hs
    · have := d.1.obj; rw [hc] at this; injection this with this; injection this with _ this; exact absurd this (by decide)
    · have := d.2.1.obj; rw [hc] at this; injection this with this; injection this with _ this; exact absurd this (by decide)
    · exact CRow.ne d.1.row hc (by decide) hs.symm)).1
  have hgS : ∀ k, With (GH g h) nv k → k < w.heap.size := by
    intro k hk
    rcases hk with (rfl | rfl) | hk
    · exact d.1.lt
    · exact (Array.getElem?_eq_some_iff.1 d.2.1.obj).1
    · exact (CRow.lt d.1.row k hk.symm).2.1
  have hq := pslice_one (p := ⟨v.p.f, v.p.t, Ag, v.p.n, cg, v.p.xs⟩) ⟨hbt, hD.le, hpx.2.2⟩ hgS
  have hx : Ext w (w.alloc (.cells #[.int .i64 v.p.f, .int .i64 v.p.t, .slice Ag v.p.n cg] 33)) := (Ext.refl w).alloc _
  have D2 := Lib.hid (d.ext hx)
  have T1 := send_apart (S0 := GH g h) D2.out.1 (Nat.le_trans d.2.2.2.2.2.1.size_le' hx.size_le') (some ⟨w.heap.size, 0, none⟩) 1 [⟨v.p.f, v.p.t, Ag, v.p.n, cg, v.p.xs⟩] (.inl rfl) hq (by simp; omega)
  rw [d.2.2.1] at T1
  rw [act_281 a hD.k.d hD.k.s, hD.k.h7, h18]
  clear hD hB d hx hq hgS hbt hpx hlp ho h18 hl
  conv => arg 2; whnf
  go_wp2_with fail
  refine T1.mono ?_
  rintro e w2 ⟨v', ps', rfl, hn, hs, hf, hc⟩
  have hx : Ext w (w.alloc (.cells #[.int .i64 v.p.f, .int .i64 v.p.t, .slice Ag v.p.n cg] 33)) := (Ext.refl w).alloc _
  have d3 := D2.out.turned hn hs hf hc
  have hgive : Give w2 S W.heap.size Ag v.p.n := fun hp => by
    obtain ⟨b, cur, e, h1, h2, h3, h4⟩ := HH.out.1.give hp
    refine ⟨b, cur, e, h1, h2, hc.obj (hx.obj h3) ?_, h4⟩
    intro hh
    have h3' := hx.obj h3
    rcases hh with rfl | hh
    · have := D2.out.1.obj; rw [h3'] at this; injection this with this; injection this with _ this; exact absurd this (by decide)
    · exact CRow.ne D2.out.1.row h3' (by decide) hh.symm
  have H3 := Lib.hid (And.intro d3 hgive)
  clear T1 hn hs hf hc d3 hgive hx
  go_wp2_with fail
  obtain ⟨hD, hB, hd⟩ := HH.out
  exact ⟨⟨⟨rfl, rfl, hD.k.h0, hD.k.h1, hD.k.h2, rfl, hD.k.h8, hD.k.h9⟩, hD.h10, hD.h17, H3.out.2, hD.wide, hD.le⟩, v', nu, ps', qs, H3.out.1⟩
end Go.Proofs.Ytbeoickdcbnjgaa
