/- The law NetPlays: its switch: an act that takes. -/
import Derived.Test.YtbeoickdcbnjgaaNetN
namespace Go.Proofs.Ytbeoickdcbnjgaa
open Go.RowKit
set_option linter.unusedVariables false
set_option linter.unusedSimpArgs false
attribute [local go_sem] stepR givesR fillE Ext.refl

theorem duo_rtake2 {S : Nat → Prop} {W w : World} {g h m m' : Nat} {x : Option (Nat × Array Value)} {L L' : List Says} {X : List Pk} {i : Int} (d : Duo S W w g h x m m' L L' X) (hwf : ∀ s ∈ L', (IntKind.i64.min ≤ s.1 ∧ s.1 ≤ IntKind.i64.max) ∧ (IntKind.i64.min ≤ s.2.1 ∧ s.2.1 ≤ IntKind.i64.max)) :
    Calls Try.prog 7 #[.pointer (some ⟨h, 0, none⟩), .int .i64 i] w (fun e w' => ∃ q : Pk, e = .returned (.tuple #[.agg #[.int .i64 q.f, .int .i64 q.t, .slice q.B q.n q.c], .bool (takeOf m' L' i).2.2]) ∧ q.says = (takeOf m' L' i).2.1 ∧ Duo S W w' g h x m m' L (takeOf m' L' i).1 (q :: X) ∧ Chg (fun k => k = h) w w') := by
  obtain ⟨v, u, ps, qs, d⟩ := d
  have := rtake_any d.2.1 d.2.2.2.2.2.1.size_le' i (says_wf d.2.2.2.1 hwf)
  rw [d.2.2.2.1] at this
  refine this.mono ?_
  rintro e w' ⟨u', qs', q, he, n, hs, hq, hok, hc⟩
  have dt := d.rturned n hs hc
  refine ⟨q, he, hq, ⟨v, u', ps, qs', dt.1, dt.2.1, dt.2.2.1, dt.2.2.2.1, fun p hp => ?_, dt.2.2.2.2.2⟩, hc⟩
  rcases List.mem_cons.1 hp with rfl | hp
  · exact hok
  · exact dt.2.2.2.2.1 p hp
theorem Duo.h_lt {S : Nat → Prop} {W w : World} {g h m m' : Nat} {x : Option (Nat × Array Value)} {L L' : List Says} {X : List Pk} (d : Duo S W w g h x m m' L L' X) : h < w.heap.size := by
  obtain ⟨v, u, ps, qs, d⟩ := d
  exact (Array.getElem?_eq_some_iff.1 d.2.1.obj).1
theorem Duo.same {S : Nat → Prop} {W w : World} {g h m m' : Nat} {x : Option (Nat × Array Value)} {L L' : List Says} {X : List Pk} (d : Duo S W w g h x m m' L L' X) {p q : Pk} (hp : p ∈ X) (hq : q ∈ X) (e : p.says = q.says) : Calls Try.prog 8 #[p.val, q.val] w (RetX (.bool true) w) := by
  obtain ⟨v, u, ps, qs, d⟩ := d
  exact packet_same (d.2.2.2.2.1 p hp) (d.2.2.2.2.1 q hq) e
theorem Duo.actc {S : Nat → Prop} {W w : World} {g h m m' gx : Nat} {cs : Array Value} {L L' : List Says} {X : List Pk} (d : Duo S W w g h (some (gx, cs)) m m' L L' X) : w.heap[gx]? = some (.cells cs 35 (0, 0)) := by
  obtain ⟨v, u, ps, qs, d⟩ := d
  exact d.2.2.2.2.2.2.1 _ _ rfl
theorem take_keeps {m : Nat} {L : List Says} {k : Int} {l : Nat} (hl : L.length ≤ l) (hwf : ∀ s ∈ L, Wf s) : (∀ s ∈ (takeOf m L k).1, Wf s) ∧ (takeOf m L k).1.length ≤ l := by
  unfold takeOf
  split
  · refine ⟨fun s hs => hwf s (List.mem_of_mem_eraseIdx hs), ?_⟩
    rw [List.length_eraseIdx]
    split <;> omega
  · exact ⟨hwf, hl⟩
set_option maxRecDepth 1000000 in
set_option maxHeartbeats 4000000 in
theorem sw_take {A : Option Addr} {n c : Nat} {x y : Int} {W : World} {g h j gx l : Nat} {v : ActV} {k : Int} {t : Bool} {a : Act} {w : World}
    (hk : Kn A n c x y g h j a) (h10 : G a 10 = .pointer (some ⟨gx, 0, none⟩)) (h11 : G a 11 = .int .i64 k) (h12 : G a 12 = .bool t) (hS : StandI W g h (some (gx, v.arr)) [v.p] l k t w) (hw : v.what % 8 = 3 ∨ v.what % 8 = 4) (hw2 : 0 ≤ v.what ∧ v.what ≤ 255) :
    Code.wp Try.prog (nav [1,1,1,1,0,1,2,3,1,0,2,1,1,1,1,1,0] theBody) (Norm (SwPost A n c x y W g h j gx l v)) a w := by
  obtain ⟨m, L, hd, hl, hwf, _⟩ := hS
  have x0 : w.cell? ⟨gx, 0, none⟩ = some (.int .u8 v.what) := (cell_of_row w gx 0 _ _ _ hd.actc).trans rfl
  have T1 := duo_take (i := k) hd hwf
  have T2 := fun (w' : World) (X : List Pk) (d : Duo (GH g h) W w' g h (some (gx, v.arr)) m m (takeOf m L k).1 L X) => duo_rtake2 (i := k) d hwf
  obtain ⟨ht, hd0⟩ := take_keeps (m := m) (k := k) hl hwf
  obtain ⟨⟨L2, s, b⟩, hz⟩ : ∃ z, takeOf m L k = z := ⟨_, rfl⟩
  rw [hz] at T1 T2 ht hd0
  simp only at T1 T2 ht hd0
  clear hz
  have HH := Lib.hid (And.intro hk (And.intro h10 (And.intro ht hd0)))
  rw [act_281 a hk.d hk.s, hk.h7, hk.h8, h10, h11, h12]
  clear hk h10 h11 h12 hd hl hwf ht hd0
  conv => arg 2; whnf
  obtain ⟨what, hv⟩ : ∃ what, v.what = what := ⟨_, rfl⟩
  rw [hv] at hw hw2 x0
  clear hv
  rcases hw with hw | hw
  all_goals
    have hw8 : what % 8 = _ := hw
    cases b
    all_goals
      go_wp2_with fail
      refine T1.mono ?_
      rintro e w1 ⟨q, rfl, hq, d1⟩
      clear T1 x0
      have D1 := Lib.hid (And.intro (d1.ext ((Ext.refl w1).alloc (.cells #[.int .i64 q.f, .int .i64 q.t, .slice q.B q.n q.c] 33))) d1.h_lt)
      go_wp2_with fail
      refine (T2 _ _ D1.out.1).mono ?_
      rintro e w2 ⟨r, rfl, hr, d2, hc⟩
      have p0 := hc.obj (heap_alloc_new w1 (.cells #[.int .i64 q.f, .int .i64 q.t, .slice q.B q.n q.c] 33)) (by have := D1.out.2; omega)
      have p1 := ((Ext.refl w2).alloc (.cells #[.int .i64 r.f, .int .i64 r.t, .slice r.B r.n r.c] 33)).obj p0
      have a0 := cell_of_row _ w1.heap.size 0 _ _ _ p1
      have a1 := cell_of_row _ w1.heap.size 1 _ _ _ p1
      have a2 := cell_of_row _ w1.heap.size 2 _ _ _ p1
      have D2 := d2.ext ((Ext.refl w2).alloc (.cells #[.int .i64 r.f, .int .i64 r.t, .slice r.B r.n r.c] 33))
      have T3 := D2.same (p := q) (q := r) (by simp) (by simp) (hq.trans hr.symm)
      have HD2 := Lib.hid D2
      clear T2 D2 d2 d1 D1 hc p0 p1
      go_wp2_with fail
      refine T3.mono ?_
      rintro e w3 ⟨rfl, hx3⟩
      go_wp2_with fail
      refine ⟨⟨rfl, rfl, HH.out.1.h0, HH.out.1.h1, HH.out.1.h2, rfl, rfl, HH.out.1.h9⟩, rfl, m, L2, (HD2.out.ext hx3).less (by simp), HH.out.2.2.2, HH.out.2.2.1⟩
end Go.Proofs.Ytbeoickdcbnjgaa
