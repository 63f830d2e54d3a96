/- NumOps. -/
import Derived.Test.YtgodncdhkmpfaaaNumJ
import Derived.Test.YtgodncdhkmpfaaaLight
namespace Go.Proofs.Ytgodncdhkmpfaaa
open Go.RowKit
set_option linter.unusedVariables false
set_option linter.unusedSimpArgs false
attribute [local go_sem] stepR givesR fillE Ext.refl

theorem VAt.lt {w : World} {b : Nat} {k i : Int} {f : Nat} {s : ByteArray} {L : Value} (h : VAt w b k i f s L) : b < w.heap.size := by
  have := h.heap
  rcases Nat.lt_or_ge b w.heap.size with h1 | h1
  · exact h1
  · rw [Array.getElem?_eq_none h1] at this; cases this
theorem VAt.other {w : World} {b b' : Nat} {k i : Int} {f : Nat} {s : ByteArray} {L : Value} (h : VAt w b k i f s L) (hne : b ≠ b') (k' i' : Int) (f' : Nat) (s' : ByteArray) (L' : Value) :
    VAt (((((w.setCell ⟨b', 0, none⟩ (.int .i64 k')).setCell ⟨b', 1, none⟩ (.int .i64 i')).setCell ⟨b', 2, none⟩ (.float .f64 f')).setCell ⟨b', 3, none⟩ (.string s')).setCell ⟨b', 4, none⟩ L') b k i f s L :=
  ⟨by rw [heap_setCell_other _ _ _ _ hne, heap_setCell_other _ _ _ _ hne, heap_setCell_other _ _ _ _ hne, heap_setCell_other _ _ _ _ hne, heap_setCell_other _ _ _ _ hne]; exact h.heap⟩

set_option maxRecDepth 100000 in
set_option maxHeartbeats 4000000 in
theorem numOps_law (w : World) (x : Val) (hx : ∃ n, Tree w n x) (y : Val) (hy : ∃ n, Tree w n y) : Calls Try.prog 7 #[(.agg #[.int .i64 x.k, .int .i64 x.i, .float .f64 x.f, .string x.s, (.slice x.A x.l x.c)]), (.agg #[.int .i64 y.k, .int .i64 y.i, .float .f64 y.f, .string y.s, (.slice y.A y.l y.c)])] w (Ret (.bool true) w) := by
  obtain ⟨n, hx⟩ := hx
  obtain ⟨m, hy⟩ := hy
  have hxi : inR x.i := by cases n with | zero => exact hx.elim | succ n => exact hx.2.1
  have hyi : inR y.i := by cases m with | zero => exact hy.elim | succ m => exact hy.2.1
  have HX := Lib.hid hx
  have HY := Lib.hid hy
  have HI := Lib.hid (And.intro hxi hyi)
  clear hx hy hxi hyi
  have A := (VAt.new w x.k x.i x.f x.s (.slice x.A x.l x.c)).ext (x1 _ (.cells #[.int .i64 y.k, .int .i64 y.i, .float .f64 y.f, .string y.s, .slice y.A y.l y.c] 31))
  have B := VAt.new (w.alloc (.cells #[.int .i64 x.k, .int .i64 x.i, .float .f64 x.f, .string x.s, .slice x.A x.l x.c] 31)) y.k y.i y.f y.s (.slice y.A y.l y.c)
  rw [alloc_size] at B
  have hx := (x1 w (.cells #[.int .i64 x.k, .int .i64 x.i, .float .f64 x.f, .string x.s, .slice x.A x.l x.c] 31)).alloc (.cells #[.int .i64 y.k, .int .i64 y.i, .float .f64 y.f, .string y.s, .slice y.A y.l y.c] 31)
  have hs0 : (((w.alloc (.cells #[.int .i64 x.k, .int .i64 x.i, .float .f64 x.f, .string x.s, .slice x.A x.l x.c] 31))).alloc (.cells #[.int .i64 y.k, .int .i64 y.i, .float .f64 y.f, .string y.s, .slice y.A y.l y.c] 31)).heap.size = w.heap.size + 2 := by rw [alloc_size, alloc_size]
  have hsz := hx.size_le
  go_enter Try.func7, Try.ntmps7
  go_wp2_with fail
  refine (known_any _).mono ?_
  rintro e w1 ⟨rfl, h1⟩
  replace A := A.ext h1
  replace B := B.ext h1
  replace hx := hx.trans h1
  clear h1
  obtain ⟨a0, a1, a2, a3, a4⟩ := A.pack
  obtain ⟨b0, b1, b2, b3, b4⟩ := B.pack
  go_wp2_with fail
  refine (light_any n x _ (Tree.ext hx _ _ HX.out)).mono ?_
  rintro e w2 ⟨t, rfl, h2⟩
  replace A := A.ext h2
  replace B := B.ext h2
  replace hx := hx.trans h2
  clear h2 a0 a1 a2 a3 a4 b0 b1 b2 b3 b4
  cases t with
  | false =>
    go_wp2
    go_ret
    exact ⟨rfl, hx⟩
  | true =>
    obtain ⟨a0, a1, a2, a3, a4⟩ := A.pack
    obtain ⟨b0, b1, b2, b3, b4⟩ := B.pack
    go_wp2_with fail
    refine (light_any m y _ (Tree.ext hx _ _ HY.out)).mono ?_
    rintro e w3 ⟨t, rfl, h3⟩
    replace A := A.ext h3
    replace B := B.ext h3
    replace hx := hx.trans h3
    clear h3 a0 a1 a2 a3 a4 b0 b1 b2 b3 b4
    cases t with
    | false =>
      go_wp2
      go_ret
      exact ⟨rfl, hx⟩
    | true =>
      obtain ⟨a0, a1, a2, a3, a4⟩ := A.pack
      obtain ⟨b0, b1, b2, b3, b4⟩ := B.pack
      go_wp2_with fail
      refine (numAdd_any x.k x.i HI.out.1 x.f x.s _ y.k y.i HI.out.2 y.f y.s _ _).mono ?_
      rintro e w4 ⟨rfl, h4⟩
      obtain ⟨p0, q0, r0, e0, he⟩ := numOp_is .add wAdd x.k x.i x.f y.k y.i y.f
      rw [he]
      have HE := Lib.hid he
      clear he
      clear a0 a1 a2 a3 a4 b0 b1 b2 b3 b4
      have g := h4.alloc (.cells #[.int .i64 p0, .int .i64 q0, .float .f64 r0, .string ⟨#[]⟩, .slice none 0 0] 31)
      have hlt := B.lt
      replace A := A.ext g
      replace B := B.ext g
      have V5 := VAt.new w4 p0 q0 r0 ⟨#[]⟩ (.slice none 0 0)
      have hb5 : w.heap.size + 2 ≤ w4.heap.size := by have := hlt; have := h4.size_le; omega
      replace hx := hx.trans g
      clear g hlt h4
      obtain ⟨a0, a1, a2, a3, a4⟩ := A.pack
      obtain ⟨b0, b1, b2, b3, b4⟩ := B.pack
      go_wp2_with fail
      clear a0 a1 a2 a3 a4 b0 b1 b2 b3 b4
      revert A B V5 hx hb5
      generalize World.alloc _ _ = wa4
      generalize w4.heap.size = b5
      intro A B V5 hb5 hx
      obtain ⟨a0, a1, a2, a3, a4⟩ := A.pack
      obtain ⟨b0, b1, b2, b3, b4⟩ := B.pack
      refine (opAdd_any x.k x.i HI.out.1 x.f x.s _ y.k y.i HI.out.2 y.f y.s _ _).mono ?_
      rintro e w5 ⟨rfl, h5⟩
      rw [HE.out]
      clear a0 a1 a2 a3 a4 b0 b1 b2 b3 b4
      have g := h5.alloc (.cells #[.int .i64 p0, .int .i64 q0, .float .f64 r0, .string ⟨#[]⟩, .slice none 0 0] 31)
      have hlt := V5.lt
      replace A := A.ext g
      replace B := B.ext g
      replace V5 := V5.ext g
      have V7 := VAt.new w5 p0 q0 r0 ⟨#[]⟩ (.slice none 0 0)
      have hb7 : b5 + 1 ≤ w5.heap.size := by have := hlt; have := h5.size_le; omega
      replace hx := hx.trans g
      clear g hlt h5
      obtain ⟨a0, a1, a2, a3, a4⟩ := A.pack
      obtain ⟨b0, b1, b2, b3, b4⟩ := B.pack
      obtain ⟨d0, d1, d2, d3, d4⟩ := V5.pack
      obtain ⟨f0, f1, f2, f3, f4⟩ := V7.pack
      go_wp2_with fail
      clear a0 a1 a2 a3 a4 b0 b1 b2 b3 b4 d0 d1 d2 d3 d4 f0 f1 f2 f3 f4
      revert A B V5 V7 hx hb7
      generalize World.alloc _ _ = wa5
      generalize w5.heap.size = b7
      intro A B V5 V7 hb7 hx
      obtain ⟨a0, a1, a2, a3, a4⟩ := A.pack
      obtain ⟨b0, b1, b2, b3, b4⟩ := B.pack
      refine (same_flat _ _ _ _).mono ?_
      rintro e w6 ⟨rfl, h6⟩
      clear HE a0 a1 a2 a3 a4 b0 b1 b2 b3 b4
      replace A := A.ext h6
      replace B := B.ext h6
      replace V5 := V5.ext h6
      replace V7 := V7.ext h6
      replace hx := hx.trans h6
      clear h6
      obtain ⟨a0, a1, a2, a3, a4⟩ := A.pack
      obtain ⟨b0, b1, b2, b3, b4⟩ := B.pack
      go_wp2_with fail
      refine (numSub_any x.k x.i HI.out.1 x.f x.s _ y.k y.i HI.out.2 y.f y.s _ _).mono ?_
      rintro e w7 ⟨rfl, h7⟩
      obtain ⟨p1, q1, r1, e1, he⟩ := numOp_is .sub wSub x.k x.i x.f y.k y.i y.f
      rw [he]
      have HE := Lib.hid he
      clear he
      clear a0 a1 a2 a3 a4 b0 b1 b2 b3 b4
      replace A := A.ext h7
      replace B := B.ext h7
      replace V5 := V5.ext h7
      replace V7 := V7.ext h7
      replace hx := hx.trans h7
      clear h7
      obtain ⟨c0, c1, c2, c3, c4⟩ := V5.pack
      have z := V5.free
      replace A := A.other (b' := b5) (by omega) p1 q1 r1 ⟨#[]⟩ (.slice none 0 0)
      replace B := B.other (b' := b5) (by omega) p1 q1 r1 ⟨#[]⟩ (.slice none 0 0)
      replace V7 := V7.other (b' := b5) (by omega) p1 q1 r1 ⟨#[]⟩ (.slice none 0 0)
      replace V5 := V5.put p1 q1 r1 ⟨#[]⟩ (.slice none 0 0)
      replace hx := hx.put5 (b := b5) (by omega) p1 q1 r1 ⟨#[]⟩ (.slice none 0 0)
      obtain ⟨a0, a1, a2, a3, a4⟩ := A.pack
      obtain ⟨b0, b1, b2, b3, b4⟩ := B.pack
      go_wp2_with fail
      clear a0 a1 a2 a3 a4 b0 b1 b2 b3 b4 c0 c1 c2 c3 c4 z
      revert A B V5 V7 hx
      generalize World.setCell _ _ _ = wa7
      intro A B V7 V5 hx
      obtain ⟨a0, a1, a2, a3, a4⟩ := A.pack
      obtain ⟨b0, b1, b2, b3, b4⟩ := B.pack
      refine (opSub_any x.k x.i HI.out.1 x.f x.s _ y.k y.i HI.out.2 y.f y.s _ _).mono ?_
      rintro e w8 ⟨rfl, h8⟩
      rw [HE.out]
      clear a0 a1 a2 a3 a4 b0 b1 b2 b3 b4
      replace A := A.ext h8
      replace B := B.ext h8
      replace V5 := V5.ext h8
      replace V7 := V7.ext h8
      replace hx := hx.trans h8
      clear h8
      obtain ⟨c0, c1, c2, c3, c4⟩ := V7.pack
      have z := V7.free
      replace A := A.other (b' := b7) (by omega) p1 q1 r1 ⟨#[]⟩ (.slice none 0 0)
      replace B := B.other (b' := b7) (by omega) p1 q1 r1 ⟨#[]⟩ (.slice none 0 0)
      replace V5 := V5.other (b' := b7) (by omega) p1 q1 r1 ⟨#[]⟩ (.slice none 0 0)
      replace V7 := V7.put p1 q1 r1 ⟨#[]⟩ (.slice none 0 0)
      replace hx := hx.put5 (b := b7) (by omega) p1 q1 r1 ⟨#[]⟩ (.slice none 0 0)
      obtain ⟨a0, a1, a2, a3, a4⟩ := A.pack
      obtain ⟨b0, b1, b2, b3, b4⟩ := B.pack
      obtain ⟨d0, d1, d2, d3, d4⟩ := V5.pack
      obtain ⟨f0, f1, f2, f3, f4⟩ := V7.pack
      go_wp2_with fail
      clear a0 a1 a2 a3 a4 b0 b1 b2 b3 b4 c0 c1 c2 c3 c4 z d0 d1 d2 d3 d4 f0 f1 f2 f3 f4
      revert A B V5 V7 hx
      generalize World.setCell _ _ _ = wa8
      intro A B V5 V7 hx
      obtain ⟨a0, a1, a2, a3, a4⟩ := A.pack
      obtain ⟨b0, b1, b2, b3, b4⟩ := B.pack
      refine (same_flat _ _ _ _).mono ?_
      rintro e w9 ⟨rfl, h9⟩
      clear HE a0 a1 a2 a3 a4 b0 b1 b2 b3 b4
      replace A := A.ext h9
      replace B := B.ext h9
      replace V5 := V5.ext h9
      replace V7 := V7.ext h9
      replace hx := hx.trans h9
      clear h9
      obtain ⟨a0, a1, a2, a3, a4⟩ := A.pack
      obtain ⟨b0, b1, b2, b3, b4⟩ := B.pack
      go_wp2_with fail
      refine (numMul_any x.k x.i HI.out.1 x.f x.s _ y.k y.i HI.out.2 y.f y.s _ _).mono ?_
      rintro e w10 ⟨rfl, h10⟩
      obtain ⟨p2, q2, r2, e2, he⟩ := numOp_is .mul wMul x.k x.i x.f y.k y.i y.f
      rw [he]
      have HE := Lib.hid he
      clear he
      clear a0 a1 a2 a3 a4 b0 b1 b2 b3 b4
      replace A := A.ext h10
      replace B := B.ext h10
      replace V5 := V5.ext h10
      replace V7 := V7.ext h10
      replace hx := hx.trans h10
      clear h10
      obtain ⟨c0, c1, c2, c3, c4⟩ := V5.pack
      have z := V5.free
      replace A := A.other (b' := b5) (by omega) p2 q2 r2 ⟨#[]⟩ (.slice none 0 0)
      replace B := B.other (b' := b5) (by omega) p2 q2 r2 ⟨#[]⟩ (.slice none 0 0)
      replace V7 := V7.other (b' := b5) (by omega) p2 q2 r2 ⟨#[]⟩ (.slice none 0 0)
      replace V5 := V5.put p2 q2 r2 ⟨#[]⟩ (.slice none 0 0)
      replace hx := hx.put5 (b := b5) (by omega) p2 q2 r2 ⟨#[]⟩ (.slice none 0 0)
      obtain ⟨a0, a1, a2, a3, a4⟩ := A.pack
      obtain ⟨b0, b1, b2, b3, b4⟩ := B.pack
      go_wp2_with fail
      clear a0 a1 a2 a3 a4 b0 b1 b2 b3 b4 c0 c1 c2 c3 c4 z
      revert A B V5 V7 hx
      generalize World.setCell _ _ _ = wa10
      intro A B V7 V5 hx
      obtain ⟨a0, a1, a2, a3, a4⟩ := A.pack
      obtain ⟨b0, b1, b2, b3, b4⟩ := B.pack
      refine (opMul_any x.k x.i HI.out.1 x.f x.s _ y.k y.i HI.out.2 y.f y.s _ _).mono ?_
      rintro e w11 ⟨rfl, h11⟩
      rw [HE.out]
      clear a0 a1 a2 a3 a4 b0 b1 b2 b3 b4
      replace A := A.ext h11
      replace B := B.ext h11
      replace V5 := V5.ext h11
      replace V7 := V7.ext h11
      replace hx := hx.trans h11
      clear h11
      obtain ⟨c0, c1, c2, c3, c4⟩ := V7.pack
      have z := V7.free
      replace A := A.other (b' := b7) (by omega) p2 q2 r2 ⟨#[]⟩ (.slice none 0 0)
      replace B := B.other (b' := b7) (by omega) p2 q2 r2 ⟨#[]⟩ (.slice none 0 0)
      replace V5 := V5.other (b' := b7) (by omega) p2 q2 r2 ⟨#[]⟩ (.slice none 0 0)
      replace V7 := V7.put p2 q2 r2 ⟨#[]⟩ (.slice none 0 0)
      replace hx := hx.put5 (b := b7) (by omega) p2 q2 r2 ⟨#[]⟩ (.slice none 0 0)
      obtain ⟨a0, a1, a2, a3, a4⟩ := A.pack
      obtain ⟨b0, b1, b2, b3, b4⟩ := B.pack
      obtain ⟨d0, d1, d2, d3, d4⟩ := V5.pack
      obtain ⟨f0, f1, f2, f3, f4⟩ := V7.pack
      go_wp2_with fail
      clear a0 a1 a2 a3 a4 b0 b1 b2 b3 b4 c0 c1 c2 c3 c4 z d0 d1 d2 d3 d4 f0 f1 f2 f3 f4
      revert A B V5 V7 hx
      generalize World.setCell _ _ _ = wa11
      intro A B V5 V7 hx
      obtain ⟨a0, a1, a2, a3, a4⟩ := A.pack
      obtain ⟨b0, b1, b2, b3, b4⟩ := B.pack
      refine (same_flat _ _ _ _).mono ?_
      rintro e w12 ⟨rfl, h12⟩
      clear HE a0 a1 a2 a3 a4 b0 b1 b2 b3 b4
      replace A := A.ext h12
      replace B := B.ext h12
      replace V5 := V5.ext h12
      replace V7 := V7.ext h12
      replace hx := hx.trans h12
      clear h12
      obtain ⟨a0, a1, a2, a3, a4⟩ := A.pack
      obtain ⟨b0, b1, b2, b3, b4⟩ := B.pack
      go_wp2_with fail
      refine (numDiv_any x.k x.i HI.out.1 x.f x.s _ y.k y.i HI.out.2 y.f y.s _ _).mono ?_
      rintro e w13 ⟨rfl, h13⟩
      obtain ⟨p3, q3, r3, e3, he⟩ := numOp_is .quo wDiv x.k x.i x.f y.k y.i y.f
      rw [he]
      have HE := Lib.hid he
      clear he
      clear a0 a1 a2 a3 a4 b0 b1 b2 b3 b4
      replace A := A.ext h13
      replace B := B.ext h13
      replace V5 := V5.ext h13
      replace V7 := V7.ext h13
      replace hx := hx.trans h13
      clear h13
      obtain ⟨c0, c1, c2, c3, c4⟩ := V5.pack
      have z := V5.free
      replace A := A.other (b' := b5) (by omega) p3 q3 r3 ⟨#[]⟩ (.slice none 0 0)
      replace B := B.other (b' := b5) (by omega) p3 q3 r3 ⟨#[]⟩ (.slice none 0 0)
      replace V7 := V7.other (b' := b5) (by omega) p3 q3 r3 ⟨#[]⟩ (.slice none 0 0)
      replace V5 := V5.put p3 q3 r3 ⟨#[]⟩ (.slice none 0 0)
      replace hx := hx.put5 (b := b5) (by omega) p3 q3 r3 ⟨#[]⟩ (.slice none 0 0)
      obtain ⟨a0, a1, a2, a3, a4⟩ := A.pack
      obtain ⟨b0, b1, b2, b3, b4⟩ := B.pack
      go_wp2_with fail
      clear a0 a1 a2 a3 a4 b0 b1 b2 b3 b4 c0 c1 c2 c3 c4 z
      revert A B V5 V7 hx
      generalize World.setCell _ _ _ = wa13
      intro A B V7 V5 hx
      obtain ⟨a0, a1, a2, a3, a4⟩ := A.pack
      obtain ⟨b0, b1, b2, b3, b4⟩ := B.pack
      refine (opDiv_any x.k x.i HI.out.1 x.f x.s _ y.k y.i HI.out.2 y.f y.s _ _).mono ?_
      rintro e w14 ⟨rfl, h14⟩
      rw [HE.out]
      clear a0 a1 a2 a3 a4 b0 b1 b2 b3 b4
      replace A := A.ext h14
      replace B := B.ext h14
      replace V5 := V5.ext h14
      replace V7 := V7.ext h14
      replace hx := hx.trans h14
      clear h14
      obtain ⟨c0, c1, c2, c3, c4⟩ := V7.pack
      have z := V7.free
      replace A := A.other (b' := b7) (by omega) p3 q3 r3 ⟨#[]⟩ (.slice none 0 0)
      replace B := B.other (b' := b7) (by omega) p3 q3 r3 ⟨#[]⟩ (.slice none 0 0)
      replace V5 := V5.other (b' := b7) (by omega) p3 q3 r3 ⟨#[]⟩ (.slice none 0 0)
      replace V7 := V7.put p3 q3 r3 ⟨#[]⟩ (.slice none 0 0)
      replace hx := hx.put5 (b := b7) (by omega) p3 q3 r3 ⟨#[]⟩ (.slice none 0 0)
      obtain ⟨a0, a1, a2, a3, a4⟩ := A.pack
      obtain ⟨b0, b1, b2, b3, b4⟩ := B.pack
      obtain ⟨d0, d1, d2, d3, d4⟩ := V5.pack
      obtain ⟨f0, f1, f2, f3, f4⟩ := V7.pack
      go_wp2_with fail
      clear a0 a1 a2 a3 a4 b0 b1 b2 b3 b4 c0 c1 c2 c3 c4 z d0 d1 d2 d3 d4 f0 f1 f2 f3 f4
      revert A B V5 V7 hx
      generalize World.setCell _ _ _ = wa14
      intro A B V5 V7 hx
      obtain ⟨a0, a1, a2, a3, a4⟩ := A.pack
      obtain ⟨b0, b1, b2, b3, b4⟩ := B.pack
      refine (same_flat _ _ _ _).mono ?_
      rintro e w15 ⟨rfl, h15⟩
      clear HE a0 a1 a2 a3 a4 b0 b1 b2 b3 b4
      replace A := A.ext h15
      replace B := B.ext h15
      replace V5 := V5.ext h15
      replace V7 := V7.ext h15
      replace hx := hx.trans h15
      clear h15
      go_wp2
      go_ret
      exact ⟨rfl, hx⟩
end Go.Proofs.Ytgodncdhkmpfaaa
