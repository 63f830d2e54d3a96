/- NumInts. -/
import Derived.Test.YtgodncdhkmpfaaaNumOpsW
namespace Go.Proofs.Ytgodncdhkmpfaaa
open Go.RowKit
set_option linter.unusedVariables false
set_option linter.unusedSimpArgs false
attribute [local go_sem] stepR givesR fillE Ext.refl

/-- the four signs' row -/
structure Signs (w : World) (b : Nat) : Prop where
  c0 : w.cell? ⟨b, 0, none⟩ = some (.int .u8 43)
  c1 : w.cell? ⟨b, 1, none⟩ = some (.int .u8 45)
  c2 : w.cell? ⟨b, 2, none⟩ = some (.int .u8 42)
  c3 : w.cell? ⟨b, 3, none⟩ = some (.int .u8 47)
theorem Signs.ext {w w' : World} {b : Nat} (h : Signs w b) (hx : Ext w w') : Signs w' b := ⟨hx.cell h.c0, hx.cell h.c1, hx.cell h.c2, hx.cell h.c3⟩
theorem Signs.new (w : World) : Signs (w.alloc (.cells #[.int .u8 43, .int .u8 45, .int .u8 42, .int .u8 47] 5)) w.heap.size := by
  constructor <;> go_simp

theorem threeV (w : World) (k i : Int) (f : Nat) (k' i' : Int) (f' : Nat) :
    Ext w (((w.alloc (.cells #[.int .i64 k, .int .i64 i, .float .f64 f, .string ⟨#[]⟩, .slice none 0 0] 31)).alloc (.cells #[.int .i64 k', .int .i64 i', .float .f64 f', .string ⟨#[]⟩, .slice none 0 0] 31)).alloc (.cells #[.int .i64 0, .int .i64 0, .float .f64 0, .string ⟨#[]⟩, .slice none 0 0] 31)) ∧
    VAt (((w.alloc (.cells #[.int .i64 k, .int .i64 i, .float .f64 f, .string ⟨#[]⟩, .slice none 0 0] 31)).alloc (.cells #[.int .i64 k', .int .i64 i', .float .f64 f', .string ⟨#[]⟩, .slice none 0 0] 31)).alloc (.cells #[.int .i64 0, .int .i64 0, .float .f64 0, .string ⟨#[]⟩, .slice none 0 0] 31)) w.heap.size k i f ⟨#[]⟩ (.slice none 0 0) ∧
    VAt (((w.alloc (.cells #[.int .i64 k, .int .i64 i, .float .f64 f, .string ⟨#[]⟩, .slice none 0 0] 31)).alloc (.cells #[.int .i64 k', .int .i64 i', .float .f64 f', .string ⟨#[]⟩, .slice none 0 0] 31)).alloc (.cells #[.int .i64 0, .int .i64 0, .float .f64 0, .string ⟨#[]⟩, .slice none 0 0] 31)) (w.heap.size + 1) k' i' f' ⟨#[]⟩ (.slice none 0 0) ∧
    VAt (((w.alloc (.cells #[.int .i64 k, .int .i64 i, .float .f64 f, .string ⟨#[]⟩, .slice none 0 0] 31)).alloc (.cells #[.int .i64 k', .int .i64 i', .float .f64 f', .string ⟨#[]⟩, .slice none 0 0] 31)).alloc (.cells #[.int .i64 0, .int .i64 0, .float .f64 0, .string ⟨#[]⟩, .slice none 0 0] 31)) (w.heap.size + 1 + 1) 0 0 0 ⟨#[]⟩ (.slice none 0 0) := by
  have a := VAt.new w k i f ⟨#[]⟩ (.slice none 0 0)
  have b := VAt.new (w.alloc (.cells #[.int .i64 k, .int .i64 i, .float .f64 f, .string ⟨#[]⟩, .slice none 0 0] 31)) k' i' f' ⟨#[]⟩ (.slice none 0 0)
  have c := VAt.new ((w.alloc (.cells #[.int .i64 k, .int .i64 i, .float .f64 f, .string ⟨#[]⟩, .slice none 0 0] 31)).alloc (.cells #[.int .i64 k', .int .i64 i', .float .f64 f', .string ⟨#[]⟩, .slice none 0 0] 31)) 0 0 0 ⟨#[]⟩ (.slice none 0 0)
  rw [alloc_size] at b
  rw [alloc_size, alloc_size] at c
  exact ⟨((x1 _ _).alloc _).alloc _, (a.ext (x1 _ _)).ext (x1 _ _), b.ext (x1 _ _), c⟩

set_option maxRecDepth 100000 in
set_option maxHeartbeats 4000000 in
theorem numInts_law (a : Int) (ha : (Lit.int .i64 a).wf = true) (b : Int) (hb : (Lit.int .i64 b).wf = true) (w : World) : Calls Try.prog 8 #[.int .i64 a, .int .i64 b] w (Ret (.bool true) w) := by
  have ha := wf_inR ha
  have hb := wf_inR hb
  have HI := Lib.hid (And.intro ha hb)
  clear ha hb
  go_enter Try.func8, Try.ntmps8
  go_wp2_with fail
  refine (known_any _).mono ?_
  rintro e w0 ⟨rfl, hx⟩
  go_wp2_with fail
  have S := Signs.new w0
  replace hx := hx.alloc (.cells #[.int .u8 43, .int .u8 45, .int .u8 42, .int .u8 47] 5)
  revert S hx
  generalize World.alloc _ _ = w1
  generalize w0.heap.size = bs
  intro S hx
  go_loopw [17] (fun i wr => ∃ j : Nat, j ≤ 4 ∧ i = .int .i64 j ∧ Ext w1 wr) (fun i _ => 4 - (intOf i).toNat)
  case atStart => exact ⟨0, Nat.zero_le _, rfl, Ext.refl _⟩
  case round =>
    obtain ⟨j, hj, rfl, hw⟩ := hrel
    obtain ⟨s0, s1, s2, s3⟩ := S.ext hw
    have hxw := hx.trans hw
    match j, hj with
    | 0, _ =>
      go_wp2_with fail
      refine (rint_is _ _).mono ?_
      rintro e w2 ⟨rfl, h2⟩
      go_wp2_with fail
      refine (rint_is _ _).mono ?_
      rintro e w3 ⟨rfl, h3⟩
      replace hw := (hw.trans h2).trans h3
      clear h2 h3 s0 s1 s2 s3 hxw
      obtain ⟨g, A, B, V⟩ := threeV w3 1 a 0 1 b 0
      go_wp2_with fail
      have hw3 := hw
      replace hw := hw.trans g
      have hb := hw.size_le
      have hs3 := hw3.size_le
      clear g
      revert A B V hw
      generalize World.alloc _ _ = w4
      generalize w3.heap.size = bk at *
      intro A B V hw
      obtain ⟨p, q, r, e, he⟩ := numOp_is .add wAdd 1 a 0 1 b 0
      have HE := Lib.hid he
      clear he
      refine (numAdd_any 1 a HI.out.1 0 ⟨#[]⟩ _ 1 b HI.out.2 0 ⟨#[]⟩ _ _).mono ?_
      rintro e5 w5 ⟨rfl, h5⟩
      rw [HE.out]
      replace A := A.ext h5
      replace B := B.ext h5
      replace V := V.ext h5
      replace hw := hw.trans h5
      clear h5
      obtain ⟨c0, c1, c2, c3, c4⟩ := V.pack
      have z := V.free
      replace A := A.other (b' := bk + 1 + 1) (by omega) p q r ⟨#[]⟩ (.slice none 0 0)
      replace B := B.other (b' := bk + 1 + 1) (by omega) p q r ⟨#[]⟩ (.slice none 0 0)
      replace V := V.put p q r ⟨#[]⟩ (.slice none 0 0)
      replace hw := hw.put5 (b := bk + 1 + 1) (by omega) p q r ⟨#[]⟩ (.slice none 0 0)
      obtain ⟨a0, a1, a2, a3, a4⟩ := A.pack
      obtain ⟨b0, b1, b2, b3, b4⟩ := B.pack
      go_wp2_with fail
      clear a0 a1 a2 a3 a4 b0 b1 b2 b3 b4 c0 c1 c2 c3 c4 z
      revert A B V hw
      generalize World.setCell _ _ _ = w6
      intro A B V hw
      refine (opAdd_any 1 a HI.out.1 0 ⟨#[]⟩ _ 1 b HI.out.2 0 ⟨#[]⟩ _ _).mono ?_
      rintro e7 w7 ⟨rfl, h7⟩
      rw [HE.out]
      have g := h7.alloc (.cells #[.int .i64 p, .int .i64 q, .float .f64 r, .string ⟨#[]⟩, .slice none 0 0] 31)
      replace V := V.ext g
      have U := VAt.new w7 p q r ⟨#[]⟩ (.slice none 0 0)
      have hw3 := hw
      replace hw := hw.trans g
      clear g h7 A B HE
      obtain ⟨c0, c1, c2, c3, c4⟩ := V.pack
      obtain ⟨d0, d1, d2, d3, d4⟩ := U.pack
      go_wp2_with fail
      refine (same_flat _ _ _ _).mono ?_
      rintro e8 w8 ⟨rfl, h8⟩
      replace hw := hw.trans h8
      clear h8 c0 c1 c2 c3 c4 d0 d1 d2 d3 d4 U V
      go_wp2
      go_roundw
      case rel => exact ⟨1, by omega, rfl, hw⟩
      case measure => decide
    | 1, _ =>
      go_wp2_with fail
      refine (rint_is _ _).mono ?_
      rintro e w2 ⟨rfl, h2⟩
      go_wp2_with fail
      refine (rint_is _ _).mono ?_
      rintro e w3 ⟨rfl, h3⟩
      replace hw := (hw.trans h2).trans h3
      clear h2 h3 s0 s1 s2 s3 hxw
      obtain ⟨g, A, B, V⟩ := threeV w3 1 a 0 1 b 0
      go_wp2_with fail
      have hw3 := hw
      replace hw := hw.trans g
      have hb := hw.size_le
      have hs3 := hw3.size_le
      clear g
      revert A B V hw
      generalize World.alloc _ _ = w4
      generalize w3.heap.size = bk at *
      intro A B V hw
      obtain ⟨p, q, r, e, he⟩ := numOp_is .sub wSub 1 a 0 1 b 0
      have HE := Lib.hid he
      clear he
      refine (numSub_any 1 a HI.out.1 0 ⟨#[]⟩ _ 1 b HI.out.2 0 ⟨#[]⟩ _ _).mono ?_
      rintro e5 w5 ⟨rfl, h5⟩
      rw [HE.out]
      replace A := A.ext h5
      replace B := B.ext h5
      replace V := V.ext h5
      replace hw := hw.trans h5
      clear h5
      obtain ⟨c0, c1, c2, c3, c4⟩ := V.pack
      have z := V.free
      replace A := A.other (b' := bk + 1 + 1) (by omega) p q r ⟨#[]⟩ (.slice none 0 0)
      replace B := B.other (b' := bk + 1 + 1) (by omega) p q r ⟨#[]⟩ (.slice none 0 0)
      replace V := V.put p q r ⟨#[]⟩ (.slice none 0 0)
      replace hw := hw.put5 (b := bk + 1 + 1) (by omega) p q r ⟨#[]⟩ (.slice none 0 0)
      obtain ⟨a0, a1, a2, a3, a4⟩ := A.pack
      obtain ⟨b0, b1, b2, b3, b4⟩ := B.pack
      go_wp2_with fail
      clear a0 a1 a2 a3 a4 b0 b1 b2 b3 b4 c0 c1 c2 c3 c4 z
      revert A B V hw
      generalize World.setCell _ _ _ = w6
      intro A B V hw
      refine (opSub_any 1 a HI.out.1 0 ⟨#[]⟩ _ 1 b HI.out.2 0 ⟨#[]⟩ _ _).mono ?_
      rintro e7 w7 ⟨rfl, h7⟩
      rw [HE.out]
      have g := h7.alloc (.cells #[.int .i64 p, .int .i64 q, .float .f64 r, .string ⟨#[]⟩, .slice none 0 0] 31)
      replace V := V.ext g
      have U := VAt.new w7 p q r ⟨#[]⟩ (.slice none 0 0)
      have hw3 := hw
      replace hw := hw.trans g
      clear g h7 A B HE
      obtain ⟨c0, c1, c2, c3, c4⟩ := V.pack
      obtain ⟨d0, d1, d2, d3, d4⟩ := U.pack
      go_wp2_with fail
      refine (same_flat _ _ _ _).mono ?_
      rintro e8 w8 ⟨rfl, h8⟩
      replace hw := hw.trans h8
      clear h8 c0 c1 c2 c3 c4 d0 d1 d2 d3 d4 U V
      go_wp2
      go_roundw
      case rel => exact ⟨2, by omega, rfl, hw⟩
      case measure => decide
    | 2, _ =>
      go_wp2_with fail
      refine (rint_is _ _).mono ?_
      rintro e w2 ⟨rfl, h2⟩
      go_wp2_with fail
      refine (rint_is _ _).mono ?_
      rintro e w3 ⟨rfl, h3⟩
      replace hw := (hw.trans h2).trans h3
      clear h2 h3 s0 s1 s2 s3 hxw
      obtain ⟨g, A, B, V⟩ := threeV w3 1 a 0 1 b 0
      go_wp2_with fail
      have hw3 := hw
      replace hw := hw.trans g
      have hb := hw.size_le
      have hs3 := hw3.size_le
      clear g
      revert A B V hw
      generalize World.alloc _ _ = w4
      generalize w3.heap.size = bk at *
      intro A B V hw
      obtain ⟨p, q, r, e, he⟩ := numOp_is .mul wMul 1 a 0 1 b 0
      have HE := Lib.hid he
      clear he
      refine (numMul_any 1 a HI.out.1 0 ⟨#[]⟩ _ 1 b HI.out.2 0 ⟨#[]⟩ _ _).mono ?_
      rintro e5 w5 ⟨rfl, h5⟩
      rw [HE.out]
      replace A := A.ext h5
      replace B := B.ext h5
      replace V := V.ext h5
      replace hw := hw.trans h5
      clear h5
      obtain ⟨c0, c1, c2, c3, c4⟩ := V.pack
      have z := V.free
      replace A := A.other (b' := bk + 1 + 1) (by omega) p q r ⟨#[]⟩ (.slice none 0 0)
      replace B := B.other (b' := bk + 1 + 1) (by omega) p q r ⟨#[]⟩ (.slice none 0 0)
      replace V := V.put p q r ⟨#[]⟩ (.slice none 0 0)
      replace hw := hw.put5 (b := bk + 1 + 1) (by omega) p q r ⟨#[]⟩ (.slice none 0 0)
      obtain ⟨a0, a1, a2, a3, a4⟩ := A.pack
      obtain ⟨b0, b1, b2, b3, b4⟩ := B.pack
      go_wp2_with fail
      clear a0 a1 a2 a3 a4 b0 b1 b2 b3 b4 c0 c1 c2 c3 c4 z
      revert A B V hw
      generalize World.setCell _ _ _ = w6
      intro A B V hw
      refine (opMul_any 1 a HI.out.1 0 ⟨#[]⟩ _ 1 b HI.out.2 0 ⟨#[]⟩ _ _).mono ?_
      rintro e7 w7 ⟨rfl, h7⟩
      rw [HE.out]
      have g := h7.alloc (.cells #[.int .i64 p, .int .i64 q, .float .f64 r, .string ⟨#[]⟩, .slice none 0 0] 31)
      replace V := V.ext g
      have U := VAt.new w7 p q r ⟨#[]⟩ (.slice none 0 0)
      have hw3 := hw
      replace hw := hw.trans g
      clear g h7 A B HE
      obtain ⟨c0, c1, c2, c3, c4⟩ := V.pack
      obtain ⟨d0, d1, d2, d3, d4⟩ := U.pack
      go_wp2_with fail
      refine (same_flat _ _ _ _).mono ?_
      rintro e8 w8 ⟨rfl, h8⟩
      replace hw := hw.trans h8
      clear h8 c0 c1 c2 c3 c4 d0 d1 d2 d3 d4 U V
      go_wp2
      go_roundw
      case rel => exact ⟨3, by omega, rfl, hw⟩
      case measure => decide
    | 3, _ =>
      go_wp2_with fail
      refine (rint_is _ _).mono ?_
      rintro e w2 ⟨rfl, h2⟩
      go_wp2_with fail
      refine (rint_is _ _).mono ?_
      rintro e w3 ⟨rfl, h3⟩
      replace hw := (hw.trans h2).trans h3
      clear h2 h3 s0 s1 s2 s3 hxw
      obtain ⟨g, A, B, V⟩ := threeV w3 1 a 0 1 b 0
      go_wp2_with fail
      have hw3 := hw
      replace hw := hw.trans g
      have hb := hw.size_le
      have hs3 := hw3.size_le
      clear g
      revert A B V hw
      generalize World.alloc _ _ = w4
      generalize w3.heap.size = bk at *
      intro A B V hw
      obtain ⟨p, q, r, e, he⟩ := numOp_is .quo wDiv 1 a 0 1 b 0
      have HE := Lib.hid he
      clear he
      refine (numDiv_any 1 a HI.out.1 0 ⟨#[]⟩ _ 1 b HI.out.2 0 ⟨#[]⟩ _ _).mono ?_
      rintro e5 w5 ⟨rfl, h5⟩
      rw [HE.out]
      replace A := A.ext h5
      replace B := B.ext h5
      replace V := V.ext h5
      replace hw := hw.trans h5
      clear h5
      obtain ⟨c0, c1, c2, c3, c4⟩ := V.pack
      have z := V.free
      replace A := A.other (b' := bk + 1 + 1) (by omega) p q r ⟨#[]⟩ (.slice none 0 0)
      replace B := B.other (b' := bk + 1 + 1) (by omega) p q r ⟨#[]⟩ (.slice none 0 0)
      replace V := V.put p q r ⟨#[]⟩ (.slice none 0 0)
      replace hw := hw.put5 (b := bk + 1 + 1) (by omega) p q r ⟨#[]⟩ (.slice none 0 0)
      obtain ⟨a0, a1, a2, a3, a4⟩ := A.pack
      obtain ⟨b0, b1, b2, b3, b4⟩ := B.pack
      go_wp2_with fail
      clear a0 a1 a2 a3 a4 b0 b1 b2 b3 b4 c0 c1 c2 c3 c4 z
      revert A B V hw
      generalize World.setCell _ _ _ = w6
      intro A B V hw
      refine (opDiv_any 1 a HI.out.1 0 ⟨#[]⟩ _ 1 b HI.out.2 0 ⟨#[]⟩ _ _).mono ?_
      rintro e7 w7 ⟨rfl, h7⟩
      rw [HE.out]
      have g := h7.alloc (.cells #[.int .i64 p, .int .i64 q, .float .f64 r, .string ⟨#[]⟩, .slice none 0 0] 31)
      replace V := V.ext g
      have U := VAt.new w7 p q r ⟨#[]⟩ (.slice none 0 0)
      have hw3 := hw
      replace hw := hw.trans g
      clear g h7 A B HE
      obtain ⟨c0, c1, c2, c3, c4⟩ := V.pack
      obtain ⟨d0, d1, d2, d3, d4⟩ := U.pack
      go_wp2_with fail
      refine (same_flat _ _ _ _).mono ?_
      rintro e8 w8 ⟨rfl, h8⟩
      replace hw := hw.trans h8
      clear h8 c0 c1 c2 c3 c4 d0 d1 d2 d3 d4 U V
      go_wp2
      go_roundw
      case rel => exact ⟨4, by omega, rfl, hw⟩
      case measure => decide
    | 4, _ =>
      go_wp2
      go_ret
      exact ⟨rfl, hxw⟩
    | j + 5, hj => omega
end Go.Proofs.Ytgodncdhkmpfaaa
