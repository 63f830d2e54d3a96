/- known: the edges that the statements look at first. -/
import Derived.Test.YtgodncdhkmpfaaaNumG
namespace Go.Proofs.Ytgodncdhkmpfaaa
open Go.RowKit
set_option linter.unusedVariables false
set_option linter.unusedSimpArgs false
attribute [local go_sem] stepR givesR fillE Ext.refl

theorem rint_is (n : Int) (w : World) : Calls Try.prog 25 #[.int .i64 n] w (Ret (.agg #[.int .i64 1, .int .i64 n, .float .f64 0, .string ⟨#[]⟩, (.slice none 0 0)]) w) := rint_any n w
theorem k1 : numOp .quo wDiv 2 0 (canon 4607182418800017408) 1 0 0 = .tuple #[(.agg #[.int .i64 2, .int .i64 0, .float .f64 9218868437227405312, .string ⟨#[]⟩, (.slice none 0 0)]), .int .i64 0] := by kernel_rfl
theorem k2 : numOp .quo wDiv 1 1 0 1 0 0 = .tuple #[(.agg #[.int .i64 0, .int .i64 0, .float .f64 0, .string ⟨#[]⟩, (.slice none 0 0)]), .int .i64 35] := by kernel_rfl
theorem k3 : numOp .add wAdd 1 9223372036854775807 0 1 1 0 = .tuple #[(.agg #[.int .i64 0, .int .i64 0, .float .f64 0, .string ⟨#[]⟩, (.slice none 0 0)]), .int .i64 35] := by kernel_rfl
theorem k4 : numOp .add wAdd 1 1 0 2 0 (canon 4602678819172646912) = .tuple #[(.agg #[.int .i64 2, .int .i64 0, .float .f64 4609434218613702656, .string ⟨#[]⟩, (.slice none 0 0)]), .int .i64 0] := by kernel_rfl
theorem k5 : (FloatKind.f64.format.order 9218868437227405312 9214871658872686752 == some .gt) = true := by kernel_rfl
theorem k6 : (FloatKind.f64.format.order 4609434218613702656 4609434218613702656 == some .eq) = true := by kernel_rfl
theorem k7 : signV 2 0 (canon 13835058055282163712) = -1 := by kernel_rfl
theorem k8 : finV 2 9218868437227405312 = false := by kernel_rfl
theorem inR0 : inR 0 := by decide
theorem inR1 : inR 1 := by decide
theorem inRmax : inR 9223372036854775807 := by decide

set_option maxRecDepth 100000 in
set_option maxHeartbeats 2000000 in
theorem known_any (w : World) : Calls Try.prog 10 #[] w (Ret (.bool true) w) := by
  have e5 := k5
  have e6 := k6
  go_enter Try.func10, Try.ntmps10
  go_wp2_with fail
  refine (float_is _ _).mono ?_
  rintro e w1 ⟨rfl, h1⟩
  go_wp2_with fail
  refine (rint_is _ _).mono ?_
  rintro e w2 ⟨rfl, h2⟩
  go_wp2_with fail
  refine (numDiv_any _ _ inR0 _ _ _ _ _ inR0 _ _ _ _).mono ?_
  rintro e w3 ⟨rfl, h3⟩
  rw [k1]
  have V1 := VAt.new w3 2 0 9218868437227405312 ⟨#[]⟩ (.slice none 0 0)
  have hx := ((h1.trans h2).trans h3).alloc (.cells #[.int .i64 2, .int .i64 0, .float .f64 9218868437227405312, .string ⟨#[]⟩, .slice none 0 0] 31)
  clear h1 h2 h3
  go_wp2_with fail
  revert V1 hx
  generalize World.alloc _ _ = wa1
  generalize w3.heap.size = b1
  intro V1 hx
  refine (rint_is _ _).mono ?_
  rintro e w4 ⟨rfl, h4⟩
  go_wp2_with fail
  refine (rint_is _ _).mono ?_
  rintro e w5 ⟨rfl, h5⟩
  go_wp2_with fail
  refine (numDiv_any _ _ inR1 _ _ _ _ _ inR0 _ _ _ _).mono ?_
  rintro e w6 ⟨rfl, h6⟩
  rw [k2]
  have g2 := (((h4).trans h5).trans h6).alloc (.cells #[.int .i64 0, .int .i64 0, .float .f64 0, .string ⟨#[]⟩, .slice none 0 0] 31)
  replace V1 := V1.ext g2
  replace hx := hx.trans g2
  clear h4 h5 h6 g2
  go_wp2_with fail
  revert V1 hx
  generalize World.alloc _ _ = wa2
  generalize w6.heap.size = b2
  intro V1 hx
  refine (rint_is _ _).mono ?_
  rintro e w7 ⟨rfl, h7⟩
  go_wp2_with fail
  refine (rint_is _ _).mono ?_
  rintro e w8 ⟨rfl, h8⟩
  go_wp2_with fail
  refine (numAdd_any _ _ inRmax _ _ _ _ _ inR1 _ _ _ _).mono ?_
  rintro e w9 ⟨rfl, h9⟩
  rw [k3]
  have g3 := (((h7).trans h8).trans h9).alloc (.cells #[.int .i64 0, .int .i64 0, .float .f64 0, .string ⟨#[]⟩, .slice none 0 0] 31)
  replace V1 := V1.ext g3
  replace hx := hx.trans g3
  clear h7 h8 h9 g3
  go_wp2_with fail
  revert V1 hx
  generalize World.alloc _ _ = wa3
  generalize w9.heap.size = b3
  intro V1 hx
  refine (rint_is _ _).mono ?_
  rintro e w10 ⟨rfl, h10⟩
  go_wp2_with fail
  refine (float_is _ _).mono ?_
  rintro e w11 ⟨rfl, h11⟩
  go_wp2_with fail
  refine (numAdd_any _ _ inR1 _ _ _ _ _ inR0 _ _ _ _).mono ?_
  rintro e w12 ⟨rfl, h12⟩
  rw [k4]
  have g4 := (((h10).trans h11).trans h12).alloc (.cells #[.int .i64 2, .int .i64 0, .float .f64 4609434218613702656, .string ⟨#[]⟩, .slice none 0 0] 31)
  have V4 := VAt.new w12 2 0 4609434218613702656 ⟨#[]⟩ (.slice none 0 0)
  replace V1 := V1.ext g4
  replace hx := hx.trans g4
  clear h10 h11 h12 g4
  obtain ⟨a0, a1, a2, a3, a4⟩ := V1.pack
  obtain ⟨c0, c1, c2, c3, c4⟩ := V4.pack
  go_wp2_with fail
  refine (float_is _ _).mono ?_
  rintro e w13 ⟨rfl, h13⟩
  go_wp2_with fail
  refine (sign_any _ _ _ _ _ _).mono ?_
  rintro e w14 ⟨rfl, h14⟩
  rw [k7]
  have g5 := h13.trans h14
  replace V1 := V1.ext g5
  replace hx := hx.trans g5
  clear h13 h14 g5 a0 a1 a2 a3 a4 c0 c1 c2 c3 c4 V4
  obtain ⟨a0, a1, a2, a3, a4⟩ := V1.pack
  go_wp2_with fail
  refine (finite_any _ _ _ (by decide) _ _ _).mono ?_
  rintro e w15 ⟨rfl, h15⟩
  rw [k8]
  go_wp2
  go_ret
  exact ⟨rfl, hx.trans h15⟩
end Go.Proofs.Ytgodncdhkmpfaaa
