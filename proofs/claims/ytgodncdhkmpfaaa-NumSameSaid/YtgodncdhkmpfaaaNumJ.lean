/- NumMixed. -/
import Derived.Test.YtgodncdhkmpfaaaNumI
namespace Go.Proofs.Ytgodncdhkmpfaaa
open Go.RowKit
set_option linter.unusedVariables false
set_option linter.unusedSimpArgs false
attribute [local go_sem] stepR givesR fillE Ext.refl

theorem mixA (n : Int) (f A : Nat) (hA : fop .add (floatOfInt .f64 n) f = A) : numOp .add wAdd 1 n 0 2 0 (canon f) = .tuple #[(.agg #[.int .i64 2, .int .i64 0, .float .f64 A, .string ⟨#[]⟩, (.slice none 0 0)]), .int .i64 0] := by
  rw [← hA, ← fop_add_canon]; rfl
theorem mixB (n : Int) (f A : Nat) (hA : fop .add (floatOfInt .f64 n) f = A) : numOp .add wAdd 2 0 (canon f) 1 n 0 = .tuple #[(.agg #[.int .i64 2, .int .i64 0, .float .f64 A, .string ⟨#[]⟩, (.slice none 0 0)]), .int .i64 0] := by
  rw [← hA, ← fop_add_canon, fop_add_comm]; rfl
theorem mixC (n : Int) (f M : Nat) (hM : fop .mul (floatOfInt .f64 n) f = M) : numOp .mul wMul 1 n 0 2 0 (canon f) = .tuple #[(.agg #[.int .i64 2, .int .i64 0, .float .f64 M, .string ⟨#[]⟩, (.slice none 0 0)]), .int .i64 0] := by
  rw [← hM, ← fop_mul_canon]; rfl
theorem wf_inR {n : Int} (h : (Lit.int .i64 n).wf = true) : inR n := by
  simp only [Lit.wf, IntKind.min, IntKind.max, IntKind.signed, IntKind.bits, Bool.and_eq_true, decide_eq_true_eq, if_true] at h
  unfold inR
  omega
/-- an operation on two floats gives its result up to the one NaN -/
theorem fop_run (op : BinOp) (ho : op = .add ∨ op = .sub ∨ op = .mul ∨ op = .quo) (x y : Nat) (w : World) : ∃ r w', (binOp op 22 (.float .f64 x) (.float .f64 y)).run Try.prog w = .ok (.float .f64 r) w' ∧ canon r = fop op x y ∧ Ext w w' := by
  cases h : floatBits op .f64 x y with
  | some r => exact ⟨r, w, run_float_arith w _ _ _ _ _ _ h, fop_some h, Ext.refl _⟩
  | none => exact ⟨_, _, run_float_nan w _ _ _ _ ho h, fop_none h w, (Ext.refl w).drew⟩

set_option maxRecDepth 100000 in
set_option maxHeartbeats 2000000 in
theorem numMixed_law (n : Int) (hn : (Lit.int .i64 n).wf = true) (f : Nat) (hf : (Lit.float .f64 f).wf = true) (w : World) : Calls Try.prog 6 #[.int .i64 n, .float .f64 f] w (Ret (.bool true) w) := by
  have hn := wf_inR hn
  obtain ⟨A, hA⟩ : ∃ A, fop .add (floatOfInt .f64 n) f = A := ⟨_, rfl⟩
  obtain ⟨M, hM⟩ : ∃ M, fop .mul (floatOfInt .f64 n) f = M := ⟨_, rfl⟩
  obtain ⟨z, hz⟩ : ∃ z, floatOfInt .f64 n = z := ⟨_, rfl⟩
  have HA := Lib.hid hA
  have HM := Lib.hid hM
  have HN := Lib.hid hn
  clear hA hM hn hf
  have hc : ∀ w, (convert 2 22 (.int .i64 n)).run Try.prog w = .ok (.float .f64 z) w := fun w => by rw [← hz]; exact run_convert_int_float w 2 22 _ _ _ (by kernel_rfl) (by kernel_rfl)
  have HZ := Lib.hid hz
  clear hz
  go_enter Try.func6, Try.ntmps6
  go_wp2_with fail
  refine (known_any _).mono ?_
  rintro e w0 ⟨rfl, hx⟩
  go_wp2_with fail
  refine (rint_is _ _).mono ?_
  rintro e w1 ⟨rfl, h1⟩
  go_wp2_with fail
  refine (float_is _ _).mono ?_
  rintro e w2 ⟨rfl, h2⟩
  go_wp2_with fail
  refine (numAdd_any _ _ HN.out _ _ _ _ _ inR0 _ _ _ _).mono ?_
  rintro e w3 ⟨rfl, h3⟩
  rw [mixA n f A HA.out]
  have g1 := (((h1).trans h2).trans h3).alloc (.cells #[.int .i64 2, .int .i64 0, .float .f64 A, .string ⟨#[]⟩, .slice none 0 0] 31)
  have V1 := VAt.new w3 2 0 A ⟨#[]⟩ (.slice none 0 0)
  replace hx := hx.trans g1
  clear h1 h2 h3 g1
  go_wp2_with fail
  revert V1 hx
  generalize World.alloc _ _ = wa1
  generalize w3.heap.size = blk1
  intro V1 hx
  refine (float_is _ _).mono ?_
  rintro e w4 ⟨rfl, h4⟩
  go_wp2_with fail
  refine (rint_is _ _).mono ?_
  rintro e w5 ⟨rfl, h5⟩
  go_wp2_with fail
  refine (numAdd_any _ _ inR0 _ _ _ _ _ HN.out _ _ _ _).mono ?_
  rintro e w6 ⟨rfl, h6⟩
  rw [mixB n f A HA.out]
  have g2 := (((h4).trans h5).trans h6).alloc (.cells #[.int .i64 2, .int .i64 0, .float .f64 A, .string ⟨#[]⟩, .slice none 0 0] 31)
  have V2 := VAt.new w6 2 0 A ⟨#[]⟩ (.slice none 0 0)
  replace V1 := V1.ext g2
  replace hx := hx.trans g2
  clear h4 h5 h6 g2
  go_wp2_with fail
  revert V1 V2 hx
  generalize World.alloc _ _ = wa2
  generalize w6.heap.size = blk2
  intro V1 V2 hx
  refine (rint_is _ _).mono ?_
  rintro e w7 ⟨rfl, h7⟩
  go_wp2_with fail
  refine (float_is _ _).mono ?_
  rintro e w8 ⟨rfl, h8⟩
  go_wp2_with fail
  refine (numMul_any _ _ HN.out _ _ _ _ _ inR0 _ _ _ _).mono ?_
  rintro e w9 ⟨rfl, h9⟩
  rw [mixC n f M HM.out]
  have g3 := (((h7).trans h8).trans h9).alloc (.cells #[.int .i64 2, .int .i64 0, .float .f64 M, .string ⟨#[]⟩, .slice none 0 0] 31)
  have V3 := VAt.new w9 2 0 M ⟨#[]⟩ (.slice none 0 0)
  replace V1 := V1.ext g3
  replace V2 := V2.ext g3
  replace hx := hx.trans g3
  clear h7 h8 h9 g3
  go_wp2_with fail
  revert V1 V2 V3 hx
  generalize World.alloc _ _ = wa3
  generalize w9.heap.size = blk3
  intro V1 V2 V3 hx
  have hw00 : IntKind.i64.wrap 0 = 0 := by decide
  have a0 := fun p : Later wa3 => p.cell (V1.cell 0 _ rfl)
  have a1 := fun p : Later wa3 => p.cell (V1.cell 1 _ rfl)
  have a2 := fun p : Later wa3 => p.cell (V1.cell 2 _ rfl)
  have a3 := fun p : Later wa3 => p.cell (V1.cell 3 _ rfl)
  have a4 := fun p : Later wa3 => p.cell (V1.cell 4 _ rfl)
  have b0 := fun p : Later wa3 => p.cell (V2.cell 0 _ rfl)
  have b1 := fun p : Later wa3 => p.cell (V2.cell 1 _ rfl)
  have b2 := fun p : Later wa3 => p.cell (V2.cell 2 _ rfl)
  have b3 := fun p : Later wa3 => p.cell (V2.cell 3 _ rfl)
  have b4 := fun p : Later wa3 => p.cell (V2.cell 4 _ rfl)
  have c0 := fun p : Later wa3 => p.cell (V3.cell 0 _ rfl)
  have c1 := fun p : Later wa3 => p.cell (V3.cell 1 _ rfl)
  have c2 := fun p : Later wa3 => p.cell (V3.cell 2 _ rfl)
  have c3 := fun p : Later wa3 => p.cell (V3.cell 3 _ rfl)
  have c4 := fun p : Later wa3 => p.cell (V3.cell 4 _ rfl)
  refine wp_region_rel' 28 (by kernel_rfl) (by kernel_rfl) (fun Fin hFin => ?_)
  simp only [List.take_succ_cons, List.take_zero]
  repeat (refine relGo_p (fun K hK => ?_); go_simp; refine hK _ ?_; clear hK K)
  refine relGo_q (.bool true) ?_ (fun K hK => ?_)
  · intro w' hw'
    go_simp
    refine (same_flat _ _ _ _).mono ?_
    rintro e w'' ⟨rfl, h⟩
    exact ⟨rfl, h⟩
  go_simp
  refine hK _ ?_
  clear hK K
  repeat (refine relGo_p (fun K hK => ?_); go_simp; refine hK _ ?_; clear hK K)
  refine relGo_r (FopV .add z f) (fun _ _ _ h _ => h) ?_ ?_
  · intro w' hw'
    obtain ⟨r, w'', hrun, hr, hx'⟩ := fop_run .add (by simp) z f w'
    go_simp
    exact ⟨r, rfl, hr⟩
  refine relGo_q (.agg #[.int .i64 2, .int .i64 0, .float .f64 A, .string ⟨#[]⟩, (.slice none 0 0)]) ?_ (fun K hK => ?_)
  · intro w' hw' v hv
    obtain ⟨r, rfl, hr⟩ := hv (by kernel_rfl)
    go_simp
    refine (float_is _ _).mono ?_
    rintro e w'' ⟨rfl, h⟩
    have e := HA.out
    rw [HZ.out] at e
    rw [hr, e]
    exact ⟨rfl, h⟩
  go_simp
  refine hK _ ?_
  clear hK K
  refine relGo_q (.bool true) ?_ (fun K hK => ?_)
  · intro w' hw' v hv
    go_simp
    refine (same_flat _ _ _ _).mono ?_
    rintro e w'' ⟨rfl, h⟩
    exact ⟨rfl, h⟩
  go_simp
  refine hK _ ?_
  clear hK K
  repeat (refine relGo_p (fun K hK => ?_); go_simp; refine hK _ ?_; clear hK K)
  refine relGo_r (FopV .mul z f) (fun _ _ _ h _ => h) ?_ ?_
  · intro w' hw' v hv
    obtain ⟨r, w'', hrun, hr, hx'⟩ := fop_run .mul (by simp) z f w'
    go_simp
    exact ⟨r, rfl, hr⟩
  refine relGo_q (.agg #[.int .i64 2, .int .i64 0, .float .f64 M, .string ⟨#[]⟩, (.slice none 0 0)]) ?_ (fun K hK => ?_)
  · intro w' hw' v hv u hu
    obtain ⟨r, rfl, hr⟩ := hu (by kernel_rfl)
    go_simp
    refine (float_is _ _).mono ?_
    rintro e w'' ⟨rfl, h⟩
    have e := HM.out
    rw [HZ.out] at e
    rw [hr, e]
    exact ⟨rfl, h⟩
  go_simp
  refine hK _ ?_
  clear hK K
  refine relGo_q (.bool true) ?_ (fun K hK => ?_)
  · intro w' hw' v hv u hu
    go_simp
    refine (same_flat _ _ _ _).mono ?_
    rintro e w'' ⟨rfl, h⟩
    exact ⟨rfl, h⟩
  go_simp
  refine hK _ ?_
  clear hK K
  repeat (refine relGo_p (fun K hK => ?_); go_simp; refine hK _ ?_; clear hK K)
  refine hFin _ _ (fun w' hw' => ?_)
  intro v hv u hu
  clear hFin Fin hv hu
  replace hx := hx.trans hw'
  clear a0 a1 a2 a3 a4 b0 b1 b2 b3 b4 c0 c1 c2 c3 c4
  go_wp2
  go_ret
  exact ⟨rfl, hx⟩
end Go.Proofs.Ytgodncdhkmpfaaa
