/- NumEdges. -/
import Derived.Test.YtgodncdhkmpfaaaNumK
namespace Go.Proofs.Ytgodncdhkmpfaaa
open Go.RowKit
set_option linter.unusedVariables false
set_option linter.unusedSimpArgs false
attribute [local go_sem] stepR givesR fillE Ext.refl

def RetX (w : World) (e : Ending) (w' : World) : Prop := ∃ x, e = .returned (.float .f64 x) ∧ Ext w w'
theorem q1 (w : World) : (binOp .quo 22 (.float .f64 4607182418800017408) (.float .f64 0)).run Try.prog w = .ok (.float .f64 9218868437227405312) w := run_float_arith w .quo 22 .f64 _ _ _ (by kernel_rfl)
theorem q2 (w : World) : (binOp .quo 22 (.float .f64 13830554455654793216) (.float .f64 9218868437227405312)).run Try.prog w = .ok (.float .f64 9223372036854775808) w := run_float_arith w .quo 22 .f64 _ _ _ (by kernel_rfl)
theorem q3 (w : World) : (binOp .quo 22 (.float .f64 13830554455654793216) (.float .f64 0)).run Try.prog w = .ok (.float .f64 18442240474082181120) w := run_float_arith w .quo 22 .f64 _ _ _ (by kernel_rfl)
theorem q4 (w : World) : (binOp .quo 22 (.float .f64 0) (.float .f64 0)).run Try.prog w = .ok (.float .f64 (drawnNaN w 0 0)) w.drew := run_float_nan w .quo 22 _ _ (by simp) (by kernel_rfl)
theorem edge_any (k : Int) (w : World) : Calls Try.prog 31 #[.int .u8 k] w (RetX w) := by
  have g1 := q1
  have g2 := q2
  have g3 := q3
  have g4 := q4
  go_enter Try.func31, Try.ntmps31
  go_wp2
  all_goals
    go_ret
    first | exact ⟨_, rfl, Ext.refl _⟩ | exact ⟨_, rfl, (Ext.refl _).drew⟩
theorem both (op : BinOp) (W : Int → Int → Option Int) (x y F : Nat) (h : fop op x y = F) : numOp op W 2 0 x 2 0 y = .tuple #[(.agg #[.int .i64 2, .int .i64 0, .float .f64 F, .string ⟨#[]⟩, (.slice none 0 0)]), .int .i64 0] := by rw [← h]; rfl
theorem twoV (w : World) (k i : Int) (f : Nat) (k' i' : Int) (f' : Nat) :
    Ext w ((w.alloc (.cells #[.int .i64 k, .int .i64 i, .float .f64 f, .string ⟨#[]⟩, .slice none 0 0] 31)).alloc (.cells #[.int .i64 k', .int .i64 i', .float .f64 f', .string ⟨#[]⟩, .slice none 0 0] 31)) := (x1 _ _).alloc _

set_option maxRecDepth 100000 in
theorem doAdd_any (x y F : Nat) (hF : fop .add (canon x) (canon y) = F) (w : World) : Calls Try.prog 32 #[.int .u8 43, .float .f64 x, .float .f64 y] w (Ret (.tuple #[.float .f64 F, .int .i64 0]) w) := by
  have HF := Lib.hid hF
  clear hF
  go_enter Try.func32, Try.ntmps32
  go_wp2_with fail
  refine (float_is _ _).mono ?_
  rintro e w1 ⟨rfl, h1⟩
  go_wp2_with fail
  refine (float_is _ _).mono ?_
  rintro e w2 ⟨rfl, h2⟩
  have g := twoV w2 2 0 (canon x) 2 0 (canon y)
  go_wp2_with fail
  refine (numAdd_any _ _ inR0 _ _ _ _ _ inR0 _ _ _ _).mono ?_
  rintro e w3 ⟨rfl, h3⟩
  rw [both .add wAdd _ _ F HF.out]
  have hx := (((h1.trans h2).trans g).trans h3).alloc (.cells #[.int .i64 2, .int .i64 0, .float .f64 F, .string ⟨#[]⟩, .slice none 0 0] 31)
  clear h1 h2 h3 g
  go_wp2
  go_ret2
  exact ⟨rfl, hx⟩

set_option maxRecDepth 100000 in
theorem doSub_any (x y F : Nat) (hF : fop .sub (canon x) (canon y) = F) (w : World) : Calls Try.prog 32 #[.int .u8 45, .float .f64 x, .float .f64 y] w (Ret (.tuple #[.float .f64 F, .int .i64 0]) w) := by
  have HF := Lib.hid hF
  clear hF
  go_enter Try.func32, Try.ntmps32
  go_wp2_with fail
  refine (float_is _ _).mono ?_
  rintro e w1 ⟨rfl, h1⟩
  go_wp2_with fail
  refine (float_is _ _).mono ?_
  rintro e w2 ⟨rfl, h2⟩
  have g := twoV w2 2 0 (canon x) 2 0 (canon y)
  go_wp2_with fail
  refine (numSub_any _ _ inR0 _ _ _ _ _ inR0 _ _ _ _).mono ?_
  rintro e w3 ⟨rfl, h3⟩
  rw [both .sub wSub _ _ F HF.out]
  have hx := (((h1.trans h2).trans g).trans h3).alloc (.cells #[.int .i64 2, .int .i64 0, .float .f64 F, .string ⟨#[]⟩, .slice none 0 0] 31)
  clear h1 h2 h3 g
  go_wp2
  go_ret2
  exact ⟨rfl, hx⟩

set_option maxRecDepth 100000 in
theorem doMul_any (x y F : Nat) (hF : fop .mul (canon x) (canon y) = F) (w : World) : Calls Try.prog 32 #[.int .u8 42, .float .f64 x, .float .f64 y] w (Ret (.tuple #[.float .f64 F, .int .i64 0]) w) := by
  have HF := Lib.hid hF
  clear hF
  go_enter Try.func32, Try.ntmps32
  go_wp2_with fail
  refine (float_is _ _).mono ?_
  rintro e w1 ⟨rfl, h1⟩
  go_wp2_with fail
  refine (float_is _ _).mono ?_
  rintro e w2 ⟨rfl, h2⟩
  have g := twoV w2 2 0 (canon x) 2 0 (canon y)
  go_wp2_with fail
  refine (numMul_any _ _ inR0 _ _ _ _ _ inR0 _ _ _ _).mono ?_
  rintro e w3 ⟨rfl, h3⟩
  rw [both .mul wMul _ _ F HF.out]
  have hx := (((h1.trans h2).trans g).trans h3).alloc (.cells #[.int .i64 2, .int .i64 0, .float .f64 F, .string ⟨#[]⟩, .slice none 0 0] 31)
  clear h1 h2 h3 g
  go_wp2
  go_ret2
  exact ⟨rfl, hx⟩

set_option maxRecDepth 100000 in
theorem doDiv_any (x y F : Nat) (hF : fop .quo (canon x) (canon y) = F) (w : World) : Calls Try.prog 32 #[.int .u8 47, .float .f64 x, .float .f64 y] w (Ret (.tuple #[.float .f64 F, .int .i64 0]) w) := by
  have HF := Lib.hid hF
  clear hF
  go_enter Try.func32, Try.ntmps32
  go_wp2_with fail
  refine (float_is _ _).mono ?_
  rintro e w1 ⟨rfl, h1⟩
  go_wp2_with fail
  refine (float_is _ _).mono ?_
  rintro e w2 ⟨rfl, h2⟩
  have g := twoV w2 2 0 (canon x) 2 0 (canon y)
  go_wp2_with fail
  refine (numDiv_any _ _ inR0 _ _ _ _ _ inR0 _ _ _ _).mono ?_
  rintro e w3 ⟨rfl, h3⟩
  rw [both .quo wDiv _ _ F HF.out]
  have hx := (((h1.trans h2).trans g).trans h3).alloc (.cells #[.int .i64 2, .int .i64 0, .float .f64 F, .string ⟨#[]⟩, .slice none 0 0] 31)
  clear h1 h2 h3 g
  go_wp2
  go_ret2
  exact ⟨rfl, hx⟩

set_option maxRecDepth 100000 in
set_option maxHeartbeats 4000000 in
theorem numEdges_law (a : Int) (ha : (Lit.int .u8 a).wf = true) (b : Int) (hb : (Lit.int .u8 b).wf = true) (w : World) : Calls Try.prog 9 #[.int .u8 a, .int .u8 b] w (Ret (.bool true) w) := by
  clear ha hb
  go_enter Try.func9, Try.ntmps9
  go_wp2_with fail
  refine (known_any _).mono ?_
  rintro e w0 ⟨rfl, hx⟩
  go_wp2_with fail
  refine (edge_any _ _).mono ?_
  rintro e w1 ⟨x, rfl, h1⟩
  go_wp2_with fail
  refine (edge_any _ _).mono ?_
  rintro e w2 ⟨y, rfl, h2⟩
  go_wp2_with fail
  have S := Signs.new w2
  replace hx := ((hx.trans h1).trans h2).alloc (.cells #[.int .u8 43, .int .u8 45, .int .u8 42, .int .u8 47] 5)
  clear h1 h2
  revert S hx
  generalize World.alloc _ _ = w3
  generalize w2.heap.size = bs
  intro S hx
  go_loopw [21] (fun i wr => ∃ j : Nat, j ≤ 4 ∧ i = .int .i64 j ∧ Ext w3 wr) (fun i _ => 4 - (intOf i).toNat)
  case atStart => exact ⟨0, Nat.zero_le _, rfl, Ext.refl _⟩
  case round =>
    obtain ⟨j, hj, rfl, hw⟩ := hrel
    obtain ⟨s0, s1, s2, s3⟩ := S.ext hw
    have hxw := hx.trans hw
    match j, hj with
    | 0, _ =>
      obtain ⟨F, hF⟩ : ∃ F, fop .add (canon x) (canon y) = F := ⟨_, rfl⟩
      have HF := Lib.hid hF
      clear hF hxw
      go_wp2_with fail
      refine (doAdd_any x y F HF.out _).mono ?_
      rintro e w4 ⟨rfl, h4⟩
      replace hw := hw.trans h4
      clear h4 s0 s1 s2 s3
      go_wp2_with fail
      refine (float_is _ _).mono ?_
      rintro e w5 ⟨rfl, h5⟩
      go_wp2_with fail
      refine (float_is _ _).mono ?_
      rintro e w6 ⟨rfl, h6⟩
      replace hw := (hw.trans h5).trans h6
      clear h5 h6
      go_wp2_with fail
      refine (opAdd_any _ _ inR0 _ _ _ _ _ inR0 _ _ _ _).mono ?_
      rintro e w7 ⟨rfl, h7⟩
      rw [both .add wAdd _ _ F HF.out]
      have g := h7.alloc (.cells #[.int .i64 2, .int .i64 0, .float .f64 F, .string ⟨#[]⟩, .slice none 0 0] 31)
      have U := VAt.new w7 2 0 F ⟨#[]⟩ (.slice none 0 0)
      replace hw := hw.trans g
      clear g h7 HF
      go_wp2_with fail
      revert U hw
      generalize World.alloc _ _ = w8
      generalize w7.heap.size = bu
      intro U hw
      have c2 := fun p : Later w8 => p.cell (U.cell 2 _ rfl)
      refine wp_region_rel' 15 (by kernel_rfl) (by kernel_rfl) (fun Fin hFin => ?_)
      simp only [List.take_succ_cons, List.take_zero]
      repeat (refine relGo_p (fun K hK => ?_); go_simp; refine hK _ ?_; clear hK K)
      refine relGo_q (.int .u64 (canon F)) ?_ (fun K hK => ?_)
      · intro w' hw'
        go_simp
        refine (rbits_any _ _).mono ?_
        rintro e w'' ⟨rfl, h⟩
        exact ⟨rfl, h⟩
      go_simp
      refine hK _ ?_
      clear hK K
      repeat (refine relGo_p (fun K hK => ?_); go_simp; refine hK _ ?_; clear hK K)
      refine relGo_q (.int .u64 (canon F)) ?_ (fun K hK => ?_)
      · intro w' hw'
        go_simp
        refine (rbits_any _ _).mono ?_
        rintro e w'' ⟨rfl, h⟩
        exact ⟨rfl, h⟩
      go_simp
      refine hK _ ?_
      clear hK K
      repeat (refine relGo_p (fun K hK => ?_); go_simp; refine hK _ ?_; clear hK K)
      refine hFin _ _ (fun w9 hw9 => ?_)
      clear hFin Fin
      simp only [fillE, List.drop_succ_cons, List.drop_nil]
      replace hw := hw.trans hw9
      clear hw9 c2 U
      go_wp2
      go_roundw
      case rel => exact ⟨1, by omega, rfl, hw⟩
      case measure => decide
    | 1, _ =>
      obtain ⟨F, hF⟩ : ∃ F, fop .sub (canon x) (canon y) = F := ⟨_, rfl⟩
      have HF := Lib.hid hF
      clear hF hxw
      go_wp2_with fail
      refine (doSub_any x y F HF.out _).mono ?_
      rintro e w4 ⟨rfl, h4⟩
      replace hw := hw.trans h4
      clear h4 s0 s1 s2 s3
      go_wp2_with fail
      refine (float_is _ _).mono ?_
      rintro e w5 ⟨rfl, h5⟩
      go_wp2_with fail
      refine (float_is _ _).mono ?_
      rintro e w6 ⟨rfl, h6⟩
      replace hw := (hw.trans h5).trans h6
      clear h5 h6
      go_wp2_with fail
      refine (opSub_any _ _ inR0 _ _ _ _ _ inR0 _ _ _ _).mono ?_
      rintro e w7 ⟨rfl, h7⟩
      rw [both .sub wSub _ _ F HF.out]
      have g := h7.alloc (.cells #[.int .i64 2, .int .i64 0, .float .f64 F, .string ⟨#[]⟩, .slice none 0 0] 31)
      have U := VAt.new w7 2 0 F ⟨#[]⟩ (.slice none 0 0)
      replace hw := hw.trans g
      clear g h7 HF
      go_wp2_with fail
      revert U hw
      generalize World.alloc _ _ = w8
      generalize w7.heap.size = bu
      intro U hw
      have c2 := fun p : Later w8 => p.cell (U.cell 2 _ rfl)
      refine wp_region_rel' 15 (by kernel_rfl) (by kernel_rfl) (fun Fin hFin => ?_)
      simp only [List.take_succ_cons, List.take_zero]
      repeat (refine relGo_p (fun K hK => ?_); go_simp; refine hK _ ?_; clear hK K)
      refine relGo_q (.int .u64 (canon F)) ?_ (fun K hK => ?_)
      · intro w' hw'
        go_simp
        refine (rbits_any _ _).mono ?_
        rintro e w'' ⟨rfl, h⟩
        exact ⟨rfl, h⟩
      go_simp
      refine hK _ ?_
      clear hK K
      repeat (refine relGo_p (fun K hK => ?_); go_simp; refine hK _ ?_; clear hK K)
      refine relGo_q (.int .u64 (canon F)) ?_ (fun K hK => ?_)
      · intro w' hw'
        go_simp
        refine (rbits_any _ _).mono ?_
        rintro e w'' ⟨rfl, h⟩
        exact ⟨rfl, h⟩
      go_simp
      refine hK _ ?_
      clear hK K
      repeat (refine relGo_p (fun K hK => ?_); go_simp; refine hK _ ?_; clear hK K)
      refine hFin _ _ (fun w9 hw9 => ?_)
      clear hFin Fin
      simp only [fillE, List.drop_succ_cons, List.drop_nil]
      replace hw := hw.trans hw9
      clear hw9 c2 U
      go_wp2
      go_roundw
      case rel => exact ⟨2, by omega, rfl, hw⟩
      case measure => decide
    | 2, _ =>
      obtain ⟨F, hF⟩ : ∃ F, fop .mul (canon x) (canon y) = F := ⟨_, rfl⟩
      have HF := Lib.hid hF
      clear hF hxw
      go_wp2_with fail
      refine (doMul_any x y F HF.out _).mono ?_
      rintro e w4 ⟨rfl, h4⟩
      replace hw := hw.trans h4
      clear h4 s0 s1 s2 s3
      go_wp2_with fail
      refine (float_is _ _).mono ?_
      rintro e w5 ⟨rfl, h5⟩
      go_wp2_with fail
      refine (float_is _ _).mono ?_
      rintro e w6 ⟨rfl, h6⟩
      replace hw := (hw.trans h5).trans h6
      clear h5 h6
      go_wp2_with fail
      refine (opMul_any _ _ inR0 _ _ _ _ _ inR0 _ _ _ _).mono ?_
      rintro e w7 ⟨rfl, h7⟩
      rw [both .mul wMul _ _ F HF.out]
      have g := h7.alloc (.cells #[.int .i64 2, .int .i64 0, .float .f64 F, .string ⟨#[]⟩, .slice none 0 0] 31)
      have U := VAt.new w7 2 0 F ⟨#[]⟩ (.slice none 0 0)
      replace hw := hw.trans g
      clear g h7 HF
      go_wp2_with fail
      revert U hw
      generalize World.alloc _ _ = w8
      generalize w7.heap.size = bu
      intro U hw
      have c2 := fun p : Later w8 => p.cell (U.cell 2 _ rfl)
      refine wp_region_rel' 15 (by kernel_rfl) (by kernel_rfl) (fun Fin hFin => ?_)
      simp only [List.take_succ_cons, List.take_zero]
      repeat (refine relGo_p (fun K hK => ?_); go_simp; refine hK _ ?_; clear hK K)
      refine relGo_q (.int .u64 (canon F)) ?_ (fun K hK => ?_)
      · intro w' hw'
        go_simp
        refine (rbits_any _ _).mono ?_
        rintro e w'' ⟨rfl, h⟩
        exact ⟨rfl, h⟩
      go_simp
      refine hK _ ?_
      clear hK K
      repeat (refine relGo_p (fun K hK => ?_); go_simp; refine hK _ ?_; clear hK K)
      refine relGo_q (.int .u64 (canon F)) ?_ (fun K hK => ?_)
      · intro w' hw'
        go_simp
        refine (rbits_any _ _).mono ?_
        rintro e w'' ⟨rfl, h⟩
        exact ⟨rfl, h⟩
      go_simp
      refine hK _ ?_
      clear hK K
      repeat (refine relGo_p (fun K hK => ?_); go_simp; refine hK _ ?_; clear hK K)
      refine hFin _ _ (fun w9 hw9 => ?_)
      clear hFin Fin
      simp only [fillE, List.drop_succ_cons, List.drop_nil]
      replace hw := hw.trans hw9
      clear hw9 c2 U
      go_wp2
      go_roundw
      case rel => exact ⟨3, by omega, rfl, hw⟩
      case measure => decide
    | 3, _ =>
      obtain ⟨F, hF⟩ : ∃ F, fop .quo (canon x) (canon y) = F := ⟨_, rfl⟩
      have HF := Lib.hid hF
      clear hF hxw
      go_wp2_with fail
      refine (doDiv_any x y F HF.out _).mono ?_
      rintro e w4 ⟨rfl, h4⟩
      replace hw := hw.trans h4
      clear h4 s0 s1 s2 s3
      go_wp2_with fail
      refine (float_is _ _).mono ?_
      rintro e w5 ⟨rfl, h5⟩
      go_wp2_with fail
      refine (float_is _ _).mono ?_
      rintro e w6 ⟨rfl, h6⟩
      replace hw := (hw.trans h5).trans h6
      clear h5 h6
      go_wp2_with fail
      refine (opDiv_any _ _ inR0 _ _ _ _ _ inR0 _ _ _ _).mono ?_
      rintro e w7 ⟨rfl, h7⟩
      rw [both .quo wDiv _ _ F HF.out]
      have g := h7.alloc (.cells #[.int .i64 2, .int .i64 0, .float .f64 F, .string ⟨#[]⟩, .slice none 0 0] 31)
      have U := VAt.new w7 2 0 F ⟨#[]⟩ (.slice none 0 0)
      replace hw := hw.trans g
      clear g h7 HF
      go_wp2_with fail
      revert U hw
      generalize World.alloc _ _ = w8
      generalize w7.heap.size = bu
      intro U hw
      have c2 := fun p : Later w8 => p.cell (U.cell 2 _ rfl)
      refine wp_region_rel' 15 (by kernel_rfl) (by kernel_rfl) (fun Fin hFin => ?_)
      simp only [List.take_succ_cons, List.take_zero]
      repeat (refine relGo_p (fun K hK => ?_); go_simp; refine hK _ ?_; clear hK K)
      refine relGo_q (.int .u64 (canon F)) ?_ (fun K hK => ?_)
      · intro w' hw'
        go_simp
        refine (rbits_any _ _).mono ?_
        rintro e w'' ⟨rfl, h⟩
        exact ⟨rfl, h⟩
      go_simp
      refine hK _ ?_
      clear hK K
      repeat (refine relGo_p (fun K hK => ?_); go_simp; refine hK _ ?_; clear hK K)
      refine relGo_q (.int .u64 (canon F)) ?_ (fun K hK => ?_)
      · intro w' hw'
        go_simp
        refine (rbits_any _ _).mono ?_
        rintro e w'' ⟨rfl, h⟩
        exact ⟨rfl, h⟩
      go_simp
      refine hK _ ?_
      clear hK K
      repeat (refine relGo_p (fun K hK => ?_); go_simp; refine hK _ ?_; clear hK K)
      refine hFin _ _ (fun w9 hw9 => ?_)
      clear hFin Fin
      simp only [fillE, List.drop_succ_cons, List.drop_nil]
      replace hw := hw.trans hw9
      clear hw9 c2 U
      go_wp2
      go_roundw
      case rel => exact ⟨4, by omega, rfl, hw⟩
      case measure => decide
    | 4, _ =>
      go_wp2_with fail
      refine (float_is _ _).mono ?_
      rintro e w5 ⟨rfl, h5⟩
      go_wp2_with fail
      refine (sign_any _ _ _ _ _ _).mono ?_
      rintro e w6 ⟨rfl, h6⟩
      go_wp2_with fail
      refine (float_is _ _).mono ?_
      rintro e w7 ⟨rfl, h7⟩
      go_wp2_with fail
      refine (rsign_any _ _ _ _ _ _).mono ?_
      rintro e w8 ⟨rfl, h8⟩
      go_wp2
      go_ret
      exact ⟨rfl, (((hxw.trans h5).trans h6).trans h7).trans h8⟩
    | j + 5, hj => omega
end Go.Proofs.Ytgodncdhkmpfaaa
