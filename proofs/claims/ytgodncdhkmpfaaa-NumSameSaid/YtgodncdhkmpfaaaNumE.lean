/- The document's Op, for each of the four signs; Same on what they give. -/
import Derived.Test.YtgodncdhkmpfaaaNumD
namespace Go.Proofs.Ytgodncdhkmpfaaa
open Go.RowKit
set_option linter.unusedVariables false
set_option linter.unusedSimpArgs false
attribute [local go_sem] stepR givesR fillE Ext.refl
theorem float_is (f : Nat) (w : World) : Calls Try.prog 23 #[.float .f64 f] w (Ret (.agg #[.int .i64 2, .int .i64 0, .float .f64 (canon f), .string ⟨#[]⟩, (.slice none 0 0)]) w) := float_any f w

set_option maxRecDepth 100000 in
set_option maxHeartbeats 2000000 in
theorem opAdd_not1 (k i : Int) (f : Nat) (s : ByteArray) (L : Value) (k' i' : Int) (f' : Nat) (s' : ByteArray) (L' : Value) (w : World) (h1 : (k == 1 || k == 2) = false) :
    Calls Try.prog 28 #[.int .u8 43, (.agg #[.int .i64 k, .int .i64 i, .float .f64 f, .string s, L]), (.agg #[.int .i64 k', .int .i64 i', .float .f64 f', .string s', L'])] w (Ret (.tuple #[numV 0 0 0, .int .i64 31]) w) := by
  go_enter Try.func28, Try.ntmps28
  go_wp2_with (go_at_call 21; refine (number_exact _ _ _ _ _ _).mono ?_; rintro e w' ⟨rfl, rfl⟩)
  go_returns
  exact ⟨rfl, (((((Ext.refl _).alloc _).alloc _).alloc _).alloc _)⟩

set_option maxRecDepth 100000 in
set_option maxHeartbeats 2000000 in
theorem opAdd_not2 (k i : Int) (f : Nat) (s : ByteArray) (L : Value) (k' i' : Int) (f' : Nat) (s' : ByteArray) (L' : Value) (w : World) (h1 : (k == 1 || k == 2) = true) (h2 : (k' == 1 || k' == 2) = false) :
    Calls Try.prog 28 #[.int .u8 43, (.agg #[.int .i64 k, .int .i64 i, .float .f64 f, .string s, L]), (.agg #[.int .i64 k', .int .i64 i', .float .f64 f', .string s', L'])] w (Ret (.tuple #[numV 0 0 0, .int .i64 31]) w) := by
  go_enter Try.func28, Try.ntmps28
  go_wp2_with (go_at_call 21; refine (number_exact _ _ _ _ _ _).mono ?_; rintro e w' ⟨rfl, rfl⟩)
  go_returns
  exact ⟨rfl, ((((((Ext.refl _).alloc _).alloc _).alloc _).alloc _).alloc _)⟩

set_option maxRecDepth 100000 in
set_option maxHeartbeats 2000000 in
theorem opAdd_ints (i : Int) (hi : inR i) (f : Nat) (s : ByteArray) (L : Value) (i' : Int) (hi' : inR i') (f' : Nat) (s' : ByteArray) (L' : Value) (w : World) :
    Calls Try.prog 28 #[.int .u8 43, (.agg #[.int .i64 1, .int .i64 i, .float .f64 f, .string s, L]), (.agg #[.int .i64 1, .int .i64 i', .float .f64 f', .string s', L'])] w (Ret (vInt (wAdd i i')) w) := by
  obtain ⟨hw0, A, B, V0⟩ := five w 1 i f s L 1 i' f' s' L' (.cells #[.int .i64 1, .int .i64 i, .float .f64 f, .string s, L] 31) (.cells #[.int .i64 1, .int .i64 i', .float .f64 f', .string s', L'] 31)
  go_enter Try.func28, Try.ntmps28
  go_wp2_with (go_at_call 21; refine (number_exact _ _ _ _ _ _).mono ?_; rintro e w' ⟨rfl, rfl⟩)
  refine (intsAdd_any _ _ hi hi' _).mono ?_
  rintro e w' ⟨n, ok, rfl, hr, hx⟩
  have HR := Lib.hid hr
  clear hr
  have V := V0.ext hx
  have hw := hw0.trans hx
  clear V0 hw0 hx A B
  cases ok with
  | true =>
    go_wp2_with fail
    refine (rint_any _ _).mono ?_
    rintro e w1 ⟨rfl, hx1⟩
    have V1 := V.ext hx1
    have hw1 := hw.trans hx1
    obtain ⟨c0, c1, c2, c3, c4⟩ := V1.pack
    have z := V1.free
    clear V hw hx1
    go_wp2
    have V5 := V1.put 1 n 0 ⟨#[]⟩ (.slice none 0 0)
    have h5 := hw1.put5 (Nat.le_add_right _ 2) 1 n 0 ⟨#[]⟩ (.slice none 0 0)
    clear c0 c1 c2 c3 c4 z V1
    revert V5 h5
    generalize World.setCell _ _ _ = w5
    intro V5 h5
    obtain ⟨c0, c1, c2, c3, c4⟩ := V5.pack
    refine bodyPost_ret (by simp [results, Try.results28, go_sem, c0, c1, c2, c3, c4]; try rfl) rfl ?_
    exact ⟨by rw [← HR.out]; rfl, h5⟩
  | false =>
    obtain ⟨c0, c1, c2, c3, c4⟩ := V.pack
    have z := V.free
    go_wp2
    have V5 := V.put 0 0 0 ⟨#[]⟩ (.slice none 0 0)
    have h5 := hw.put5 (Nat.le_add_right _ 2) 0 0 0 ⟨#[]⟩ (.slice none 0 0)
    clear c0 c1 c2 c3 c4 z V
    revert V5 h5
    generalize World.setCell _ _ _ = w5
    intro V5 h5
    obtain ⟨c0, c1, c2, c3, c4⟩ := V5.pack
    refine bodyPost_ret (by simp [results, Try.results28, go_sem, c0, c1, c2, c3, c4]; try rfl) rfl ?_
    exact ⟨by rw [← HR.out]; rfl, h5⟩

set_option maxRecDepth 100000 in
set_option maxHeartbeats 2000000 in
theorem opAdd_flt1 (i : Int) (f : Nat) (s : ByteArray) (L : Value) (k' i' : Int) (f' : Nat) (s' : ByteArray) (L' : Value) (w : World) (h2 : (k' == 1 || k' == 2) = true) :
    Calls Try.prog 28 #[.int .u8 43, (.agg #[.int .i64 2, .int .i64 i, .float .f64 f, .string s, L]), (.agg #[.int .i64 k', .int .i64 i', .float .f64 f', .string s', L'])] w (Ret (.tuple #[numV 2 0 (fop .add (asF 2 i f) (asF k' i' f')), .int .i64 0]) w) := by
  obtain ⟨hw0, A, B, V⟩ := five w 2 i f s L k' i' f' s' L' (.cells #[.int .i64 2, .int .i64 i, .float .f64 f, .string s, L] 31) (.cells #[.int .i64 k', .int .i64 i', .float .f64 f', .string s', L'] 31)
  obtain ⟨x, HX⟩ : ∃ x, Hid (asF 2 i f = x) := ⟨_, Lib.hid rfl⟩
  obtain ⟨y, HY⟩ : ∃ y, Hid (asF k' i' f' = y) := ⟨_, Lib.hid rfl⟩
  have eN : numV 2 0 (fop .add (asF 2 i f) (asF k' i' f')) = numV 2 0 (fop .add x y) := by rw [HX.out, HY.out]
  rw [eN]
  clear eN
  go_enter Try.func28, Try.ntmps28
  go_wp2_with (go_at_call 21; refine (number_exact _ _ _ _ _ _).mono ?_; rintro e w' ⟨rfl, rfl⟩)
  revert hw0 A B V
  generalize World.alloc _ _ = w0
  intro hw0 A B V
  have a0 := fun p : Later w0 => p.cell (A.cell 0 _ rfl)
  have a1 := fun p : Later w0 => p.cell (A.cell 1 _ rfl)
  have a2 := fun p : Later w0 => p.cell (A.cell 2 _ rfl)
  have a3 := fun p : Later w0 => p.cell (A.cell 3 _ rfl)
  have a4 := fun p : Later w0 => p.cell (A.cell 4 _ rfl)
  have b0 := fun p : Later w0 => p.cell (B.cell 0 _ rfl)
  have b1 := fun p : Later w0 => p.cell (B.cell 1 _ rfl)
  have b2 := fun p : Later w0 => p.cell (B.cell 2 _ rfl)
  have b3 := fun p : Later w0 => p.cell (B.cell 3 _ rfl)
  have b4 := fun p : Later w0 => p.cell (B.cell 4 _ rfl)
  refine wp_region_rel' 6 (by kernel_rfl) (by kernel_rfl) (fun Fin hFin => ?_)
  simp only [List.take_succ_cons, List.take_zero]
  repeat (refine relGo_p (fun K hK => ?_); go_simp; refine hK _ ?_; clear hK K)
  refine relGo_q (.float .f64 x) ?_ (fun K hK => ?_)
  · intro w' hw'
    go_simp
    refine (asfloat_any _ _ _ _ _ _).mono ?_
    rintro e w'' ⟨rfl, h⟩
    rw [HX.out]
    exact ⟨rfl, h⟩
  go_simp
  refine hK _ ?_
  clear hK K
  repeat (refine relGo_p (fun K hK => ?_); go_simp; refine hK _ ?_; clear hK K)
  refine relGo_q (.float .f64 y) ?_ (fun K hK => ?_)
  · intro w' hw'
    go_simp
    refine (asfloat_any _ _ _ _ _ _).mono ?_
    rintro e w'' ⟨rfl, h⟩
    rw [HY.out]
    exact ⟨rfl, h⟩
  go_simp
  refine hK _ ?_
  clear hK K
  repeat (refine relGo_p (fun K hK => ?_); go_simp; refine hK _ ?_; clear hK K)
  refine hFin _ _ (fun w1 hw1 => ?_)
  clear hFin Fin
  simp only [fillE, List.drop_succ_cons, List.drop_nil]
  have V1 := V.ext hw1
  have hx1 := hw0.trans hw1
  clear hw1 hw0 V A B a0 a1 a2 a3 a4 b0 b1 b2 b3 b4
  cases hr : floatBits .add .f64 x y with
  | some r =>
    have hc : canon r = fop .add x y := fop_some hr
    have hrun : (binOp .add 22 (.float .f64 x) (.float .f64 y)).run Try.prog w1 = .ok (.float .f64 r) w1 := run_float_arith w1 _ _ _ _ _ _ hr
    have HC := Lib.hid hc
    clear hc hr
    go_wp2_with fail
    refine (float_is _ _).mono ?_
    rintro e w2 ⟨rfl, hw2⟩
    rw [HC.out]
    have V := V1.ext hw2
    have hw := hx1.trans hw2
    obtain ⟨c0, c1, c2, c3, c4⟩ := V.pack
    have z := V.free
    clear V1 hx1 hw2 hrun
    go_wp2
    have V5 := V.put 2 0 (fop .add x y) ⟨#[]⟩ (.slice none 0 0)
    have h5 := hw.put5 (Nat.le_add_right _ 2) 2 0 (fop .add x y) ⟨#[]⟩ (.slice none 0 0)
    clear c0 c1 c2 c3 c4 z V
    revert V5 h5
    generalize World.setCell _ _ _ = w5
    intro V5 h5
    obtain ⟨c0, c1, c2, c3, c4⟩ := V5.pack
    try simp only [Exit.inBlock, Exit.then]
    refine bodyPost_ret (by simp [results, Try.results28, go_sem, c0, c1, c2, c3, c4]; try rfl) rfl ?_
    exact ⟨rfl, h5⟩
  | none =>
    have hc : canon (drawnNaN w1 x y) = fop .add x y := fop_none hr w1
    have hrun : (binOp .add 22 (.float .f64 x) (.float .f64 y)).run Try.prog w1 = .ok (.float .f64 (drawnNaN w1 x y)) w1.drew := run_float_nan w1 _ _ _ _ (by simp) hr
    have HC := Lib.hid hc
    clear hc hr
    go_wp2_with fail
    replace V1 := V1.ext (Ext.refl w1).drew
    replace hx1 := hx1.drew
    refine (float_is _ _).mono ?_
    rintro e w2 ⟨rfl, hw2⟩
    rw [HC.out]
    have V := V1.ext hw2
    have hw := hx1.trans hw2
    obtain ⟨c0, c1, c2, c3, c4⟩ := V.pack
    have z := V.free
    clear V1 hx1 hw2 hrun
    go_wp2
    have V5 := V.put 2 0 (fop .add x y) ⟨#[]⟩ (.slice none 0 0)
    have h5 := hw.put5 (Nat.le_add_right _ 2) 2 0 (fop .add x y) ⟨#[]⟩ (.slice none 0 0)
    clear c0 c1 c2 c3 c4 z V
    revert V5 h5
    generalize World.setCell _ _ _ = w5
    intro V5 h5
    obtain ⟨c0, c1, c2, c3, c4⟩ := V5.pack
    try simp only [Exit.inBlock, Exit.then]
    refine bodyPost_ret (by simp [results, Try.results28, go_sem, c0, c1, c2, c3, c4]; try rfl) rfl ?_
    exact ⟨rfl, h5⟩

set_option maxRecDepth 100000 in
set_option maxHeartbeats 2000000 in
theorem opAdd_flt2 (i : Int) (f : Nat) (s : ByteArray) (L : Value) (i' : Int) (f' : Nat) (s' : ByteArray) (L' : Value) (w : World) :
    Calls Try.prog 28 #[.int .u8 43, (.agg #[.int .i64 1, .int .i64 i, .float .f64 f, .string s, L]), (.agg #[.int .i64 2, .int .i64 i', .float .f64 f', .string s', L'])] w (Ret (.tuple #[numV 2 0 (fop .add (asF 1 i f) (asF 2 i' f')), .int .i64 0]) w) := by
  obtain ⟨hw0, A, B, V⟩ := five w 1 i f s L 2 i' f' s' L' (.cells #[.int .i64 1, .int .i64 i, .float .f64 f, .string s, L] 31) (.cells #[.int .i64 2, .int .i64 i', .float .f64 f', .string s', L'] 31)
  obtain ⟨x, HX⟩ : ∃ x, Hid (asF 1 i f = x) := ⟨_, Lib.hid rfl⟩
  obtain ⟨y, HY⟩ : ∃ y, Hid (asF 2 i' f' = y) := ⟨_, Lib.hid rfl⟩
  have eN : numV 2 0 (fop .add (asF 1 i f) (asF 2 i' f')) = numV 2 0 (fop .add x y) := by rw [HX.out, HY.out]
  rw [eN]
  clear eN
  go_enter Try.func28, Try.ntmps28
  go_wp2_with (go_at_call 21; refine (number_exact _ _ _ _ _ _).mono ?_; rintro e w' ⟨rfl, rfl⟩)
  revert hw0 A B V
  generalize World.alloc _ _ = w0
  intro hw0 A B V
  have a0 := fun p : Later w0 => p.cell (A.cell 0 _ rfl)
  have a1 := fun p : Later w0 => p.cell (A.cell 1 _ rfl)
  have a2 := fun p : Later w0 => p.cell (A.cell 2 _ rfl)
  have a3 := fun p : Later w0 => p.cell (A.cell 3 _ rfl)
  have a4 := fun p : Later w0 => p.cell (A.cell 4 _ rfl)
  have b0 := fun p : Later w0 => p.cell (B.cell 0 _ rfl)
  have b1 := fun p : Later w0 => p.cell (B.cell 1 _ rfl)
  have b2 := fun p : Later w0 => p.cell (B.cell 2 _ rfl)
  have b3 := fun p : Later w0 => p.cell (B.cell 3 _ rfl)
  have b4 := fun p : Later w0 => p.cell (B.cell 4 _ rfl)
  refine wp_region_rel' 6 (by kernel_rfl) (by kernel_rfl) (fun Fin hFin => ?_)
  simp only [List.take_succ_cons, List.take_zero]
  repeat (refine relGo_p (fun K hK => ?_); go_simp; refine hK _ ?_; clear hK K)
  refine relGo_q (.float .f64 x) ?_ (fun K hK => ?_)
  · intro w' hw'
    go_simp
    refine (asfloat_any _ _ _ _ _ _).mono ?_
    rintro e w'' ⟨rfl, h⟩
    rw [HX.out]
    exact ⟨rfl, h⟩
  go_simp
  refine hK _ ?_
  clear hK K
  repeat (refine relGo_p (fun K hK => ?_); go_simp; refine hK _ ?_; clear hK K)
  refine relGo_q (.float .f64 y) ?_ (fun K hK => ?_)
  · intro w' hw'
    go_simp
    refine (asfloat_any _ _ _ _ _ _).mono ?_
    rintro e w'' ⟨rfl, h⟩
    rw [HY.out]
    exact ⟨rfl, h⟩
  go_simp
  refine hK _ ?_
  clear hK K
  repeat (refine relGo_p (fun K hK => ?_); go_simp; refine hK _ ?_; clear hK K)
  refine hFin _ _ (fun w1 hw1 => ?_)
  clear hFin Fin
  simp only [fillE, List.drop_succ_cons, List.drop_nil]
  have V1 := V.ext hw1
  have hx1 := hw0.trans hw1
  clear hw1 hw0 V A B a0 a1 a2 a3 a4 b0 b1 b2 b3 b4
  cases hr : floatBits .add .f64 x y with
  | some r =>
    have hc : canon r = fop .add x y := fop_some hr
    have hrun : (binOp .add 22 (.float .f64 x) (.float .f64 y)).run Try.prog w1 = .ok (.float .f64 r) w1 := run_float_arith w1 _ _ _ _ _ _ hr
    have HC := Lib.hid hc
    clear hc hr
    go_wp2_with fail
    refine (float_is _ _).mono ?_
    rintro e w2 ⟨rfl, hw2⟩
    rw [HC.out]
    have V := V1.ext hw2
    have hw := hx1.trans hw2
    obtain ⟨c0, c1, c2, c3, c4⟩ := V.pack
    have z := V.free
    clear V1 hx1 hw2 hrun
    go_wp2
    have V5 := V.put 2 0 (fop .add x y) ⟨#[]⟩ (.slice none 0 0)
    have h5 := hw.put5 (Nat.le_add_right _ 2) 2 0 (fop .add x y) ⟨#[]⟩ (.slice none 0 0)
    clear c0 c1 c2 c3 c4 z V
    revert V5 h5
    generalize World.setCell _ _ _ = w5
    intro V5 h5
    obtain ⟨c0, c1, c2, c3, c4⟩ := V5.pack
    try simp only [Exit.inBlock, Exit.then]
    refine bodyPost_ret (by simp [results, Try.results28, go_sem, c0, c1, c2, c3, c4]; try rfl) rfl ?_
    exact ⟨rfl, h5⟩
  | none =>
    have hc : canon (drawnNaN w1 x y) = fop .add x y := fop_none hr w1
    have hrun : (binOp .add 22 (.float .f64 x) (.float .f64 y)).run Try.prog w1 = .ok (.float .f64 (drawnNaN w1 x y)) w1.drew := run_float_nan w1 _ _ _ _ (by simp) hr
    have HC := Lib.hid hc
    clear hc hr
    go_wp2_with fail
    replace V1 := V1.ext (Ext.refl w1).drew
    replace hx1 := hx1.drew
    refine (float_is _ _).mono ?_
    rintro e w2 ⟨rfl, hw2⟩
    rw [HC.out]
    have V := V1.ext hw2
    have hw := hx1.trans hw2
    obtain ⟨c0, c1, c2, c3, c4⟩ := V.pack
    have z := V.free
    clear V1 hx1 hw2 hrun
    go_wp2
    have V5 := V.put 2 0 (fop .add x y) ⟨#[]⟩ (.slice none 0 0)
    have h5 := hw.put5 (Nat.le_add_right _ 2) 2 0 (fop .add x y) ⟨#[]⟩ (.slice none 0 0)
    clear c0 c1 c2 c3 c4 z V
    revert V5 h5
    generalize World.setCell _ _ _ = w5
    intro V5 h5
    obtain ⟨c0, c1, c2, c3, c4⟩ := V5.pack
    try simp only [Exit.inBlock, Exit.then]
    refine bodyPost_ret (by simp [results, Try.results28, go_sem, c0, c1, c2, c3, c4]; try rfl) rfl ?_
    exact ⟨rfl, h5⟩

theorem opAdd_any (k i : Int) (hi : inR i) (f : Nat) (s : ByteArray) (L : Value) (k' i' : Int) (hi' : inR i') (f' : Nat) (s' : ByteArray) (L' : Value) (w : World) :
    Calls Try.prog 28 #[.int .u8 43, (.agg #[.int .i64 k, .int .i64 i, .float .f64 f, .string s, L]), (.agg #[.int .i64 k', .int .i64 i', .float .f64 f', .string s', L'])] w (Ret (numOp .add wAdd k i f k' i' f') w) := by
  cases h1 : (k == 1 || k == 2) with
  | false =>
    have e : numOp .add wAdd k i f k' i' f' = .tuple #[numV 0 0 0, .int .i64 31] := by unfold numOp; rw [h1]; rfl
    rw [e]
    exact opAdd_not1 k i f s L k' i' f' s' L' w h1
  | true =>
    cases h2 : (k' == 1 || k' == 2) with
    | false =>
      have e : numOp .add wAdd k i f k' i' f' = .tuple #[numV 0 0 0, .int .i64 31] := by unfold numOp; rw [h1, h2]; rfl
      rw [e]
      exact opAdd_not2 k i f s L k' i' f' s' L' w h1 h2
    | true =>
      cases h3 : (k == 1 && k' == 1) with
      | true =>
        have e : numOp .add wAdd k i f k' i' f' = vInt (wAdd i i') := by unfold numOp; rw [h1, h2, h3]; rfl
        rw [e]
        simp only [Bool.and_eq_true, beq_iff_eq] at h3
        obtain ⟨rfl, rfl⟩ := h3
        exact opAdd_ints i hi f s L i' hi' f' s' L' w
      | false =>
        have e : numOp .add wAdd k i f k' i' f' = .tuple #[numV 2 0 (fop .add (asF k i f) (asF k' i' f')), .int .i64 0] := by unfold numOp; rw [h1, h2, h3]; rfl
        rw [e]
        clear e
        have g : k = 2 ∨ (k = 1 ∧ k' = 2) := by
          simp at h1 h2 h3
          omega
        rcases g with rfl | ⟨rfl, rfl⟩
        · exact opAdd_flt1 i f s L k' i' f' s' L' w h2
        · exact opAdd_flt2 i f s L i' f' s' L' w

set_option maxRecDepth 100000 in
set_option maxHeartbeats 2000000 in
theorem opSub_not1 (k i : Int) (f : Nat) (s : ByteArray) (L : Value) (k' i' : Int) (f' : Nat) (s' : ByteArray) (L' : Value) (w : World) (h1 : (k == 1 || k == 2) = false) :
    Calls Try.prog 28 #[.int .u8 45, (.agg #[.int .i64 k, .int .i64 i, .float .f64 f, .string s, L]), (.agg #[.int .i64 k', .int .i64 i', .float .f64 f', .string s', L'])] w (Ret (.tuple #[numV 0 0 0, .int .i64 31]) w) := by
  go_enter Try.func28, Try.ntmps28
  go_wp2_with (go_at_call 21; refine (number_exact _ _ _ _ _ _).mono ?_; rintro e w' ⟨rfl, rfl⟩)
  go_returns
  exact ⟨rfl, (((((Ext.refl _).alloc _).alloc _).alloc _).alloc _)⟩

set_option maxRecDepth 100000 in
set_option maxHeartbeats 2000000 in
theorem opSub_not2 (k i : Int) (f : Nat) (s : ByteArray) (L : Value) (k' i' : Int) (f' : Nat) (s' : ByteArray) (L' : Value) (w : World) (h1 : (k == 1 || k == 2) = true) (h2 : (k' == 1 || k' == 2) = false) :
    Calls Try.prog 28 #[.int .u8 45, (.agg #[.int .i64 k, .int .i64 i, .float .f64 f, .string s, L]), (.agg #[.int .i64 k', .int .i64 i', .float .f64 f', .string s', L'])] w (Ret (.tuple #[numV 0 0 0, .int .i64 31]) w) := by
  go_enter Try.func28, Try.ntmps28
  go_wp2_with (go_at_call 21; refine (number_exact _ _ _ _ _ _).mono ?_; rintro e w' ⟨rfl, rfl⟩)
  go_returns
  exact ⟨rfl, ((((((Ext.refl _).alloc _).alloc _).alloc _).alloc _).alloc _)⟩

set_option maxRecDepth 100000 in
set_option maxHeartbeats 2000000 in
theorem opSub_ints (i : Int) (hi : inR i) (f : Nat) (s : ByteArray) (L : Value) (i' : Int) (hi' : inR i') (f' : Nat) (s' : ByteArray) (L' : Value) (w : World) :
    Calls Try.prog 28 #[.int .u8 45, (.agg #[.int .i64 1, .int .i64 i, .float .f64 f, .string s, L]), (.agg #[.int .i64 1, .int .i64 i', .float .f64 f', .string s', L'])] w (Ret (vInt (wSub i i')) w) := by
  obtain ⟨hw0, A, B, V0⟩ := five w 1 i f s L 1 i' f' s' L' (.cells #[.int .i64 1, .int .i64 i, .float .f64 f, .string s, L] 31) (.cells #[.int .i64 1, .int .i64 i', .float .f64 f', .string s', L'] 31)
  go_enter Try.func28, Try.ntmps28
  go_wp2_with (go_at_call 21; refine (number_exact _ _ _ _ _ _).mono ?_; rintro e w' ⟨rfl, rfl⟩)
  refine (intsSub_any _ _ hi hi' _).mono ?_
  rintro e w' ⟨n, ok, rfl, hr, hx⟩
  have HR := Lib.hid hr
  clear hr
  have V := V0.ext hx
  have hw := hw0.trans hx
  clear V0 hw0 hx A B
  cases ok with
  | true =>
    go_wp2_with fail
    refine (rint_any _ _).mono ?_
    rintro e w1 ⟨rfl, hx1⟩
    have V1 := V.ext hx1
    have hw1 := hw.trans hx1
    obtain ⟨c0, c1, c2, c3, c4⟩ := V1.pack
    have z := V1.free
    clear V hw hx1
    go_wp2
    have V5 := V1.put 1 n 0 ⟨#[]⟩ (.slice none 0 0)
    have h5 := hw1.put5 (Nat.le_add_right _ 2) 1 n 0 ⟨#[]⟩ (.slice none 0 0)
    clear c0 c1 c2 c3 c4 z V1
    revert V5 h5
    generalize World.setCell _ _ _ = w5
    intro V5 h5
    obtain ⟨c0, c1, c2, c3, c4⟩ := V5.pack
    refine bodyPost_ret (by simp [results, Try.results28, go_sem, c0, c1, c2, c3, c4]; try rfl) rfl ?_
    exact ⟨by rw [← HR.out]; rfl, h5⟩
  | false =>
    obtain ⟨c0, c1, c2, c3, c4⟩ := V.pack
    have z := V.free
    go_wp2
    have V5 := V.put 0 0 0 ⟨#[]⟩ (.slice none 0 0)
    have h5 := hw.put5 (Nat.le_add_right _ 2) 0 0 0 ⟨#[]⟩ (.slice none 0 0)
    clear c0 c1 c2 c3 c4 z V
    revert V5 h5
    generalize World.setCell _ _ _ = w5
    intro V5 h5
    obtain ⟨c0, c1, c2, c3, c4⟩ := V5.pack
    refine bodyPost_ret (by simp [results, Try.results28, go_sem, c0, c1, c2, c3, c4]; try rfl) rfl ?_
    exact ⟨by rw [← HR.out]; rfl, h5⟩

set_option maxRecDepth 100000 in
set_option maxHeartbeats 2000000 in
theorem opSub_flt1 (i : Int) (f : Nat) (s : ByteArray) (L : Value) (k' i' : Int) (f' : Nat) (s' : ByteArray) (L' : Value) (w : World) (h2 : (k' == 1 || k' == 2) = true) :
    Calls Try.prog 28 #[.int .u8 45, (.agg #[.int .i64 2, .int .i64 i, .float .f64 f, .string s, L]), (.agg #[.int .i64 k', .int .i64 i', .float .f64 f', .string s', L'])] w (Ret (.tuple #[numV 2 0 (fop .sub (asF 2 i f) (asF k' i' f')), .int .i64 0]) w) := by
  obtain ⟨hw0, A, B, V⟩ := five w 2 i f s L k' i' f' s' L' (.cells #[.int .i64 2, .int .i64 i, .float .f64 f, .string s, L] 31) (.cells #[.int .i64 k', .int .i64 i', .float .f64 f', .string s', L'] 31)
  obtain ⟨x, HX⟩ : ∃ x, Hid (asF 2 i f = x) := ⟨_, Lib.hid rfl⟩
  obtain ⟨y, HY⟩ : ∃ y, Hid (asF k' i' f' = y) := ⟨_, Lib.hid rfl⟩
  have eN : numV 2 0 (fop .sub (asF 2 i f) (asF k' i' f')) = numV 2 0 (fop .sub x y) := by rw [HX.out, HY.out]
  rw [eN]
  clear eN
  go_enter Try.func28, Try.ntmps28
  go_wp2_with (go_at_call 21; refine (number_exact _ _ _ _ _ _).mono ?_; rintro e w' ⟨rfl, rfl⟩)
  revert hw0 A B V
  generalize World.alloc _ _ = w0
  intro hw0 A B V
  have a0 := fun p : Later w0 => p.cell (A.cell 0 _ rfl)
  have a1 := fun p : Later w0 => p.cell (A.cell 1 _ rfl)
  have a2 := fun p : Later w0 => p.cell (A.cell 2 _ rfl)
  have a3 := fun p : Later w0 => p.cell (A.cell 3 _ rfl)
  have a4 := fun p : Later w0 => p.cell (A.cell 4 _ rfl)
  have b0 := fun p : Later w0 => p.cell (B.cell 0 _ rfl)
  have b1 := fun p : Later w0 => p.cell (B.cell 1 _ rfl)
  have b2 := fun p : Later w0 => p.cell (B.cell 2 _ rfl)
  have b3 := fun p : Later w0 => p.cell (B.cell 3 _ rfl)
  have b4 := fun p : Later w0 => p.cell (B.cell 4 _ rfl)
  refine wp_region_rel' 6 (by kernel_rfl) (by kernel_rfl) (fun Fin hFin => ?_)
  simp only [List.take_succ_cons, List.take_zero]
  repeat (refine relGo_p (fun K hK => ?_); go_simp; refine hK _ ?_; clear hK K)
  refine relGo_q (.float .f64 x) ?_ (fun K hK => ?_)
  · intro w' hw'
    go_simp
    refine (asfloat_any _ _ _ _ _ _).mono ?_
    rintro e w'' ⟨rfl, h⟩
    rw [HX.out]
    exact ⟨rfl, h⟩
  go_simp
  refine hK _ ?_
  clear hK K
  repeat (refine relGo_p (fun K hK => ?_); go_simp; refine hK _ ?_; clear hK K)
  refine relGo_q (.float .f64 y) ?_ (fun K hK => ?_)
  · intro w' hw'
    go_simp
    refine (asfloat_any _ _ _ _ _ _).mono ?_
    rintro e w'' ⟨rfl, h⟩
    rw [HY.out]
    exact ⟨rfl, h⟩
  go_simp
  refine hK _ ?_
  clear hK K
  repeat (refine relGo_p (fun K hK => ?_); go_simp; refine hK _ ?_; clear hK K)
  refine hFin _ _ (fun w1 hw1 => ?_)
  clear hFin Fin
  simp only [fillE, List.drop_succ_cons, List.drop_nil]
  have V1 := V.ext hw1
  have hx1 := hw0.trans hw1
  clear hw1 hw0 V A B a0 a1 a2 a3 a4 b0 b1 b2 b3 b4
  cases hr : floatBits .sub .f64 x y with
  | some r =>
    have hc : canon r = fop .sub x y := fop_some hr
    have hrun : (binOp .sub 22 (.float .f64 x) (.float .f64 y)).run Try.prog w1 = .ok (.float .f64 r) w1 := run_float_arith w1 _ _ _ _ _ _ hr
    have HC := Lib.hid hc
    clear hc hr
    go_wp2_with fail
    refine (float_is _ _).mono ?_
    rintro e w2 ⟨rfl, hw2⟩
    rw [HC.out]
    have V := V1.ext hw2
    have hw := hx1.trans hw2
    obtain ⟨c0, c1, c2, c3, c4⟩ := V.pack
    have z := V.free
    clear V1 hx1 hw2 hrun
    go_wp2
    have V5 := V.put 2 0 (fop .sub x y) ⟨#[]⟩ (.slice none 0 0)
    have h5 := hw.put5 (Nat.le_add_right _ 2) 2 0 (fop .sub x y) ⟨#[]⟩ (.slice none 0 0)
    clear c0 c1 c2 c3 c4 z V
    revert V5 h5
    generalize World.setCell _ _ _ = w5
    intro V5 h5
    obtain ⟨c0, c1, c2, c3, c4⟩ := V5.pack
    try simp only [Exit.inBlock, Exit.then]
    refine bodyPost_ret (by simp [results, Try.results28, go_sem, c0, c1, c2, c3, c4]; try rfl) rfl ?_
    exact ⟨rfl, h5⟩
  | none =>
    have hc : canon (drawnNaN w1 x y) = fop .sub x y := fop_none hr w1
    have hrun : (binOp .sub 22 (.float .f64 x) (.float .f64 y)).run Try.prog w1 = .ok (.float .f64 (drawnNaN w1 x y)) w1.drew := run_float_nan w1 _ _ _ _ (by simp) hr
    have HC := Lib.hid hc
    clear hc hr
    go_wp2_with fail
    replace V1 := V1.ext (Ext.refl w1).drew
    replace hx1 := hx1.drew
    refine (float_is _ _).mono ?_
    rintro e w2 ⟨rfl, hw2⟩
    rw [HC.out]
    have V := V1.ext hw2
    have hw := hx1.trans hw2
    obtain ⟨c0, c1, c2, c3, c4⟩ := V.pack
    have z := V.free
    clear V1 hx1 hw2 hrun
    go_wp2
    have V5 := V.put 2 0 (fop .sub x y) ⟨#[]⟩ (.slice none 0 0)
    have h5 := hw.put5 (Nat.le_add_right _ 2) 2 0 (fop .sub x y) ⟨#[]⟩ (.slice none 0 0)
    clear c0 c1 c2 c3 c4 z V
    revert V5 h5
    generalize World.setCell _ _ _ = w5
    intro V5 h5
    obtain ⟨c0, c1, c2, c3, c4⟩ := V5.pack
    try simp only [Exit.inBlock, Exit.then]
    refine bodyPost_ret (by simp [results, Try.results28, go_sem, c0, c1, c2, c3, c4]; try rfl) rfl ?_
    exact ⟨rfl, h5⟩

set_option maxRecDepth 100000 in
set_option maxHeartbeats 2000000 in
theorem opSub_flt2 (i : Int) (f : Nat) (s : ByteArray) (L : Value) (i' : Int) (f' : Nat) (s' : ByteArray) (L' : Value) (w : World) :
    Calls Try.prog 28 #[.int .u8 45, (.agg #[.int .i64 1, .int .i64 i, .float .f64 f, .string s, L]), (.agg #[.int .i64 2, .int .i64 i', .float .f64 f', .string s', L'])] w (Ret (.tuple #[numV 2 0 (fop .sub (asF 1 i f) (asF 2 i' f')), .int .i64 0]) w) := by
  obtain ⟨hw0, A, B, V⟩ := five w 1 i f s L 2 i' f' s' L' (.cells #[.int .i64 1, .int .i64 i, .float .f64 f, .string s, L] 31) (.cells #[.int .i64 2, .int .i64 i', .float .f64 f', .string s', L'] 31)
  obtain ⟨x, HX⟩ : ∃ x, Hid (asF 1 i f = x) := ⟨_, Lib.hid rfl⟩
  obtain ⟨y, HY⟩ : ∃ y, Hid (asF 2 i' f' = y) := ⟨_, Lib.hid rfl⟩
  have eN : numV 2 0 (fop .sub (asF 1 i f) (asF 2 i' f')) = numV 2 0 (fop .sub x y) := by rw [HX.out, HY.out]
  rw [eN]
  clear eN
  go_enter Try.func28, Try.ntmps28
  go_wp2_with (go_at_call 21; refine (number_exact _ _ _ _ _ _).mono ?_; rintro e w' ⟨rfl, rfl⟩)
  revert hw0 A B V
  generalize World.alloc _ _ = w0
  intro hw0 A B V
  have a0 := fun p : Later w0 => p.cell (A.cell 0 _ rfl)
  have a1 := fun p : Later w0 => p.cell (A.cell 1 _ rfl)
  have a2 := fun p : Later w0 => p.cell (A.cell 2 _ rfl)
  have a3 := fun p : Later w0 => p.cell (A.cell 3 _ rfl)
  have a4 := fun p : Later w0 => p.cell (A.cell 4 _ rfl)
  have b0 := fun p : Later w0 => p.cell (B.cell 0 _ rfl)
  have b1 := fun p : Later w0 => p.cell (B.cell 1 _ rfl)
  have b2 := fun p : Later w0 => p.cell (B.cell 2 _ rfl)
  have b3 := fun p : Later w0 => p.cell (B.cell 3 _ rfl)
  have b4 := fun p : Later w0 => p.cell (B.cell 4 _ rfl)
  refine wp_region_rel' 6 (by kernel_rfl) (by kernel_rfl) (fun Fin hFin => ?_)
  simp only [List.take_succ_cons, List.take_zero]
  repeat (refine relGo_p (fun K hK => ?_); go_simp; refine hK _ ?_; clear hK K)
  refine relGo_q (.float .f64 x) ?_ (fun K hK => ?_)
  · intro w' hw'
    go_simp
    refine (asfloat_any _ _ _ _ _ _).mono ?_
    rintro e w'' ⟨rfl, h⟩
    rw [HX.out]
    exact ⟨rfl, h⟩
  go_simp
  refine hK _ ?_
  clear hK K
  repeat (refine relGo_p (fun K hK => ?_); go_simp; refine hK _ ?_; clear hK K)
  refine relGo_q (.float .f64 y) ?_ (fun K hK => ?_)
  · intro w' hw'
    go_simp
    refine (asfloat_any _ _ _ _ _ _).mono ?_
    rintro e w'' ⟨rfl, h⟩
    rw [HY.out]
    exact ⟨rfl, h⟩
  go_simp
  refine hK _ ?_
  clear hK K
  repeat (refine relGo_p (fun K hK => ?_); go_simp; refine hK _ ?_; clear hK K)
  refine hFin _ _ (fun w1 hw1 => ?_)
  clear hFin Fin
  simp only [fillE, List.drop_succ_cons, List.drop_nil]
  have V1 := V.ext hw1
  have hx1 := hw0.trans hw1
  clear hw1 hw0 V A B a0 a1 a2 a3 a4 b0 b1 b2 b3 b4
  cases hr : floatBits .sub .f64 x y with
  | some r =>
    have hc : canon r = fop .sub x y := fop_some hr
    have hrun : (binOp .sub 22 (.float .f64 x) (.float .f64 y)).run Try.prog w1 = .ok (.float .f64 r) w1 := run_float_arith w1 _ _ _ _ _ _ hr
    have HC := Lib.hid hc
    clear hc hr
    go_wp2_with fail
    refine (float_is _ _).mono ?_
    rintro e w2 ⟨rfl, hw2⟩
    rw [HC.out]
    have V := V1.ext hw2
    have hw := hx1.trans hw2
    obtain ⟨c0, c1, c2, c3, c4⟩ := V.pack
    have z := V.free
    clear V1 hx1 hw2 hrun
    go_wp2
    have V5 := V.put 2 0 (fop .sub x y) ⟨#[]⟩ (.slice none 0 0)
    have h5 := hw.put5 (Nat.le_add_right _ 2) 2 0 (fop .sub x y) ⟨#[]⟩ (.slice none 0 0)
    clear c0 c1 c2 c3 c4 z V
    revert V5 h5
    generalize World.setCell _ _ _ = w5
    intro V5 h5
    obtain ⟨c0, c1, c2, c3, c4⟩ := V5.pack
    try simp only [Exit.inBlock, Exit.then]
    refine bodyPost_ret (by simp [results, Try.results28, go_sem, c0, c1, c2, c3, c4]; try rfl) rfl ?_
    exact ⟨rfl, h5⟩
  | none =>
    have hc : canon (drawnNaN w1 x y) = fop .sub x y := fop_none hr w1
    have hrun : (binOp .sub 22 (.float .f64 x) (.float .f64 y)).run Try.prog w1 = .ok (.float .f64 (drawnNaN w1 x y)) w1.drew := run_float_nan w1 _ _ _ _ (by simp) hr
    have HC := Lib.hid hc
    clear hc hr
    go_wp2_with fail
    replace V1 := V1.ext (Ext.refl w1).drew
    replace hx1 := hx1.drew
    refine (float_is _ _).mono ?_
    rintro e w2 ⟨rfl, hw2⟩
    rw [HC.out]
    have V := V1.ext hw2
    have hw := hx1.trans hw2
    obtain ⟨c0, c1, c2, c3, c4⟩ := V.pack
    have z := V.free
    clear V1 hx1 hw2 hrun
    go_wp2
    have V5 := V.put 2 0 (fop .sub x y) ⟨#[]⟩ (.slice none 0 0)
    have h5 := hw.put5 (Nat.le_add_right _ 2) 2 0 (fop .sub x y) ⟨#[]⟩ (.slice none 0 0)
    clear c0 c1 c2 c3 c4 z V
    revert V5 h5
    generalize World.setCell _ _ _ = w5
    intro V5 h5
    obtain ⟨c0, c1, c2, c3, c4⟩ := V5.pack
    try simp only [Exit.inBlock, Exit.then]
    refine bodyPost_ret (by simp [results, Try.results28, go_sem, c0, c1, c2, c3, c4]; try rfl) rfl ?_
    exact ⟨rfl, h5⟩

theorem opSub_any (k i : Int) (hi : inR i) (f : Nat) (s : ByteArray) (L : Value) (k' i' : Int) (hi' : inR i') (f' : Nat) (s' : ByteArray) (L' : Value) (w : World) :
    Calls Try.prog 28 #[.int .u8 45, (.agg #[.int .i64 k, .int .i64 i, .float .f64 f, .string s, L]), (.agg #[.int .i64 k', .int .i64 i', .float .f64 f', .string s', L'])] w (Ret (numOp .sub wSub k i f k' i' f') w) := by
  cases h1 : (k == 1 || k == 2) with
  | false =>
    have e : numOp .sub wSub k i f k' i' f' = .tuple #[numV 0 0 0, .int .i64 31] := by unfold numOp; rw [h1]; rfl
    rw [e]
    exact opSub_not1 k i f s L k' i' f' s' L' w h1
  | true =>
    cases h2 : (k' == 1 || k' == 2) with
    | false =>
      have e : numOp .sub wSub k i f k' i' f' = .tuple #[numV 0 0 0, .int .i64 31] := by unfold numOp; rw [h1, h2]; rfl
      rw [e]
      exact opSub_not2 k i f s L k' i' f' s' L' w h1 h2
    | true =>
      cases h3 : (k == 1 && k' == 1) with
      | true =>
        have e : numOp .sub wSub k i f k' i' f' = vInt (wSub i i') := by unfold numOp; rw [h1, h2, h3]; rfl
        rw [e]
        simp only [Bool.and_eq_true, beq_iff_eq] at h3
        obtain ⟨rfl, rfl⟩ := h3
        exact opSub_ints i hi f s L i' hi' f' s' L' w
      | false =>
        have e : numOp .sub wSub k i f k' i' f' = .tuple #[numV 2 0 (fop .sub (asF k i f) (asF k' i' f')), .int .i64 0] := by unfold numOp; rw [h1, h2, h3]; rfl
        rw [e]
        clear e
        have g : k = 2 ∨ (k = 1 ∧ k' = 2) := by
          simp at h1 h2 h3
          omega
        rcases g with rfl | ⟨rfl, rfl⟩
        · exact opSub_flt1 i f s L k' i' f' s' L' w h2
        · exact opSub_flt2 i f s L i' f' s' L' w

set_option maxRecDepth 100000 in
set_option maxHeartbeats 2000000 in
theorem opMul_not1 (k i : Int) (f : Nat) (s : ByteArray) (L : Value) (k' i' : Int) (f' : Nat) (s' : ByteArray) (L' : Value) (w : World) (h1 : (k == 1 || k == 2) = false) :
    Calls Try.prog 28 #[.int .u8 42, (.agg #[.int .i64 k, .int .i64 i, .float .f64 f, .string s, L]), (.agg #[.int .i64 k', .int .i64 i', .float .f64 f', .string s', L'])] w (Ret (.tuple #[numV 0 0 0, .int .i64 31]) w) := by
  go_enter Try.func28, Try.ntmps28
  go_wp2_with (go_at_call 21; refine (number_exact _ _ _ _ _ _).mono ?_; rintro e w' ⟨rfl, rfl⟩)
  go_returns
  exact ⟨rfl, (((((Ext.refl _).alloc _).alloc _).alloc _).alloc _)⟩

set_option maxRecDepth 100000 in
set_option maxHeartbeats 2000000 in
theorem opMul_not2 (k i : Int) (f : Nat) (s : ByteArray) (L : Value) (k' i' : Int) (f' : Nat) (s' : ByteArray) (L' : Value) (w : World) (h1 : (k == 1 || k == 2) = true) (h2 : (k' == 1 || k' == 2) = false) :
    Calls Try.prog 28 #[.int .u8 42, (.agg #[.int .i64 k, .int .i64 i, .float .f64 f, .string s, L]), (.agg #[.int .i64 k', .int .i64 i', .float .f64 f', .string s', L'])] w (Ret (.tuple #[numV 0 0 0, .int .i64 31]) w) := by
  go_enter Try.func28, Try.ntmps28
  go_wp2_with (go_at_call 21; refine (number_exact _ _ _ _ _ _).mono ?_; rintro e w' ⟨rfl, rfl⟩)
  go_returns
  exact ⟨rfl, ((((((Ext.refl _).alloc _).alloc _).alloc _).alloc _).alloc _)⟩

set_option maxRecDepth 100000 in
set_option maxHeartbeats 2000000 in
theorem opMul_ints (i : Int) (hi : inR i) (f : Nat) (s : ByteArray) (L : Value) (i' : Int) (hi' : inR i') (f' : Nat) (s' : ByteArray) (L' : Value) (w : World) :
    Calls Try.prog 28 #[.int .u8 42, (.agg #[.int .i64 1, .int .i64 i, .float .f64 f, .string s, L]), (.agg #[.int .i64 1, .int .i64 i', .float .f64 f', .string s', L'])] w (Ret (vInt (wMul i i')) w) := by
  obtain ⟨hw0, A, B, V0⟩ := five w 1 i f s L 1 i' f' s' L' (.cells #[.int .i64 1, .int .i64 i, .float .f64 f, .string s, L] 31) (.cells #[.int .i64 1, .int .i64 i', .float .f64 f', .string s', L'] 31)
  go_enter Try.func28, Try.ntmps28
  go_wp2_with (go_at_call 21; refine (number_exact _ _ _ _ _ _).mono ?_; rintro e w' ⟨rfl, rfl⟩)
  refine (intsMul_any _ _ hi hi' _).mono ?_
  rintro e w' ⟨n, ok, rfl, hr, hx⟩
  have HR := Lib.hid hr
  clear hr
  have V := V0.ext hx
  have hw := hw0.trans hx
  clear V0 hw0 hx A B
  cases ok with
  | true =>
    go_wp2_with fail
    refine (rint_any _ _).mono ?_
    rintro e w1 ⟨rfl, hx1⟩
    have V1 := V.ext hx1
    have hw1 := hw.trans hx1
    obtain ⟨c0, c1, c2, c3, c4⟩ := V1.pack
    have z := V1.free
    clear V hw hx1
    go_wp2
    have V5 := V1.put 1 n 0 ⟨#[]⟩ (.slice none 0 0)
    have h5 := hw1.put5 (Nat.le_add_right _ 2) 1 n 0 ⟨#[]⟩ (.slice none 0 0)
    clear c0 c1 c2 c3 c4 z V1
    revert V5 h5
    generalize World.setCell _ _ _ = w5
    intro V5 h5
    obtain ⟨c0, c1, c2, c3, c4⟩ := V5.pack
    refine bodyPost_ret (by simp [results, Try.results28, go_sem, c0, c1, c2, c3, c4]; try rfl) rfl ?_
    exact ⟨by rw [← HR.out]; rfl, h5⟩
  | false =>
    obtain ⟨c0, c1, c2, c3, c4⟩ := V.pack
    have z := V.free
    go_wp2
    have V5 := V.put 0 0 0 ⟨#[]⟩ (.slice none 0 0)
    have h5 := hw.put5 (Nat.le_add_right _ 2) 0 0 0 ⟨#[]⟩ (.slice none 0 0)
    clear c0 c1 c2 c3 c4 z V
    revert V5 h5
    generalize World.setCell _ _ _ = w5
    intro V5 h5
    obtain ⟨c0, c1, c2, c3, c4⟩ := V5.pack
    refine bodyPost_ret (by simp [results, Try.results28, go_sem, c0, c1, c2, c3, c4]; try rfl) rfl ?_
    exact ⟨by rw [← HR.out]; rfl, h5⟩

set_option maxRecDepth 100000 in
set_option maxHeartbeats 2000000 in
theorem opMul_flt1 (i : Int) (f : Nat) (s : ByteArray) (L : Value) (k' i' : Int) (f' : Nat) (s' : ByteArray) (L' : Value) (w : World) (h2 : (k' == 1 || k' == 2) = true) :
    Calls Try.prog 28 #[.int .u8 42, (.agg #[.int .i64 2, .int .i64 i, .float .f64 f, .string s, L]), (.agg #[.int .i64 k', .int .i64 i', .float .f64 f', .string s', L'])] w (Ret (.tuple #[numV 2 0 (fop .mul (asF 2 i f) (asF k' i' f')), .int .i64 0]) w) := by
  obtain ⟨hw0, A, B, V⟩ := five w 2 i f s L k' i' f' s' L' (.cells #[.int .i64 2, .int .i64 i, .float .f64 f, .string s, L] 31) (.cells #[.int .i64 k', .int .i64 i', .float .f64 f', .string s', L'] 31)
  obtain ⟨x, HX⟩ : ∃ x, Hid (asF 2 i f = x) := ⟨_, Lib.hid rfl⟩
  obtain ⟨y, HY⟩ : ∃ y, Hid (asF k' i' f' = y) := ⟨_, Lib.hid rfl⟩
  have eN : numV 2 0 (fop .mul (asF 2 i f) (asF k' i' f')) = numV 2 0 (fop .mul x y) := by rw [HX.out, HY.out]
  rw [eN]
  clear eN
  go_enter Try.func28, Try.ntmps28
  go_wp2_with (go_at_call 21; refine (number_exact _ _ _ _ _ _).mono ?_; rintro e w' ⟨rfl, rfl⟩)
  revert hw0 A B V
  generalize World.alloc _ _ = w0
  intro hw0 A B V
  have a0 := fun p : Later w0 => p.cell (A.cell 0 _ rfl)
  have a1 := fun p : Later w0 => p.cell (A.cell 1 _ rfl)
  have a2 := fun p : Later w0 => p.cell (A.cell 2 _ rfl)
  have a3 := fun p : Later w0 => p.cell (A.cell 3 _ rfl)
  have a4 := fun p : Later w0 => p.cell (A.cell 4 _ rfl)
  have b0 := fun p : Later w0 => p.cell (B.cell 0 _ rfl)
  have b1 := fun p : Later w0 => p.cell (B.cell 1 _ rfl)
  have b2 := fun p : Later w0 => p.cell (B.cell 2 _ rfl)
  have b3 := fun p : Later w0 => p.cell (B.cell 3 _ rfl)
  have b4 := fun p : Later w0 => p.cell (B.cell 4 _ rfl)
  refine wp_region_rel' 6 (by kernel_rfl) (by kernel_rfl) (fun Fin hFin => ?_)
  simp only [List.take_succ_cons, List.take_zero]
  repeat (refine relGo_p (fun K hK => ?_); go_simp; refine hK _ ?_; clear hK K)
  refine relGo_q (.float .f64 x) ?_ (fun K hK => ?_)
  · intro w' hw'
    go_simp
    refine (asfloat_any _ _ _ _ _ _).mono ?_
    rintro e w'' ⟨rfl, h⟩
    rw [HX.out]
    exact ⟨rfl, h⟩
  go_simp
  refine hK _ ?_
  clear hK K
  repeat (refine relGo_p (fun K hK => ?_); go_simp; refine hK _ ?_; clear hK K)
  refine relGo_q (.float .f64 y) ?_ (fun K hK => ?_)
  · intro w' hw'
    go_simp
    refine (asfloat_any _ _ _ _ _ _).mono ?_
    rintro e w'' ⟨rfl, h⟩
    rw [HY.out]
    exact ⟨rfl, h⟩
  go_simp
  refine hK _ ?_
  clear hK K
  repeat (refine relGo_p (fun K hK => ?_); go_simp; refine hK _ ?_; clear hK K)
  refine hFin _ _ (fun w1 hw1 => ?_)
  clear hFin Fin
  simp only [fillE, List.drop_succ_cons, List.drop_nil]
  have V1 := V.ext hw1
  have hx1 := hw0.trans hw1
  clear hw1 hw0 V A B a0 a1 a2 a3 a4 b0 b1 b2 b3 b4
  cases hr : floatBits .mul .f64 x y with
  | some r =>
    have hc : canon r = fop .mul x y := fop_some hr
    have hrun : (binOp .mul 22 (.float .f64 x) (.float .f64 y)).run Try.prog w1 = .ok (.float .f64 r) w1 := run_float_arith w1 _ _ _ _ _ _ hr
    have HC := Lib.hid hc
    clear hc hr
    go_wp2_with fail
    refine (float_is _ _).mono ?_
    rintro e w2 ⟨rfl, hw2⟩
    rw [HC.out]
    have V := V1.ext hw2
    have hw := hx1.trans hw2
    obtain ⟨c0, c1, c2, c3, c4⟩ := V.pack
    have z := V.free
    clear V1 hx1 hw2 hrun
    go_wp2
    have V5 := V.put 2 0 (fop .mul x y) ⟨#[]⟩ (.slice none 0 0)
    have h5 := hw.put5 (Nat.le_add_right _ 2) 2 0 (fop .mul x y) ⟨#[]⟩ (.slice none 0 0)
    clear c0 c1 c2 c3 c4 z V
    revert V5 h5
    generalize World.setCell _ _ _ = w5
    intro V5 h5
    obtain ⟨c0, c1, c2, c3, c4⟩ := V5.pack
    try simp only [Exit.inBlock, Exit.then]
    refine bodyPost_ret (by simp [results, Try.results28, go_sem, c0, c1, c2, c3, c4]; try rfl) rfl ?_
    exact ⟨rfl, h5⟩
  | none =>
    have hc : canon (drawnNaN w1 x y) = fop .mul x y := fop_none hr w1
    have hrun : (binOp .mul 22 (.float .f64 x) (.float .f64 y)).run Try.prog w1 = .ok (.float .f64 (drawnNaN w1 x y)) w1.drew := run_float_nan w1 _ _ _ _ (by simp) hr
    have HC := Lib.hid hc
    clear hc hr
    go_wp2_with fail
    replace V1 := V1.ext (Ext.refl w1).drew
    replace hx1 := hx1.drew
    refine (float_is _ _).mono ?_
    rintro e w2 ⟨rfl, hw2⟩
    rw [HC.out]
    have V := V1.ext hw2
    have hw := hx1.trans hw2
    obtain ⟨c0, c1, c2, c3, c4⟩ := V.pack
    have z := V.free
    clear V1 hx1 hw2 hrun
    go_wp2
    have V5 := V.put 2 0 (fop .mul x y) ⟨#[]⟩ (.slice none 0 0)
    have h5 := hw.put5 (Nat.le_add_right _ 2) 2 0 (fop .mul x y) ⟨#[]⟩ (.slice none 0 0)
    clear c0 c1 c2 c3 c4 z V
    revert V5 h5
    generalize World.setCell _ _ _ = w5
    intro V5 h5
    obtain ⟨c0, c1, c2, c3, c4⟩ := V5.pack
    try simp only [Exit.inBlock, Exit.then]
    refine bodyPost_ret (by simp [results, Try.results28, go_sem, c0, c1, c2, c3, c4]; try rfl) rfl ?_
    exact ⟨rfl, h5⟩

set_option maxRecDepth 100000 in
set_option maxHeartbeats 2000000 in
theorem opMul_flt2 (i : Int) (f : Nat) (s : ByteArray) (L : Value) (i' : Int) (f' : Nat) (s' : ByteArray) (L' : Value) (w : World) :
    Calls Try.prog 28 #[.int .u8 42, (.agg #[.int .i64 1, .int .i64 i, .float .f64 f, .string s, L]), (.agg #[.int .i64 2, .int .i64 i', .float .f64 f', .string s', L'])] w (Ret (.tuple #[numV 2 0 (fop .mul (asF 1 i f) (asF 2 i' f')), .int .i64 0]) w) := by
  obtain ⟨hw0, A, B, V⟩ := five w 1 i f s L 2 i' f' s' L' (.cells #[.int .i64 1, .int .i64 i, .float .f64 f, .string s, L] 31) (.cells #[.int .i64 2, .int .i64 i', .float .f64 f', .string s', L'] 31)
  obtain ⟨x, HX⟩ : ∃ x, Hid (asF 1 i f = x) := ⟨_, Lib.hid rfl⟩
  obtain ⟨y, HY⟩ : ∃ y, Hid (asF 2 i' f' = y) := ⟨_, Lib.hid rfl⟩
  have eN : numV 2 0 (fop .mul (asF 1 i f) (asF 2 i' f')) = numV 2 0 (fop .mul x y) := by rw [HX.out, HY.out]
  rw [eN]
  clear eN
  go_enter Try.func28, Try.ntmps28
  go_wp2_with (go_at_call 21; refine (number_exact _ _ _ _ _ _).mono ?_; rintro e w' ⟨rfl, rfl⟩)
  revert hw0 A B V
  generalize World.alloc _ _ = w0
  intro hw0 A B V
  have a0 := fun p : Later w0 => p.cell (A.cell 0 _ rfl)
  have a1 := fun p : Later w0 => p.cell (A.cell 1 _ rfl)
  have a2 := fun p : Later w0 => p.cell (A.cell 2 _ rfl)
  have a3 := fun p : Later w0 => p.cell (A.cell 3 _ rfl)
  have a4 := fun p : Later w0 => p.cell (A.cell 4 _ rfl)
  have b0 := fun p : Later w0 => p.cell (B.cell 0 _ rfl)
  have b1 := fun p : Later w0 => p.cell (B.cell 1 _ rfl)
  have b2 := fun p : Later w0 => p.cell (B.cell 2 _ rfl)
  have b3 := fun p : Later w0 => p.cell (B.cell 3 _ rfl)
  have b4 := fun p : Later w0 => p.cell (B.cell 4 _ rfl)
  refine wp_region_rel' 6 (by kernel_rfl) (by kernel_rfl) (fun Fin hFin => ?_)
  simp only [List.take_succ_cons, List.take_zero]
  repeat (refine relGo_p (fun K hK => ?_); go_simp; refine hK _ ?_; clear hK K)
  refine relGo_q (.float .f64 x) ?_ (fun K hK => ?_)
  · intro w' hw'
    go_simp
    refine (asfloat_any _ _ _ _ _ _).mono ?_
    rintro e w'' ⟨rfl, h⟩
    rw [HX.out]
    exact ⟨rfl, h⟩
  go_simp
  refine hK _ ?_
  clear hK K
  repeat (refine relGo_p (fun K hK => ?_); go_simp; refine hK _ ?_; clear hK K)
  refine relGo_q (.float .f64 y) ?_ (fun K hK => ?_)
  · intro w' hw'
    go_simp
    refine (asfloat_any _ _ _ _ _ _).mono ?_
    rintro e w'' ⟨rfl, h⟩
    rw [HY.out]
    exact ⟨rfl, h⟩
  go_simp
  refine hK _ ?_
  clear hK K
  repeat (refine relGo_p (fun K hK => ?_); go_simp; refine hK _ ?_; clear hK K)
  refine hFin _ _ (fun w1 hw1 => ?_)
  clear hFin Fin
  simp only [fillE, List.drop_succ_cons, List.drop_nil]
  have V1 := V.ext hw1
  have hx1 := hw0.trans hw1
  clear hw1 hw0 V A B a0 a1 a2 a3 a4 b0 b1 b2 b3 b4
  cases hr : floatBits .mul .f64 x y with
  | some r =>
    have hc : canon r = fop .mul x y := fop_some hr
    have hrun : (binOp .mul 22 (.float .f64 x) (.float .f64 y)).run Try.prog w1 = .ok (.float .f64 r) w1 := run_float_arith w1 _ _ _ _ _ _ hr
    have HC := Lib.hid hc
    clear hc hr
    go_wp2_with fail
    refine (float_is _ _).mono ?_
    rintro e w2 ⟨rfl, hw2⟩
    rw [HC.out]
    have V := V1.ext hw2
    have hw := hx1.trans hw2
    obtain ⟨c0, c1, c2, c3, c4⟩ := V.pack
    have z := V.free
    clear V1 hx1 hw2 hrun
    go_wp2
    have V5 := V.put 2 0 (fop .mul x y) ⟨#[]⟩ (.slice none 0 0)
    have h5 := hw.put5 (Nat.le_add_right _ 2) 2 0 (fop .mul x y) ⟨#[]⟩ (.slice none 0 0)
    clear c0 c1 c2 c3 c4 z V
    revert V5 h5
    generalize World.setCell _ _ _ = w5
    intro V5 h5
    obtain ⟨c0, c1, c2, c3, c4⟩ := V5.pack
    try simp only [Exit.inBlock, Exit.then]
    refine bodyPost_ret (by simp [results, Try.results28, go_sem, c0, c1, c2, c3, c4]; try rfl) rfl ?_
    exact ⟨rfl, h5⟩
  | none =>
    have hc : canon (drawnNaN w1 x y) = fop .mul x y := fop_none hr w1
    have hrun : (binOp .mul 22 (.float .f64 x) (.float .f64 y)).run Try.prog w1 = .ok (.float .f64 (drawnNaN w1 x y)) w1.drew := run_float_nan w1 _ _ _ _ (by simp) hr
    have HC := Lib.hid hc
    clear hc hr
    go_wp2_with fail
    replace V1 := V1.ext (Ext.refl w1).drew
    replace hx1 := hx1.drew
    refine (float_is _ _).mono ?_
    rintro e w2 ⟨rfl, hw2⟩
    rw [HC.out]
    have V := V1.ext hw2
    have hw := hx1.trans hw2
    obtain ⟨c0, c1, c2, c3, c4⟩ := V.pack
    have z := V.free
    clear V1 hx1 hw2 hrun
    go_wp2
    have V5 := V.put 2 0 (fop .mul x y) ⟨#[]⟩ (.slice none 0 0)
    have h5 := hw.put5 (Nat.le_add_right _ 2) 2 0 (fop .mul x y) ⟨#[]⟩ (.slice none 0 0)
    clear c0 c1 c2 c3 c4 z V
    revert V5 h5
    generalize World.setCell _ _ _ = w5
    intro V5 h5
    obtain ⟨c0, c1, c2, c3, c4⟩ := V5.pack
    try simp only [Exit.inBlock, Exit.then]
    refine bodyPost_ret (by simp [results, Try.results28, go_sem, c0, c1, c2, c3, c4]; try rfl) rfl ?_
    exact ⟨rfl, h5⟩

theorem opMul_any (k i : Int) (hi : inR i) (f : Nat) (s : ByteArray) (L : Value) (k' i' : Int) (hi' : inR i') (f' : Nat) (s' : ByteArray) (L' : Value) (w : World) :
    Calls Try.prog 28 #[.int .u8 42, (.agg #[.int .i64 k, .int .i64 i, .float .f64 f, .string s, L]), (.agg #[.int .i64 k', .int .i64 i', .float .f64 f', .string s', L'])] w (Ret (numOp .mul wMul k i f k' i' f') w) := by
  cases h1 : (k == 1 || k == 2) with
  | false =>
    have e : numOp .mul wMul k i f k' i' f' = .tuple #[numV 0 0 0, .int .i64 31] := by unfold numOp; rw [h1]; rfl
    rw [e]
    exact opMul_not1 k i f s L k' i' f' s' L' w h1
  | true =>
    cases h2 : (k' == 1 || k' == 2) with
    | false =>
      have e : numOp .mul wMul k i f k' i' f' = .tuple #[numV 0 0 0, .int .i64 31] := by unfold numOp; rw [h1, h2]; rfl
      rw [e]
      exact opMul_not2 k i f s L k' i' f' s' L' w h1 h2
    | true =>
      cases h3 : (k == 1 && k' == 1) with
      | true =>
        have e : numOp .mul wMul k i f k' i' f' = vInt (wMul i i') := by unfold numOp; rw [h1, h2, h3]; rfl
        rw [e]
        simp only [Bool.and_eq_true, beq_iff_eq] at h3
        obtain ⟨rfl, rfl⟩ := h3
        exact opMul_ints i hi f s L i' hi' f' s' L' w
      | false =>
        have e : numOp .mul wMul k i f k' i' f' = .tuple #[numV 2 0 (fop .mul (asF k i f) (asF k' i' f')), .int .i64 0] := by unfold numOp; rw [h1, h2, h3]; rfl
        rw [e]
        clear e
        have g : k = 2 ∨ (k = 1 ∧ k' = 2) := by
          simp at h1 h2 h3
          omega
        rcases g with rfl | ⟨rfl, rfl⟩
        · exact opMul_flt1 i f s L k' i' f' s' L' w h2
        · exact opMul_flt2 i f s L i' f' s' L' w

set_option maxRecDepth 100000 in
set_option maxHeartbeats 2000000 in
theorem opDiv_not1 (k i : Int) (f : Nat) (s : ByteArray) (L : Value) (k' i' : Int) (f' : Nat) (s' : ByteArray) (L' : Value) (w : World) (h1 : (k == 1 || k == 2) = false) :
    Calls Try.prog 28 #[.int .u8 47, (.agg #[.int .i64 k, .int .i64 i, .float .f64 f, .string s, L]), (.agg #[.int .i64 k', .int .i64 i', .float .f64 f', .string s', L'])] w (Ret (.tuple #[numV 0 0 0, .int .i64 31]) w) := by
  go_enter Try.func28, Try.ntmps28
  go_wp2_with (go_at_call 21; refine (number_exact _ _ _ _ _ _).mono ?_; rintro e w' ⟨rfl, rfl⟩)
  go_returns
  exact ⟨rfl, (((((Ext.refl _).alloc _).alloc _).alloc _).alloc _)⟩

set_option maxRecDepth 100000 in
set_option maxHeartbeats 2000000 in
theorem opDiv_not2 (k i : Int) (f : Nat) (s : ByteArray) (L : Value) (k' i' : Int) (f' : Nat) (s' : ByteArray) (L' : Value) (w : World) (h1 : (k == 1 || k == 2) = true) (h2 : (k' == 1 || k' == 2) = false) :
    Calls Try.prog 28 #[.int .u8 47, (.agg #[.int .i64 k, .int .i64 i, .float .f64 f, .string s, L]), (.agg #[.int .i64 k', .int .i64 i', .float .f64 f', .string s', L'])] w (Ret (.tuple #[numV 0 0 0, .int .i64 31]) w) := by
  go_enter Try.func28, Try.ntmps28
  go_wp2_with (go_at_call 21; refine (number_exact _ _ _ _ _ _).mono ?_; rintro e w' ⟨rfl, rfl⟩)
  go_returns
  exact ⟨rfl, ((((((Ext.refl _).alloc _).alloc _).alloc _).alloc _).alloc _)⟩

set_option maxRecDepth 100000 in
set_option maxHeartbeats 2000000 in
theorem opDiv_ints (i : Int) (hi : inR i) (f : Nat) (s : ByteArray) (L : Value) (i' : Int) (hi' : inR i') (f' : Nat) (s' : ByteArray) (L' : Value) (w : World) :
    Calls Try.prog 28 #[.int .u8 47, (.agg #[.int .i64 1, .int .i64 i, .float .f64 f, .string s, L]), (.agg #[.int .i64 1, .int .i64 i', .float .f64 f', .string s', L'])] w (Ret (vInt (wDiv i i')) w) := by
  obtain ⟨hw0, A, B, V0⟩ := five w 1 i f s L 1 i' f' s' L' (.cells #[.int .i64 1, .int .i64 i, .float .f64 f, .string s, L] 31) (.cells #[.int .i64 1, .int .i64 i', .float .f64 f', .string s', L'] 31)
  go_enter Try.func28, Try.ntmps28
  go_wp2_with (go_at_call 21; refine (number_exact _ _ _ _ _ _).mono ?_; rintro e w' ⟨rfl, rfl⟩)
  refine (intsDiv_any _ _ hi hi' _).mono ?_
  rintro e w' ⟨n, ok, rfl, hr, hx⟩
  have HR := Lib.hid hr
  clear hr
  have V := V0.ext hx
  have hw := hw0.trans hx
  clear V0 hw0 hx A B
  cases ok with
  | true =>
    go_wp2_with fail
    refine (rint_any _ _).mono ?_
    rintro e w1 ⟨rfl, hx1⟩
    have V1 := V.ext hx1
    have hw1 := hw.trans hx1
    obtain ⟨c0, c1, c2, c3, c4⟩ := V1.pack
    have z := V1.free
    clear V hw hx1
    go_wp2
    have V5 := V1.put 1 n 0 ⟨#[]⟩ (.slice none 0 0)
    have h5 := hw1.put5 (Nat.le_add_right _ 2) 1 n 0 ⟨#[]⟩ (.slice none 0 0)
    clear c0 c1 c2 c3 c4 z V1
    revert V5 h5
    generalize World.setCell _ _ _ = w5
    intro V5 h5
    obtain ⟨c0, c1, c2, c3, c4⟩ := V5.pack
    refine bodyPost_ret (by simp [results, Try.results28, go_sem, c0, c1, c2, c3, c4]; try rfl) rfl ?_
    exact ⟨by rw [← HR.out]; rfl, h5⟩
  | false =>
    obtain ⟨c0, c1, c2, c3, c4⟩ := V.pack
    have z := V.free
    go_wp2
    have V5 := V.put 0 0 0 ⟨#[]⟩ (.slice none 0 0)
    have h5 := hw.put5 (Nat.le_add_right _ 2) 0 0 0 ⟨#[]⟩ (.slice none 0 0)
    clear c0 c1 c2 c3 c4 z V
    revert V5 h5
    generalize World.setCell _ _ _ = w5
    intro V5 h5
    obtain ⟨c0, c1, c2, c3, c4⟩ := V5.pack
    refine bodyPost_ret (by simp [results, Try.results28, go_sem, c0, c1, c2, c3, c4]; try rfl) rfl ?_
    exact ⟨by rw [← HR.out]; rfl, h5⟩

set_option maxRecDepth 100000 in
set_option maxHeartbeats 2000000 in
theorem opDiv_flt1 (i : Int) (f : Nat) (s : ByteArray) (L : Value) (k' i' : Int) (f' : Nat) (s' : ByteArray) (L' : Value) (w : World) (h2 : (k' == 1 || k' == 2) = true) :
    Calls Try.prog 28 #[.int .u8 47, (.agg #[.int .i64 2, .int .i64 i, .float .f64 f, .string s, L]), (.agg #[.int .i64 k', .int .i64 i', .float .f64 f', .string s', L'])] w (Ret (.tuple #[numV 2 0 (fop .quo (asF 2 i f) (asF k' i' f')), .int .i64 0]) w) := by
  obtain ⟨hw0, A, B, V⟩ := five w 2 i f s L k' i' f' s' L' (.cells #[.int .i64 2, .int .i64 i, .float .f64 f, .string s, L] 31) (.cells #[.int .i64 k', .int .i64 i', .float .f64 f', .string s', L'] 31)
  obtain ⟨x, HX⟩ : ∃ x, Hid (asF 2 i f = x) := ⟨_, Lib.hid rfl⟩
  obtain ⟨y, HY⟩ : ∃ y, Hid (asF k' i' f' = y) := ⟨_, Lib.hid rfl⟩
  have eN : numV 2 0 (fop .quo (asF 2 i f) (asF k' i' f')) = numV 2 0 (fop .quo x y) := by rw [HX.out, HY.out]
  rw [eN]
  clear eN
  go_enter Try.func28, Try.ntmps28
  go_wp2_with (go_at_call 21; refine (number_exact _ _ _ _ _ _).mono ?_; rintro e w' ⟨rfl, rfl⟩)
  revert hw0 A B V
  generalize World.alloc _ _ = w0
  intro hw0 A B V
  have a0 := fun p : Later w0 => p.cell (A.cell 0 _ rfl)
  have a1 := fun p : Later w0 => p.cell (A.cell 1 _ rfl)
  have a2 := fun p : Later w0 => p.cell (A.cell 2 _ rfl)
  have a3 := fun p : Later w0 => p.cell (A.cell 3 _ rfl)
  have a4 := fun p : Later w0 => p.cell (A.cell 4 _ rfl)
  have b0 := fun p : Later w0 => p.cell (B.cell 0 _ rfl)
  have b1 := fun p : Later w0 => p.cell (B.cell 1 _ rfl)
  have b2 := fun p : Later w0 => p.cell (B.cell 2 _ rfl)
  have b3 := fun p : Later w0 => p.cell (B.cell 3 _ rfl)
  have b4 := fun p : Later w0 => p.cell (B.cell 4 _ rfl)
  refine wp_region_rel' 6 (by kernel_rfl) (by kernel_rfl) (fun Fin hFin => ?_)
  simp only [List.take_succ_cons, List.take_zero]
  repeat (refine relGo_p (fun K hK => ?_); go_simp; refine hK _ ?_; clear hK K)
  refine relGo_q (.float .f64 x) ?_ (fun K hK => ?_)
  · intro w' hw'
    go_simp
    refine (asfloat_any _ _ _ _ _ _).mono ?_
    rintro e w'' ⟨rfl, h⟩
    rw [HX.out]
    exact ⟨rfl, h⟩
  go_simp
  refine hK _ ?_
  clear hK K
  repeat (refine relGo_p (fun K hK => ?_); go_simp; refine hK _ ?_; clear hK K)
  refine relGo_q (.float .f64 y) ?_ (fun K hK => ?_)
  · intro w' hw'
    go_simp
    refine (asfloat_any _ _ _ _ _ _).mono ?_
    rintro e w'' ⟨rfl, h⟩
    rw [HY.out]
    exact ⟨rfl, h⟩
  go_simp
  refine hK _ ?_
  clear hK K
  repeat (refine relGo_p (fun K hK => ?_); go_simp; refine hK _ ?_; clear hK K)
  refine hFin _ _ (fun w1 hw1 => ?_)
  clear hFin Fin
  simp only [fillE, List.drop_succ_cons, List.drop_nil]
  have V1 := V.ext hw1
  have hx1 := hw0.trans hw1
  clear hw1 hw0 V A B a0 a1 a2 a3 a4 b0 b1 b2 b3 b4
  cases hr : floatBits .quo .f64 x y with
  | some r =>
    have hc : canon r = fop .quo x y := fop_some hr
    have hrun : (binOp .quo 22 (.float .f64 x) (.float .f64 y)).run Try.prog w1 = .ok (.float .f64 r) w1 := run_float_arith w1 _ _ _ _ _ _ hr
    have HC := Lib.hid hc
    clear hc hr
    go_wp2_with fail
    refine (float_is _ _).mono ?_
    rintro e w2 ⟨rfl, hw2⟩
    rw [HC.out]
    have V := V1.ext hw2
    have hw := hx1.trans hw2
    obtain ⟨c0, c1, c2, c3, c4⟩ := V.pack
    have z := V.free
    clear V1 hx1 hw2 hrun
    go_wp2
    have V5 := V.put 2 0 (fop .quo x y) ⟨#[]⟩ (.slice none 0 0)
    have h5 := hw.put5 (Nat.le_add_right _ 2) 2 0 (fop .quo x y) ⟨#[]⟩ (.slice none 0 0)
    clear c0 c1 c2 c3 c4 z V
    revert V5 h5
    generalize World.setCell _ _ _ = w5
    intro V5 h5
    obtain ⟨c0, c1, c2, c3, c4⟩ := V5.pack
    try simp only [Exit.inBlock, Exit.then]
    refine bodyPost_ret (by simp [results, Try.results28, go_sem, c0, c1, c2, c3, c4]; try rfl) rfl ?_
    exact ⟨rfl, h5⟩
  | none =>
    have hc : canon (drawnNaN w1 x y) = fop .quo x y := fop_none hr w1
    have hrun : (binOp .quo 22 (.float .f64 x) (.float .f64 y)).run Try.prog w1 = .ok (.float .f64 (drawnNaN w1 x y)) w1.drew := run_float_nan w1 _ _ _ _ (by simp) hr
    have HC := Lib.hid hc
    clear hc hr
    go_wp2_with fail
    replace V1 := V1.ext (Ext.refl w1).drew
    replace hx1 := hx1.drew
    refine (float_is _ _).mono ?_
    rintro e w2 ⟨rfl, hw2⟩
    rw [HC.out]
    have V := V1.ext hw2
    have hw := hx1.trans hw2
    obtain ⟨c0, c1, c2, c3, c4⟩ := V.pack
    have z := V.free
    clear V1 hx1 hw2 hrun
    go_wp2
    have V5 := V.put 2 0 (fop .quo x y) ⟨#[]⟩ (.slice none 0 0)
    have h5 := hw.put5 (Nat.le_add_right _ 2) 2 0 (fop .quo x y) ⟨#[]⟩ (.slice none 0 0)
    clear c0 c1 c2 c3 c4 z V
    revert V5 h5
    generalize World.setCell _ _ _ = w5
    intro V5 h5
    obtain ⟨c0, c1, c2, c3, c4⟩ := V5.pack
    try simp only [Exit.inBlock, Exit.then]
    refine bodyPost_ret (by simp [results, Try.results28, go_sem, c0, c1, c2, c3, c4]; try rfl) rfl ?_
    exact ⟨rfl, h5⟩

set_option maxRecDepth 100000 in
set_option maxHeartbeats 2000000 in
theorem opDiv_flt2 (i : Int) (f : Nat) (s : ByteArray) (L : Value) (i' : Int) (f' : Nat) (s' : ByteArray) (L' : Value) (w : World) :
    Calls Try.prog 28 #[.int .u8 47, (.agg #[.int .i64 1, .int .i64 i, .float .f64 f, .string s, L]), (.agg #[.int .i64 2, .int .i64 i', .float .f64 f', .string s', L'])] w (Ret (.tuple #[numV 2 0 (fop .quo (asF 1 i f) (asF 2 i' f')), .int .i64 0]) w) := by
  obtain ⟨hw0, A, B, V⟩ := five w 1 i f s L 2 i' f' s' L' (.cells #[.int .i64 1, .int .i64 i, .float .f64 f, .string s, L] 31) (.cells #[.int .i64 2, .int .i64 i', .float .f64 f', .string s', L'] 31)
  obtain ⟨x, HX⟩ : ∃ x, Hid (asF 1 i f = x) := ⟨_, Lib.hid rfl⟩
  obtain ⟨y, HY⟩ : ∃ y, Hid (asF 2 i' f' = y) := ⟨_, Lib.hid rfl⟩
  have eN : numV 2 0 (fop .quo (asF 1 i f) (asF 2 i' f')) = numV 2 0 (fop .quo x y) := by rw [HX.out, HY.out]
  rw [eN]
  clear eN
  go_enter Try.func28, Try.ntmps28
  go_wp2_with (go_at_call 21; refine (number_exact _ _ _ _ _ _).mono ?_; rintro e w' ⟨rfl, rfl⟩)
  revert hw0 A B V
  generalize World.alloc _ _ = w0
  intro hw0 A B V
  have a0 := fun p : Later w0 => p.cell (A.cell 0 _ rfl)
  have a1 := fun p : Later w0 => p.cell (A.cell 1 _ rfl)
  have a2 := fun p : Later w0 => p.cell (A.cell 2 _ rfl)
  have a3 := fun p : Later w0 => p.cell (A.cell 3 _ rfl)
  have a4 := fun p : Later w0 => p.cell (A.cell 4 _ rfl)
  have b0 := fun p : Later w0 => p.cell (B.cell 0 _ rfl)
  have b1 := fun p : Later w0 => p.cell (B.cell 1 _ rfl)
  have b2 := fun p : Later w0 => p.cell (B.cell 2 _ rfl)
  have b3 := fun p : Later w0 => p.cell (B.cell 3 _ rfl)
  have b4 := fun p : Later w0 => p.cell (B.cell 4 _ rfl)
  refine wp_region_rel' 6 (by kernel_rfl) (by kernel_rfl) (fun Fin hFin => ?_)
  simp only [List.take_succ_cons, List.take_zero]
  repeat (refine relGo_p (fun K hK => ?_); go_simp; refine hK _ ?_; clear hK K)
  refine relGo_q (.float .f64 x) ?_ (fun K hK => ?_)
  · intro w' hw'
    go_simp
    refine (asfloat_any _ _ _ _ _ _).mono ?_
    rintro e w'' ⟨rfl, h⟩
    rw [HX.out]
    exact ⟨rfl, h⟩
  go_simp
  refine hK _ ?_
  clear hK K
  repeat (refine relGo_p (fun K hK => ?_); go_simp; refine hK _ ?_; clear hK K)
  refine relGo_q (.float .f64 y) ?_ (fun K hK => ?_)
  · intro w' hw'
    go_simp
    refine (asfloat_any _ _ _ _ _ _).mono ?_
    rintro e w'' ⟨rfl, h⟩
    rw [HY.out]
    exact ⟨rfl, h⟩
  go_simp
  refine hK _ ?_
  clear hK K
  repeat (refine relGo_p (fun K hK => ?_); go_simp; refine hK _ ?_; clear hK K)
  refine hFin _ _ (fun w1 hw1 => ?_)
  clear hFin Fin
  simp only [fillE, List.drop_succ_cons, List.drop_nil]
  have V1 := V.ext hw1
  have hx1 := hw0.trans hw1
  clear hw1 hw0 V A B a0 a1 a2 a3 a4 b0 b1 b2 b3 b4
  cases hr : floatBits .quo .f64 x y with
  | some r =>
    have hc : canon r = fop .quo x y := fop_some hr
    have hrun : (binOp .quo 22 (.float .f64 x) (.float .f64 y)).run Try.prog w1 = .ok (.float .f64 r) w1 := run_float_arith w1 _ _ _ _ _ _ hr
    have HC := Lib.hid hc
    clear hc hr
    go_wp2_with fail
    refine (float_is _ _).mono ?_
    rintro e w2 ⟨rfl, hw2⟩
    rw [HC.out]
    have V := V1.ext hw2
    have hw := hx1.trans hw2
    obtain ⟨c0, c1, c2, c3, c4⟩ := V.pack
    have z := V.free
    clear V1 hx1 hw2 hrun
    go_wp2
    have V5 := V.put 2 0 (fop .quo x y) ⟨#[]⟩ (.slice none 0 0)
    have h5 := hw.put5 (Nat.le_add_right _ 2) 2 0 (fop .quo x y) ⟨#[]⟩ (.slice none 0 0)
    clear c0 c1 c2 c3 c4 z V
    revert V5 h5
    generalize World.setCell _ _ _ = w5
    intro V5 h5
    obtain ⟨c0, c1, c2, c3, c4⟩ := V5.pack
    try simp only [Exit.inBlock, Exit.then]
    refine bodyPost_ret (by simp [results, Try.results28, go_sem, c0, c1, c2, c3, c4]; try rfl) rfl ?_
    exact ⟨rfl, h5⟩
  | none =>
    have hc : canon (drawnNaN w1 x y) = fop .quo x y := fop_none hr w1
    have hrun : (binOp .quo 22 (.float .f64 x) (.float .f64 y)).run Try.prog w1 = .ok (.float .f64 (drawnNaN w1 x y)) w1.drew := run_float_nan w1 _ _ _ _ (by simp) hr
    have HC := Lib.hid hc
    clear hc hr
    go_wp2_with fail
    replace V1 := V1.ext (Ext.refl w1).drew
    replace hx1 := hx1.drew
    refine (float_is _ _).mono ?_
    rintro e w2 ⟨rfl, hw2⟩
    rw [HC.out]
    have V := V1.ext hw2
    have hw := hx1.trans hw2
    obtain ⟨c0, c1, c2, c3, c4⟩ := V.pack
    have z := V.free
    clear V1 hx1 hw2 hrun
    go_wp2
    have V5 := V.put 2 0 (fop .quo x y) ⟨#[]⟩ (.slice none 0 0)
    have h5 := hw.put5 (Nat.le_add_right _ 2) 2 0 (fop .quo x y) ⟨#[]⟩ (.slice none 0 0)
    clear c0 c1 c2 c3 c4 z V
    revert V5 h5
    generalize World.setCell _ _ _ = w5
    intro V5 h5
    obtain ⟨c0, c1, c2, c3, c4⟩ := V5.pack
    try simp only [Exit.inBlock, Exit.then]
    refine bodyPost_ret (by simp [results, Try.results28, go_sem, c0, c1, c2, c3, c4]; try rfl) rfl ?_
    exact ⟨rfl, h5⟩

theorem opDiv_any (k i : Int) (hi : inR i) (f : Nat) (s : ByteArray) (L : Value) (k' i' : Int) (hi' : inR i') (f' : Nat) (s' : ByteArray) (L' : Value) (w : World) :
    Calls Try.prog 28 #[.int .u8 47, (.agg #[.int .i64 k, .int .i64 i, .float .f64 f, .string s, L]), (.agg #[.int .i64 k', .int .i64 i', .float .f64 f', .string s', L'])] w (Ret (numOp .quo wDiv k i f k' i' f') w) := by
  cases h1 : (k == 1 || k == 2) with
  | false =>
    have e : numOp .quo wDiv k i f k' i' f' = .tuple #[numV 0 0 0, .int .i64 31] := by unfold numOp; rw [h1]; rfl
    rw [e]
    exact opDiv_not1 k i f s L k' i' f' s' L' w h1
  | true =>
    cases h2 : (k' == 1 || k' == 2) with
    | false =>
      have e : numOp .quo wDiv k i f k' i' f' = .tuple #[numV 0 0 0, .int .i64 31] := by unfold numOp; rw [h1, h2]; rfl
      rw [e]
      exact opDiv_not2 k i f s L k' i' f' s' L' w h1 h2
    | true =>
      cases h3 : (k == 1 && k' == 1) with
      | true =>
        have e : numOp .quo wDiv k i f k' i' f' = vInt (wDiv i i') := by unfold numOp; rw [h1, h2, h3]; rfl
        rw [e]
        simp only [Bool.and_eq_true, beq_iff_eq] at h3
        obtain ⟨rfl, rfl⟩ := h3
        exact opDiv_ints i hi f s L i' hi' f' s' L' w
      | false =>
        have e : numOp .quo wDiv k i f k' i' f' = .tuple #[numV 2 0 (fop .quo (asF k i f) (asF k' i' f')), .int .i64 0] := by unfold numOp; rw [h1, h2, h3]; rfl
        rw [e]
        clear e
        have g : k = 2 ∨ (k = 1 ∧ k' = 2) := by
          simp at h1 h2 h3
          omega
        rcases g with rfl | ⟨rfl, rfl⟩
        · exact opDiv_flt1 i f s L k' i' f' s' L' w h2
        · exact opDiv_flt2 i f s L i' f' s' L' w
end Go.Proofs.Ytgodncdhkmpfaaa
