/- The four operations of package num and the document's Op. -/
import Derived.Test.YtgodncdhkmpfaaaNumC
namespace Go.Proofs.Ytgodncdhkmpfaaa
open Go.RowKit
set_option linter.unusedVariables false
set_option linter.unusedSimpArgs false
attribute [local go_sem] stepR givesR fillE Ext.refl

theorem vInt_is (r : Option Int) : ∃ a b c e, vInt r = .tuple #[(.agg #[.int .i64 a, .int .i64 b, .float .f64 c, .string ⟨#[]⟩, (.slice none 0 0)]), .int .i64 e] := by
  cases r with
  | none => exact ⟨_, _, _, _, rfl⟩
  | some n => exact ⟨_, _, _, _, rfl⟩
theorem numOp_is (op : BinOp) (W : Int → Int → Option Int) (k i : Int) (f : Nat) (k' i' : Int) (f' : Nat) : ∃ a b c e, numOp op W k i f k' i' f' = .tuple #[(.agg #[.int .i64 a, .int .i64 b, .float .f64 c, .string ⟨#[]⟩, (.slice none 0 0)]), .int .i64 e] := by
  unfold numOp
  by_cases h1 : (k == 1 || k == 2) = true
  · rw [if_pos h1]
    by_cases h2 : (k' == 1 || k' == 2) = true
    · rw [if_pos h2]
      by_cases h3 : (k == 1 && k' == 1) = true
      · rw [if_pos h3]; exact vInt_is _
      · rw [if_neg h3]; exact ⟨_, _, _, _, rfl⟩
    · rw [if_neg h2]; exact ⟨_, _, _, _, rfl⟩
  · rw [if_neg h1]; exact ⟨_, _, _, _, rfl⟩
theorem x1 (w : World) (o : Obj) : Ext w (w.alloc o) := (Ext.refl w).alloc o
theorem three (w : World) (o o' : Obj) : Ext w (((w.alloc o).alloc o').alloc (.cells #[.int .i64 0, .int .i64 0, .float .f64 0, .string ⟨#[]⟩, .slice none 0 0] 31)) ∧
    VAt (((w.alloc o).alloc o').alloc (.cells #[.int .i64 0, .int .i64 0, .float .f64 0, .string ⟨#[]⟩, .slice none 0 0] 31)) (w.heap.size + 1 + 1) 0 0 0 ⟨#[]⟩ (.slice none 0 0) := by
  have c := VAt.new ((w.alloc o).alloc o') 0 0 0 ⟨#[]⟩ (.slice none 0 0)
  rw [alloc_size, alloc_size] at c
  exact ⟨((x1 _ _).alloc _).alloc _, c⟩
theorem Ext.put5 {w w' : World} (hw : Ext w w') {b : Nat} (hb : w.heap.size ≤ b) (k i : Int) (f : Nat) (s : ByteArray) (L : Value) :
    Ext w (((((w'.setCell ⟨b, 0, none⟩ (.int .i64 k)).setCell ⟨b, 1, none⟩ (.int .i64 i)).setCell ⟨b, 2, none⟩ (.float .f64 f)).setCell ⟨b, 3, none⟩ (.string s)).setCell ⟨b, 4, none⟩ L) :=
  ((((hw.set hb 0 _).set hb 1 _).set hb 2 _).set hb 3 _).set hb 4 _

theorem float_any (f : Nat) (w : World) : Calls Try.prog 23 #[.float .f64 f] w (Ret (numV 2 0 (canon f)) w) := by
  go_enter Try.func23, Try.ntmps23
  go_wp2_with fail
  have V0 := VAt.new w 0 0 0 ⟨#[]⟩ (.slice none 0 0)
  have hw0 := x1 w (.cells #[.int .i64 0, .int .i64 0, .float .f64 0, .string ⟨#[]⟩, .slice none 0 0] 31)
  refine (rcanon_any _ _).mono ?_
  rintro e w' ⟨rfl, hx⟩
  have V := V0.ext hx
  have hw := hw0.trans hx
  obtain ⟨c0, c1, c2, c3, c4⟩ := V.pack
  have z := V.free
  clear V0 hw0 hx
  go_wp2
  have V5 := V.put 2 0 (canon f) ⟨#[]⟩ (.slice none 0 0)
  have h5 := hw.put5 (Nat.le_refl _) 2 0 (canon f) ⟨#[]⟩ (.slice none 0 0)
  clear c0 c1 c2 c3 c4 z V
  revert V5 h5
  generalize World.setCell _ _ _ = w5
  intro V5 h5
  obtain ⟨c0, c1, c2, c3, c4⟩ := V5.pack
  refine bodyPost_ret (by simp [results, Try.results23, go_sem, c0, c1, c2, c3, c4]; try rfl) rfl ?_
  exact ⟨rfl, h5⟩

theorem numAdd_any (k i : Int) (hi : inR i) (f : Nat) (s : ByteArray) (L : Value) (k' i' : Int) (hi' : inR i') (f' : Nat) (s' : ByteArray) (L' : Value) (w : World) :
    Calls Try.prog 24 #[(.agg #[.int .i64 k, .int .i64 i, .float .f64 f, .string s, L]), (.agg #[.int .i64 k', .int .i64 i', .float .f64 f', .string s', L'])] w (Ret (numOp .add wAdd k i f k' i' f') w) := by
  go_enter Try.func24, Try.ntmps24
  go_wp2_with fail
  obtain ⟨hw0, V0⟩ := three w (.cells #[.int .i64 k, .int .i64 i, .float .f64 f, .string s, L] 31) (.cells #[.int .i64 k', .int .i64 i', .float .f64 f', .string s', L'] 31)
  refine (do_any 39 40 .add wAdd (fun a b ha hb w => addW_any a b ha hb w) (fun x y w => addF_any x y w) (fun _ _ => by kernel_rfl) (fun _ _ => by kernel_rfl) k i hi f s L k' i' hi' f' s' L' _).mono ?_
  rintro e w' ⟨rfl, hx⟩
  have V := V0.ext hx
  have hw := hw0.trans hx
  obtain ⟨c0, c1, c2, c3, c4⟩ := V.pack
  have z := V.free
  clear V0 hw0 hx
  obtain ⟨a, b, c, e, he⟩ := numOp_is .add wAdd k i f k' i' f'
  rw [he]
  have HE := Lib.hid he
  clear he
  go_wp2
  have V5 := V.put a b c ⟨#[]⟩ (.slice none 0 0)
  have h5 := hw.put5 (Nat.le_add_right _ 2) a b c ⟨#[]⟩ (.slice none 0 0)
  clear c0 c1 c2 c3 c4 z V
  revert V5 h5
  generalize World.setCell _ _ _ = w5
  intro V5 h5
  obtain ⟨c0, c1, c2, c3, c4⟩ := V5.pack
  refine bodyPost_ret (by simp [results, Try.results24, go_sem, c0, c1, c2, c3, c4]; try rfl) rfl ?_
  exact ⟨by rw [HE.out], h5⟩

theorem numSub_any (k i : Int) (hi : inR i) (f : Nat) (s : ByteArray) (L : Value) (k' i' : Int) (hi' : inR i') (f' : Nat) (s' : ByteArray) (L' : Value) (w : World) :
    Calls Try.prog 29 #[(.agg #[.int .i64 k, .int .i64 i, .float .f64 f, .string s, L]), (.agg #[.int .i64 k', .int .i64 i', .float .f64 f', .string s', L'])] w (Ret (numOp .sub wSub k i f k' i' f') w) := by
  go_enter Try.func29, Try.ntmps29
  go_wp2_with fail
  obtain ⟨hw0, V0⟩ := three w (.cells #[.int .i64 k, .int .i64 i, .float .f64 f, .string s, L] 31) (.cells #[.int .i64 k', .int .i64 i', .float .f64 f', .string s', L'] 31)
  refine (do_any 47 48 .sub wSub (fun a b ha hb w => subW_any a b ha hb w) (fun x y w => subF_any x y w) (fun _ _ => by kernel_rfl) (fun _ _ => by kernel_rfl) k i hi f s L k' i' hi' f' s' L' _).mono ?_
  rintro e w' ⟨rfl, hx⟩
  have V := V0.ext hx
  have hw := hw0.trans hx
  obtain ⟨c0, c1, c2, c3, c4⟩ := V.pack
  have z := V.free
  clear V0 hw0 hx
  obtain ⟨a, b, c, e, he⟩ := numOp_is .sub wSub k i f k' i' f'
  rw [he]
  have HE := Lib.hid he
  clear he
  go_wp2
  have V5 := V.put a b c ⟨#[]⟩ (.slice none 0 0)
  have h5 := hw.put5 (Nat.le_add_right _ 2) a b c ⟨#[]⟩ (.slice none 0 0)
  clear c0 c1 c2 c3 c4 z V
  revert V5 h5
  generalize World.setCell _ _ _ = w5
  intro V5 h5
  obtain ⟨c0, c1, c2, c3, c4⟩ := V5.pack
  refine bodyPost_ret (by simp [results, Try.results29, go_sem, c0, c1, c2, c3, c4]; try rfl) rfl ?_
  exact ⟨by rw [HE.out], h5⟩

theorem numMul_any (k i : Int) (hi : inR i) (f : Nat) (s : ByteArray) (L : Value) (k' i' : Int) (hi' : inR i') (f' : Nat) (s' : ByteArray) (L' : Value) (w : World) :
    Calls Try.prog 26 #[(.agg #[.int .i64 k, .int .i64 i, .float .f64 f, .string s, L]), (.agg #[.int .i64 k', .int .i64 i', .float .f64 f', .string s', L'])] w (Ret (numOp .mul wMul k i f k' i' f') w) := by
  go_enter Try.func26, Try.ntmps26
  go_wp2_with fail
  obtain ⟨hw0, V0⟩ := three w (.cells #[.int .i64 k, .int .i64 i, .float .f64 f, .string s, L] 31) (.cells #[.int .i64 k', .int .i64 i', .float .f64 f', .string s', L'] 31)
  refine (do_any 41 42 .mul wMul (fun a b ha hb w => mulW_any a b ha hb w) (fun x y w => mulF_any x y w) (fun _ _ => by kernel_rfl) (fun _ _ => by kernel_rfl) k i hi f s L k' i' hi' f' s' L' _).mono ?_
  rintro e w' ⟨rfl, hx⟩
  have V := V0.ext hx
  have hw := hw0.trans hx
  obtain ⟨c0, c1, c2, c3, c4⟩ := V.pack
  have z := V.free
  clear V0 hw0 hx
  obtain ⟨a, b, c, e, he⟩ := numOp_is .mul wMul k i f k' i' f'
  rw [he]
  have HE := Lib.hid he
  clear he
  go_wp2
  have V5 := V.put a b c ⟨#[]⟩ (.slice none 0 0)
  have h5 := hw.put5 (Nat.le_add_right _ 2) a b c ⟨#[]⟩ (.slice none 0 0)
  clear c0 c1 c2 c3 c4 z V
  revert V5 h5
  generalize World.setCell _ _ _ = w5
  intro V5 h5
  obtain ⟨c0, c1, c2, c3, c4⟩ := V5.pack
  refine bodyPost_ret (by simp [results, Try.results26, go_sem, c0, c1, c2, c3, c4]; try rfl) rfl ?_
  exact ⟨by rw [HE.out], h5⟩

theorem numDiv_any (k i : Int) (hi : inR i) (f : Nat) (s : ByteArray) (L : Value) (k' i' : Int) (hi' : inR i') (f' : Nat) (s' : ByteArray) (L' : Value) (w : World) :
    Calls Try.prog 30 #[(.agg #[.int .i64 k, .int .i64 i, .float .f64 f, .string s, L]), (.agg #[.int .i64 k', .int .i64 i', .float .f64 f', .string s', L'])] w (Ret (numOp .quo wDiv k i f k' i' f') w) := by
  go_enter Try.func30, Try.ntmps30
  go_wp2_with fail
  obtain ⟨hw0, V0⟩ := three w (.cells #[.int .i64 k, .int .i64 i, .float .f64 f, .string s, L] 31) (.cells #[.int .i64 k', .int .i64 i', .float .f64 f', .string s', L'] 31)
  refine (do_any 49 50 .quo wDiv (fun a b ha hb w => divW_any a b ha hb w) (fun x y w => quoF_any x y w) (fun _ _ => by kernel_rfl) (fun _ _ => by kernel_rfl) k i hi f s L k' i' hi' f' s' L' _).mono ?_
  rintro e w' ⟨rfl, hx⟩
  have V := V0.ext hx
  have hw := hw0.trans hx
  obtain ⟨c0, c1, c2, c3, c4⟩ := V.pack
  have z := V.free
  clear V0 hw0 hx
  obtain ⟨a, b, c, e, he⟩ := numOp_is .quo wDiv k i f k' i' f'
  rw [he]
  have HE := Lib.hid he
  clear he
  go_wp2
  have V5 := V.put a b c ⟨#[]⟩ (.slice none 0 0)
  have h5 := hw.put5 (Nat.le_add_right _ 2) a b c ⟨#[]⟩ (.slice none 0 0)
  clear c0 c1 c2 c3 c4 z V
  revert V5 h5
  generalize World.setCell _ _ _ = w5
  intro V5 h5
  obtain ⟨c0, c1, c2, c3, c4⟩ := V5.pack
  refine bodyPost_ret (by simp [results, Try.results30, go_sem, c0, c1, c2, c3, c4]; try rfl) rfl ?_
  exact ⟨by rw [HE.out], h5⟩
end Go.Proofs.Ytgodncdhkmpfaaa
