/- The two sums. -/
import Derived.Test.YtgodncdhkmpfaaaNumL
namespace Go.Proofs.Ytgodncdhkmpfaaa
open Go.RowKit
set_option linter.unusedVariables false
set_option linter.unusedSimpArgs false
attribute [local go_sem] stepR givesR fillE Ext.refl

/-- a row of values, told by a function -/
def RowV (w : World) (n : Nat) (A : Option Addr) (l : Nat) (g : Nat → Val) : Prop := 0 < l → ∃ b off, A = some ⟨b, off, none⟩ ∧ ∀ j, j < l → At w b (off + j * 5) (g j) ∧ Tree w n (g j)
theorem RowV.ext {w w' : World} {n : Nat} {A : Option Addr} {l : Nat} {g : Nat → Val} (h : RowV w n A l g) (hx : Ext w w') : RowV w' n A l g := fun h0 => by
  obtain ⟨b, off, e, hj⟩ := h h0
  exact ⟨b, off, e, fun j hl => ⟨(hj j hl).1.ext hx, Tree.ext hx _ _ (hj j hl).2⟩⟩
theorem Vals.fn {w : World} {n : Nat} {A : Option Addr} {l c : Nat} (h : Vals w n A l c) : ∃ g, RowV w n A l g ∧ (l ≤ c ∧ c ≤ maxLen) := by
  obtain ⟨h1, h2, h⟩ := h
  by_cases h0 : 0 < l
  · obtain ⟨b, off, e, hj⟩ := h h0
    have key : ∀ j, ∃ y, j < l → At w b (off + j * 5) y ∧ Tree w n y := fun j => by
      by_cases hl : j < l
      · obtain ⟨y, hy⟩ := hj j hl
        exact ⟨y, fun _ => hy⟩
      · exact ⟨⟨0, 0, 0, ⟨#[]⟩, none, 0, 0⟩, fun h => absurd h hl⟩
    exact ⟨fun j => Classical.choose (key j), fun _ => ⟨b, off, e, fun j hl => Classical.choose_spec (key j) hl⟩, h1, h2⟩
  · exact ⟨fun _ => ⟨0, 0, 0, ⟨#[]⟩, none, 0, 0⟩, fun h => absurd h h0, h1, h2⟩

structure Acc where
  k : Int
  i : Int
  f : Nat
  e : Int
def parts (v : Value) : Acc :=
  match v with
  | .tuple a => match a.toList with
    | [.agg c, .int _ e] => match c.toList with
      | [.int _ k, .int _ i, .float _ f, _, _] => ⟨k, i, f, e⟩
      | _ => ⟨0, 0, 0, 0⟩
    | _ => ⟨0, 0, 0, 0⟩
  | _ => ⟨0, 0, 0, 0⟩
def Acc.val (a : Acc) : Value := .tuple #[(.agg #[.int .i64 a.k, .int .i64 a.i, .float .f64 a.f, .string ⟨#[]⟩, (.slice none 0 0)]), .int .i64 a.e]
def addA (a : Acc) (y : Val) : Acc := parts (numOp .add wAdd a.k a.i a.f y.k y.i y.f)
theorem addA_is (a : Acc) (y : Val) : numOp .add wAdd a.k a.i a.f y.k y.i y.f = (addA a y).val := by
  obtain ⟨p, q, r, e, h⟩ := numOp_is .add wAdd a.k a.i a.f y.k y.i y.f
  unfold addA
  rw [h]
  rfl
theorem exact_inR {n m : Int} (h : exact n = some m) : inR m := by
  unfold exact at h
  split at h
  · cases h; assumption
  · cases h
theorem addA_inR (a : Acc) (y : Val) : inR (addA a y).i := by
  unfold addA numOp
  split
  · split
    · split
      · cases h : wAdd a.i y.i with
        | none => exact inR0
        | some n => exact exact_inR h
      · exact inR0
    · exact inR0
  · exact inR0
def acc (g : Nat → Val) : Nat → Acc
  | 0 => ⟨1, 0, 0, 0⟩
  | j + 1 => addA (acc g j) (g j)
theorem acc_inR (g : Nat → Val) : ∀ j, inR (acc g j).i
  | 0 => inR0
  | j + 1 => addA_inR _ _
def sumFrom (g : Nat → Val) : Nat → Nat → Acc
  | 0, j => acc g j
  | n + 1, j => if (acc g (j + 1)).e = 0 then sumFrom g n (j + 1) else ⟨0, 0, 0, (acc g (j + 1)).e⟩

/-- what stands at the head of a round -/
structure Mid (w wr : World) (b2 b4 : Nat) (g : Nat → Val) (l j : Nat) : Prop where
  ext : Ext w wr
  out : VAt wr b2 0 0 0 ⟨#[]⟩ (.slice none 0 0)
  sum : VAt wr b4 (acc g j).k (acc g j).i (acc g j).f ⟨#[]⟩ (.slice none 0 0)
  fine : (acc g j).e = 0
  left : sumFrom g l 0 = sumFrom g (l - j) j

set_option maxRecDepth 100000 in
set_option maxHeartbeats 4000000 in
theorem sum_any (w : World) (n : Nat) (A : Option Addr) (l c : Nat) (g : Nat → Val) (h : RowV w n A l g) (hl : l ≤ c ∧ c ≤ maxLen) :
    Calls Try.prog 15 #[.slice A l c] w (Ret (sumFrom g l 0).val w) := by
  have HL := Lib.hid hl
  have HR := Lib.hid h
  clear hl h
  have V2 := VAt.new w 0 0 0 ⟨#[]⟩ (.slice none 0 0)
  have V4 := VAt.new (w.alloc (.cells #[.int .i64 0, .int .i64 0, .float .f64 0, .string ⟨#[]⟩, .slice none 0 0] 31)) 1 0 0 ⟨#[]⟩ (.slice none 0 0)
  replace V2 := V2.ext (x1 _ (.cells #[.int .i64 1, .int .i64 0, .float .f64 0, .string ⟨#[]⟩, .slice none 0 0] 31))
  have hw := (x1 w (.cells #[.int .i64 0, .int .i64 0, .float .f64 0, .string ⟨#[]⟩, .slice none 0 0] 31)).alloc (.cells #[.int .i64 1, .int .i64 0, .float .f64 0, .string ⟨#[]⟩, .slice none 0 0] 31)
  rw [alloc_size] at V4
  go_enter Try.func15, Try.ntmps15
  go_wp2_with fail
  revert V2 V4 hw
  generalize World.alloc _ _ = w1
  intro V4 V2 hw
  have HM : Hid (Mid w w1 w.heap.size (w.heap.size + 1) g l 0) := ⟨hw, V2, V4, rfl, rfl⟩
  clear hw V2 V4
  go_loopw [11] (fun i wr => ∃ j : Nat, j ≤ l ∧ i = .int .i64 j ∧ Mid w wr w.heap.size (w.heap.size + 1) g l j) (fun i _ => l - (intOf i).toNat)
  case atStart => exact ⟨0, Nat.zero_le _, rfl, HM.out⟩
  case round =>
    clear HM
    obtain ⟨j, hj, rfl, hw, V2, V4, hf, hs⟩ := hrel
    have HF := Lib.hid (And.intro hf hs)
    clear hf hs
    by_cases hlt : j < l
    · obtain ⟨b, off, rfl, hel⟩ := HR.out (by omega)
      obtain ⟨hat, ht⟩ := hel j hlt
      have hat := hat.ext hw
      have hyi : inR (g j).i := by cases n with | zero => exact ht.elim | succ n => exact ht.2.1
      have HY := Lib.hid hyi
      clear ht hel hyi
      obtain ⟨e0, e1, e2, e3, e4⟩ := hat
      have hj1 : wrap64 ((j : Int) + 1) = (j : Int) + 1 := succ_in HL.out hlt
      have hji : (j : Int) < (l : Int) := by omega
      have ga := x1 wr (.cells #[.int .i64 (g j).k, .int .i64 (g j).i, .float .f64 (g j).f, .string (g j).s, .slice (g j).A (g j).l (g j).c] 31)
      replace V2 := V2.ext ga
      replace V4 := V4.ext ga
      replace hw := hw.trans ga
      clear ga
      obtain ⟨c0, c1, c2, c3, c4⟩ := V4.pack
      go_wp2_with fail
      refine (numAdd_any _ _ (acc_inR g j) _ _ _ _ _ HY.out _ _ _ _).mono ?_
      rintro e1 w2 ⟨rfl, h2⟩
      rw [addA_is]
      obtain ⟨P, hP⟩ : ∃ P, addA (acc g j) (g j) = P := ⟨_, rfl⟩
      have hP1 : acc g (j + 1) = P := hP
      rw [hP]
      have HP := Lib.hid hP1
      clear hP hP1 c0 c1 c2 c3 c4 e0 e2 e3 e4 HY
      replace V2 := V2.ext h2
      replace V4 := V4.ext h2
      replace hw := hw.trans h2
      clear h2
      obtain ⟨p, q, r, e⟩ := P
      simp only [Acc.val]
      obtain ⟨c0, c1, c2, c3, c4⟩ := V4.pack
      have z := V4.free
      obtain ⟨d0, d1, d2, d3, d4⟩ := V2.pack
      have z2 := V2.free
      replace V4 := V4.put p q r ⟨#[]⟩ (.slice none 0 0)
      replace V2 := V2.other (b' := w.heap.size + 1) (by omega) p q r ⟨#[]⟩ (.slice none 0 0)
      replace hw := hw.put5 (b := w.heap.size + 1) (by omega) p q r ⟨#[]⟩ (.slice none 0 0)
      by_cases he : e = 0
      · subst he
        clear d0 d1 d2 d3 d4 z2
        go_wp2_with fail
        clear c0 c1 c2 c3 c4 z
        revert V2 V4 hw
        generalize World.setCell _ _ _ = w3
        intro V4 V2 hw
        go_roundw
        case rel =>
          refine ⟨j + 1, by omega, by go_num, hw, V2, by rw [HP.out]; exact V4, by rw [HP.out], ?_⟩
          rw [HF.out.2]
          have e5 : l - j = (l - (j + 1)) + 1 := by omega
          rw [e5, sumFrom, HP.out]
          exact if_pos rfl
        case measure => rw [hj1]; exact dec_lt hlt
      · have he' : (e == 0) = false := beq_eq_false_iff_ne.2 he
        go_wp2
        have V5 := V2.put 0 0 0 ⟨#[]⟩ (.slice none 0 0)
        have h5 := hw.put5 (b := w.heap.size) (by omega) 0 0 0 ⟨#[]⟩ (.slice none 0 0)
        clear c0 c1 c2 c3 c4 z d0 d1 d2 d3 d4 z2 V2 V4 hw
        revert V5 h5
        generalize World.setCell _ _ _ = w5
        intro V5 h5
        obtain ⟨c0, c1, c2, c3, c4⟩ := V5.pack
        try simp only [Exit.inBlock, Exit.then]
        refine bodyPost_ret (by simp [results, Try.results15, go_sem, c0, c1, c2, c3, c4]; try rfl) rfl ?_
        refine ⟨?_, h5⟩
        rw [HF.out.2]
        have e5 : l - j = (l - (j + 1)) + 1 := by omega
        rw [e5, sumFrom, HP.out, if_neg he]
        rfl
    · have hnl : ((j : Int) < (l : Int)) = False := by simp; omega
      have hjl : j = l := by omega
      subst hjl
      obtain ⟨c0, c1, c2, c3, c4⟩ := V4.pack
      obtain ⟨d0, d1, d2, d3, d4⟩ := V2.pack
      have z2 := V2.free
      go_wp2
      have V5 := V2.put (acc g j).k (acc g j).i (acc g j).f ⟨#[]⟩ (.slice none 0 0)
      have h5 := hw.put5 (b := w.heap.size) (by omega) (acc g j).k (acc g j).i (acc g j).f ⟨#[]⟩ (.slice none 0 0)
      clear c0 c1 c2 c3 c4 d0 d1 d2 d3 d4 z2 V2 V4 hw
      revert V5 h5
      generalize World.setCell _ _ _ = w5
      intro V5 h5
      obtain ⟨c0, c1, c2, c3, c4⟩ := V5.pack
      try simp only [Exit.inBlock, Exit.then]
      refine bodyPost_ret (by simp [results, Try.results15, go_sem, c0, c1, c2, c3, c4]; try rfl) rfl ?_
      refine ⟨?_, h5⟩
      rw [HF.out.2, Nat.sub_self, sumFrom]
      unfold Acc.val
      rw [HF.out.1]
end Go.Proofs.Ytgodncdhkmpfaaa
