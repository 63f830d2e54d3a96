/- Deep, Size, Light, Lights come back with something. -/
import Derived.Test.YtgodncdhkmpfaaaNumG
import Derived.Test.YtgodncdhkmpfaaaTree
namespace Go.Proofs.Ytgodncdhkmpfaaa
open Go.RowKit
set_option linter.unusedVariables false
set_option linter.unusedSimpArgs false
attribute [local go_sem] stepR givesR fillE Ext.refl

def RetB (w : World) (e : Ending) (w' : World) : Prop := ∃ b, e = .returned (.bool b) ∧ Ext w w'
def RetN (w : World) (e : Ending) (w' : World) : Prop := ∃ n, e = .returned (.int .i64 n) ∧ Ext w w'

theorem succ_in {j l c : Nat} (h : l ≤ c ∧ c ≤ maxLen) (hj : j < l) : wrap64 ((j : Int) + 1) = (j : Int) + 1 := by
  have hm : maxLen < 9223372036854775808 := by decide
  refine wrap_in ?_
  unfold inR
  omega

theorem dec_lt {j l : Nat} (h : j < l) : l - (intOf (.int .i64 ((j : Int) + 1))).toNat < l - (intOf (.int .i64 (j : Int))).toNat := by
  simp only [intOf]
  omega

set_option maxHeartbeats 1000000 in
theorem deep_any : ∀ (n : Nat) (x : Val) (m : Int) (w : World), Tree w n x → Calls Try.prog 43 #[(.agg #[.int .i64 x.k, .int .i64 x.i, .float .f64 x.f, .string x.s, (.slice x.A x.l x.c)]), .int .i64 m] w (RetB w) := by
  intro n
  induction n with
  | zero => intro x m w h; exact h.elim
  | succ n ih =>
    intro x m w h
    obtain ⟨k, i, f, s, A, l, c⟩ := x
    obtain ⟨-, -, -, -, h5, h6, h7⟩ := h
    simp only at *
    cases hk : (k != 4) with
    | true =>
      go_enter Try.func43, Try.ntmps43
      go_wp2
      go_ret
      exact ⟨_, rfl, (Ext.refl _).alloc _⟩
    | false =>
      cases hm : (m == 0) with
      | true =>
        go_enter Try.func43, Try.ntmps43
        go_wp2
        go_ret
        exact ⟨_, rfl, (Ext.refl _).alloc _⟩
      | false =>
        have V := VAt.new w k i f s (.slice A l c)
        have hx := x1 w (.cells #[.int .i64 k, .int .i64 i, .float .f64 f, .string s, .slice A l c] 31)
        have HL := Lib.hid (And.intro h5 h6)
        clear h5 h6
        go_enter Try.func43, Try.ntmps43
        go_wp2_with fail
        revert V hx
        generalize World.alloc _ _ = w1
        generalize w.heap.size = bk
        intro V hx
        go_loopw [5] (fun i wr => ∃ j : Nat, j ≤ l ∧ i = .int .i64 j ∧ Ext w1 wr) (fun i _ => l - (intOf i).toNat)
        case atStart => exact ⟨0, Nat.zero_le _, rfl, Ext.refl _⟩
        case round =>
          obtain ⟨j, hj, rfl, hw⟩ := hrel
          obtain ⟨c0, c1, c2, c3, c4⟩ := (V.ext hw).pack
          by_cases hlt : j < l
          · obtain ⟨b, off, rfl, hel⟩ := h7 (by omega)
            obtain ⟨y, hat, ht⟩ := hel j hlt
            have hat := hat.ext (hx.trans hw)
            have ht := Tree.ext (hx.trans hw) _ _ ht
            have HT := Lib.hid ht
            clear ht
            obtain ⟨e0, e1, e2, e3, e4⟩ := hat
            have hji : (j : Int) < (l : Int) := by omega
            have hj1 : wrap64 ((j : Int) + 1) = (j : Int) + 1 := succ_in HL.out hlt
            go_wp2_with fail
            refine (ih y _ wr HT.out).mono ?_
            rintro e w2 ⟨bb, rfl, h2⟩
            have H2 := Lib.hid (hw.trans h2)
            clear h2 hw
            cases bb with
            | true =>
              go_wp2
              go_ret
              exact ⟨_, rfl, hx.trans H2.out⟩
            | false =>
              go_wp2
              go_roundw
              case rel => exact ⟨j + 1, by omega, by go_num, H2.out⟩
              case measure => rw [hj1]; exact dec_lt hlt
          · have hnl : ((j : Int) < (l : Int)) = False := by simp; omega
            go_wp2
            go_ret
            exact ⟨_, rfl, hx.trans hw⟩

set_option maxHeartbeats 1000000 in
theorem size_any : ∀ (n : Nat) (x : Val) (w : World), Tree w n x → Calls Try.prog 44 #[(.agg #[.int .i64 x.k, .int .i64 x.i, .float .f64 x.f, .string x.s, (.slice x.A x.l x.c)])] w (RetN w) := by
  intro n
  induction n with
  | zero => intro x w h; exact h.elim
  | succ n ih =>
    intro x w h
    obtain ⟨k, i, f, s, A, l, c⟩ := x
    obtain ⟨-, -, -, h4, h5, h6, h7⟩ := h
    simp only at *
    cases hk : (k == 4) with
    | false =>
      clear h5 h6 h7
      go_enter Try.func44, Try.ntmps44
      go_wp2
      all_goals
        go_ret
        exact ⟨_, rfl, (Ext.refl _).alloc _⟩
    | true =>
      obtain rfl : k = 4 := by simpa using hk
      have V := VAt.new w 4 i f s (.slice A l c)
      have hx := x1 w (.cells #[.int .i64 4, .int .i64 i, .float .f64 f, .string s, .slice A l c] 31)
      have HL := Lib.hid (And.intro h5 h6)
      clear h5 h6 h4
      go_enter Try.func44, Try.ntmps44
      go_wp2_with fail
      revert V hx
      generalize World.alloc _ _ = w1
      generalize w.heap.size = bk
      intro V hx
      go_loopw [3, 4] (fun q i wr => ∃ (j : Nat) (z : Int), j ≤ l ∧ q = .int .i64 z ∧ i = .int .i64 j ∧ Ext w1 wr) (fun q i _ => l - (intOf i).toNat)
      case atStart => exact ⟨0, 2, Nat.zero_le _, rfl, rfl, Ext.refl _⟩
      case round =>
        obtain ⟨j, z, hj, rfl, rfl, hw⟩ := hrel
        obtain ⟨c0, c1, c2, c3, c4⟩ := (V.ext hw).pack
        by_cases hlt : j < l
        · obtain ⟨b, off, rfl, hel⟩ := h7 (by omega)
          obtain ⟨y, hat, ht⟩ := hel j hlt
          have hat := hat.ext (hx.trans hw)
          have ht := Tree.ext (hx.trans hw) _ _ ht
          have HT := Lib.hid ht
          clear ht
          obtain ⟨e0, e1, e2, e3, e4⟩ := hat
          have hji : (j : Int) < (l : Int) := by omega
          have hj1 : wrap64 ((j : Int) + 1) = (j : Int) + 1 := succ_in HL.out hlt
          go_wp2_with fail
          refine (ih y wr HT.out).mono ?_
          rintro e w2 ⟨bb, rfl, h2⟩
          have H2 := Lib.hid (hw.trans h2)
          clear h2 hw
          go_wp2
          go_roundw
          case rel => exact ⟨j + 1, _, by omega, rfl, by go_num, H2.out⟩
          case measure => rw [hj1]; exact dec_lt hlt
        · have hnl : ((j : Int) < (l : Int)) = False := by simp; omega
          go_wp2
          go_ret
          exact ⟨_, rfl, hx.trans hw⟩

theorem light_any (n : Nat) (x : Val) (w : World) (h : Tree w n x) : Calls Try.prog 27 #[(.agg #[.int .i64 x.k, .int .i64 x.i, .float .f64 x.f, .string x.s, (.slice x.A x.l x.c)])] w (RetB w) := by
  have H := Lib.hid h
  clear h
  have V0 := VAt.new w x.k x.i x.f x.s (.slice x.A x.l x.c)
  have hx0 := x1 w (.cells #[.int .i64 x.k, .int .i64 x.i, .float .f64 x.f, .string x.s, .slice x.A x.l x.c] 31)
  go_enter Try.func27, Try.ntmps27
  go_wp2_with fail
  refine (deep_any n x _ _ (Tree.ext hx0 _ _ H.out)).mono ?_
  rintro e w1 ⟨b, rfl, h1⟩
  obtain ⟨c0, c1, c2, c3, c4⟩ := (V0.ext h1).pack
  have hx1 := hx0.trans h1
  clear h1 V0 hx0
  cases b with
  | true =>
    go_wp2
    go_ret
    exact ⟨_, rfl, hx1⟩
  | false =>
    go_wp2_with fail
    refine (size_any n x _ (Tree.ext hx1 _ _ H.out)).mono ?_
    rintro e w2 ⟨q, rfl, h2⟩
    go_wp2
    go_ret
    exact ⟨_, rfl, hx1.trans h2⟩
end Go.Proofs.Ytgodncdhkmpfaaa
