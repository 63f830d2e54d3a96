/- How great a value is. -/
import Derived.Test.YtdcbpnkcpglhhaaValA
namespace Go.Proofs.Ytdcbpnkcpglhhaa
open Go.RowKit
set_option linter.unusedVariables false
set_option linter.unusedSimpArgs false
attribute [local go_sem] stepR givesR fillE Ext.refl

theorem run_store_float {P : Program} {w : World} {a : Addr} {m : Mode} (k : FloatKind) (n : Nat) : (store a (.float k n) m).run P w = stored P w a (.float k n) m := run_store P w a _ m rfl
attribute [local go_sem] run_store_float

mutual
def sizeT : T → Int
  | .mk k _ _ s l => if k = 1 ∨ k = 2 then 9 else if k = 3 then 3 + s.size else if k = 4 then 2 + sizeTs l else 1
def sizeTs : List T → Int
  | [] => 0
  | t :: l => sizeT t + sizeTs l
end
theorem sizeTs_take (l : List T) (j : Nat) (t : T) (h : l[j]? = some t) : sizeTs (l.take (j + 1)) = sizeTs (l.take j) + sizeT t := by
  induction l generalizing j with
  | nil => simp at h
  | cons u l ih =>
    cases j with
    | zero =>
      simp at h
      subst h
      simp [sizeTs]
    | succ j =>
      simp only [List.take_succ_cons, sizeTs]
      rw [ih j (by simpa using h)]
      omega
/-- a sum, as 64 bits hold it -/
def wsz (n : Int) : Int := wrap64 n
theorem wrap_wsz (x y : Int) : wrap64 (wsz x + wsz y) = wsz (x + y) := by unfold wsz wrap64; omega
theorem wrap_text (n : Nat) : wrap64 (1 + wrap64 (2 + (n : Int))) = wsz (3 + n) := by unfold wsz wrap64; omega
set_option maxRecDepth 100000 in
set_option maxHeartbeats 2000000 in
theorem size_any {S : Nat → Prop} : ∀ (n : Nat) (w : World) (t : T) (A : Option Addr) (c : Nat), Rd w S n t A c → Calls Try.prog 37 #[t.val A c] w (RetX (.int .i64 (wsz (sizeT t))) w)
  | 0, _, _, _, _, h => h.elim
  | n + 1, w, .mk k i f s l, A, c, h => by
    have ih := size_any (S := S) n
    obtain ⟨h1, h2, h3, h4, h5, h6, h7⟩ := h
    have hmm : maxLen ≤ 9223372036854775807 := by decide
    show Calls _ _ #[.agg #[.int .i64 k, .int .i64 i, .float .f64 f, .string s, .slice A l.length c]] _ _
    have e : sizeT (.mk k i f s l) = if k = 1 ∨ k = 2 then (9 : Int) else if k = 3 then 3 + (s.size : Int) else if k = 4 then 2 + sizeTs l else 1 := by rw [sizeT]
    rw [e]
    clear e
    have HX := Lib.hid ((Ext.refl w).alloc (.cells #[.int .i64 k, .int .i64 i, .float .f64 f, .string s, .slice A l.length c] 28))
    by_cases k1 : k = 1
    · subst k1
      rw [if_pos (.inl rfl), show wsz 9 = 9 by unfold wsz wrap64; omega]
      clear h1 h2 h3 h4 h5 h6 h7 ih
      go_enter Try.func37, Try.ntmps37
      go_wp2_with fail
      go_ret
      exact ⟨rfl, HX.out⟩
    by_cases k2 : k = 2
    · subst k2
      rw [if_pos (.inr rfl), show wsz 9 = 9 by unfold wsz wrap64; omega]
      clear h1 h2 h3 h4 h5 h6 h7 ih k1
      go_enter Try.func37, Try.ntmps37
      go_wp2_with fail
      go_ret
      exact ⟨rfl, HX.out⟩
    rw [if_neg (by omega)]
    by_cases k3 : k = 3
    · subst k3
      rw [if_pos rfl]
      clear h1 h2 h3 h4 h5 h6 h7 ih k1 k2 hmm
      go_enter Try.func37, Try.ntmps37
      go_wp2_with fail
      go_ret
      exact ⟨by rw [← wrap_text s.size]; rfl, HX.out⟩
    rw [if_neg k3]
    have q1 : (k == 1) = false := by simpa using k1
    have q2 : (k == 2) = false := by simpa using k2
    have q3 : (k == 3) = false := by simpa using k3
    by_cases k4 : k = 4
    · subst k4
      rw [if_pos rfl]
      clear h1 h2 h3 h4 k1 k2 k3 q1 q2 q3
      have H := Lib.hid h7
      have HL := Lib.hid (And.intro hmm (Nat.le_trans h5 h6))
      clear h7 hmm h5 h6
      go_enter Try.func37, Try.ntmps37
      go_wp2_with fail
      have ha := HX.out
      revert ha
      generalize World.alloc _ _ = w0
      generalize w.heap.size = b0
      intro ha
      go_loopw [3, 28] (fun v i wr => ∃ j : Nat, j ≤ l.length ∧ i = .int .i64 j ∧ v = .int .i64 (wsz (2 + sizeTs (l.take j))) ∧ Ext w wr) (fun _ i _ => l.length - (intOf i).toNat)
      case atStart => exact ⟨0, Nat.zero_le _, rfl, by simp [sizeTs]; unfold wsz wrap64; omega, ha⟩
      case round =>
        obtain ⟨j, hj, rfl, rfl, hx⟩ := hrel
        by_cases hlt : j < l.length
        · obtain ⟨b, off, rfl, hb, hat⟩ := H.out (by omega)
          obtain ⟨t, ht⟩ : ∃ t, l[j]? = some t := ⟨_, List.getElem?_eq_getElem hlt⟩
          obtain ⟨A1, c1, hta, hr⟩ := hat j t ht
          have T1 := fun w' (hx' : Ext w w') => ih w' t A1 c1 (hr.ext hx')
          have hst := sizeTs_take l j t ht
          have HX2 := Lib.hid (And.intro hx (And.intro ht hst))
          obtain ⟨k', i', f', s', l'⟩ := t
          obtain ⟨a0, a1, a2, a3, a4⟩ := hta
          have b0 := hx.cell a0
          have b1 := hx.cell a1
          have b2 := hx.cell a2
          have b3 := hx.cell a3
          have b4 := hx.cell a4
          have hji : (j : Int) < (l.length : Int) := by omega
          have hjn : ((j : Int) < 0) = False := by simp
          have hw1 : IntKind.i64.wrap ((j : Int) + 1) = (j : Int) + 1 := IntWalk.i64_in _ (by have := HL.out.2; have := HL.out.1; omega)
          simp only [T.val] at T1
          have HJ := Lib.hid hlt
          have hx2 : Ext w (wr.alloc (.cells #[.int .i64 k', .int .i64 i', .float .f64 f', .string s', .slice A1 l'.length c1] 28)) := hx.alloc _
          have T2 := T1 _ hx2
          have HX3 := Lib.hid hx2
          clear hx ht hat a0 a1 a2 a3 a4 hr hj hst T1 hx2 hlt
          go_wp2_with fail
          refine T2.mono ?_
          rintro e w1 ⟨rfl, hx1⟩
          go_wp2_with fail
          go_roundw
          case rel => exact ⟨j + 1, HJ.out, by go_num, by rw [wrap_wsz, HX2.out.2.2]; congr 2; omega, HX3.out.trans hx1⟩
          case measure => have := HJ.out; simp [intOf]; omega
        · obtain rfl : j = l.length := by omega
          have HX2 := Lib.hid hx
          clear hx hlt
          rw [List.take_length]
          go_wp2_with fail
          go_ret
          exact ⟨rfl, HX2.out⟩
    · rw [if_neg k4, show wsz 1 = 1 by unfold wsz wrap64; omega]
      have q4 : (k == 4) = false := by simpa using k4
      clear h1 h2 h3 h4 h5 h6 h7 ih k1 k2 k3 k4
      go_enter Try.func37, Try.ntmps37
      go_wp2_with fail
      go_ret
      exact ⟨rfl, HX.out⟩
end Go.Proofs.Ytdcbpnkcpglhhaa
