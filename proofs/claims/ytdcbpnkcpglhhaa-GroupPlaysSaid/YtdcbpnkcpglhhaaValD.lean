/- The document's Size, kinds, great, Check. -/
import Derived.Test.YtdcbpnkcpglhhaaValC
namespace Go.Proofs.Ytdcbpnkcpglhhaa
open Go.RowKit
set_option linter.unusedVariables false
set_option linter.unusedSimpArgs false
set_option linter.unnecessarySimpa false
attribute [local go_sem] stepR givesR fillE Ext.refl run_store_float

set_option maxRecDepth 100000 in
set_option maxHeartbeats 2000000 in
theorem rsize_any {S : Nat → Prop} : ∀ (n : Nat) (w : World) (t : T) (A : Option Addr) (c : Nat), Rd w S n t A c → Calls Try.prog 50 #[t.val A c] w (RetX (.int .i64 (wsz (sizeT t))) w)
  | 0, _, _, _, _, h => h.elim
  | n + 1, w, .mk k i f s l, A, c, h => by
    have ih := rsize_any (S := S) n
    obtain ⟨h1, h2, h3, h4, h5, h6, h7⟩ := h
    have hmm : maxLen ≤ 9223372036854775807 := by decide
    show Calls _ _ #[.agg #[.int .i64 k, .int .i64 i, .float .f64 f, .string s, .slice A l.length c]] _ _
    have e : sizeT (.mk k i f s l) = if k = 1 ∨ k = 2 then (9 : Int) else if k = 3 then 3 + (s.size : Int) else if k = 4 then 2 + sizeTs l else 1 := by rw [sizeT]
    rw [e]
    clear e
    have hxa := (Ext.refl w).alloc (.cells #[.int .i64 k, .int .i64 i, .float .f64 f, .string s, .slice A l.length c] 28)
    have hoa := heap_alloc_new w (.cells #[.int .i64 k, .int .i64 i, .float .f64 f, .string s, .slice A l.length c] 28)
    have HX := Lib.hid hxa
    have HO := Lib.hid hoa
    clear hxa hoa
    by_cases k1 : k = 1
    · subst k1
      rw [if_pos (.inl rfl), show wsz 9 = 9 by unfold wsz wrap64; omega]
      clear h1 h2 h3 h4 h5 h6 h7 ih
      go_enter Try.func50, Try.ntmps50
      go_wp2_with fail
      go_ret
      exact ⟨rfl, HX.out⟩
    by_cases k2 : k = 2
    · subst k2
      rw [if_pos (.inr rfl), show wsz 9 = 9 by unfold wsz wrap64; omega]
      clear h1 h2 h3 h4 h5 h6 h7 ih k1
      go_enter Try.func50, Try.ntmps50
      go_wp2_with fail
      go_ret
      exact ⟨rfl, HX.out⟩
    rw [if_neg (by omega)]
    by_cases k3 : k = 3
    · subst k3
      rw [if_pos rfl]
      clear h1 h2 h3 h4 h5 h6 h7 ih k1 k2 hmm
      go_enter Try.func50, Try.ntmps50
      go_wp2_with fail
      go_ret
      exact ⟨by unfold wsz; rfl, HX.out⟩
    rw [if_neg k3]
    have q1 : (k == 1) = false := by simpa using k1
    have q2 : (k == 2) = false := by simpa using k2
    have q3 : (k == 3) = false := by simpa using k3
    by_cases k4 : k = 4
    · subst k4
      rw [if_pos rfl]
      clear h1 h2 h3 h4 k1 k2 k3 q1 q2 q3
      have H := Lib.hid h7
      have HL := Lib.hid (And.intro hmm (Nat.le_trans h5 h6))
      clear h7 hmm h5 h6
      go_enter Try.func50, Try.ntmps50
      go_wp2_with fail
      have ha := HX.out
      have ho := HO.out
      revert ha ho
      generalize World.alloc _ _ = w0
      generalize w.heap.size = bx
      intro ha ho
      go_loopw [3, 4] (fun v i wr => ∃ j : Nat, j ≤ l.length ∧ i = .int .i64 j ∧ v = .int .i64 (wsz (2 + sizeTs (l.take j))) ∧ Ext w0 wr) (fun _ i _ => l.length - (intOf i).toNat)
      case atStart => exact ⟨0, Nat.zero_le _, rfl, by simp [sizeTs]; unfold wsz wrap64; omega, Ext.refl _⟩
      case round =>
        obtain ⟨j, hj, rfl, rfl, hx0⟩ := hrel
        have hx := ha.trans hx0
        have ob := hx0.obj ho
        have v4 : wr.cell? ⟨bx, 4, none⟩ = some (.slice A l.length c) := (cell_of_row wr bx 4 _ _ _ ob).trans rfl
        by_cases hlt : j < l.length
        · obtain ⟨b, off, rfl, hb, hat⟩ := H.out (by omega)
          obtain ⟨t, ht⟩ : ∃ t, l[j]? = some t := ⟨_, List.getElem?_eq_getElem hlt⟩
          obtain ⟨A1, c1, hta, hr⟩ := hat j t ht
          have T1 := ih wr t A1 c1 (hr.ext hx)
          have hst := sizeTs_take l j t ht
          have HX2 := Lib.hid (And.intro hx0 (And.intro ht hst))
          obtain ⟨k', i', f', s', l'⟩ := t
          obtain ⟨a0, a1, a2, a3, a4⟩ := hta
          have b0 := hx.cell a0
          have b1 := hx.cell a1
          have b2 := hx.cell a2
          have b3 := hx.cell a3
          have b4 := hx.cell a4
          have hji : (j : Int) < (l.length : Int) := by omega
          have hjn : ((j : Int) < 0) = False := by simp
          have hw1 : IntKind.i64.wrap ((j : Int) + 1) = (j : Int) + 1 := IntWalk.i64_in _ (by have := HL.out.2; have := HL.out.1; omega)
          simp only [T.val] at T1
          have HJ := Lib.hid hlt
          clear hx hx0 ht hat a0 a1 a2 a3 a4 hr hj hst hlt ob
          go_wp2_with fail
          refine T1.mono ?_
          rintro e w1 ⟨rfl, hx1⟩
          go_wp2_with fail
          go_roundw
          case rel => exact ⟨j + 1, HJ.out, by go_num, by rw [wrap_wsz, HX2.out.2.2]; congr 2; omega, HX2.out.1.trans hx1⟩
          case measure => have := HJ.out; simp [intOf]; omega
        · obtain rfl : j = l.length := by omega
          have HX2 := Lib.hid hx
          clear hx hx0 hlt ob
          rw [List.take_length]
          go_wp2_with fail
          go_ret
          exact ⟨rfl, HX2.out⟩
    · rw [if_neg k4, show wsz 1 = 1 by unfold wsz wrap64; omega]
      have q4 : (k == 4) = false := by simpa using k4
      clear h1 h2 h3 h4 h5 h6 h7 ih k1 k2 k3 k4
      go_enter Try.func50, Try.ntmps50
      go_wp2_with fail
      go_ret
      exact ⟨rfl, HX.out⟩
set_option maxRecDepth 100000 in
set_option maxHeartbeats 2000000 in
theorem kinds_any {S : Nat → Prop} : ∀ (n : Nat) (w : World) (t : T) (A : Option Addr) (c : Nat), Rd w S n t A c → Calls Try.prog 51 #[t.val A c] w (RetX (.bool (!strangeT t)) w)
  | 0, _, _, _, _, h => h.elim
  | n + 1, w, .mk k i f s l, A, c, h => by
    have ih := kinds_any (S := S) n
    obtain ⟨h1, h2, h3, h4, h5, h6, h7⟩ := h
    have hmm : maxLen ≤ 9223372036854775807 := by decide
    show Calls _ _ #[.agg #[.int .i64 k, .int .i64 i, .float .f64 f, .string s, .slice A l.length c]] _ _
    have e : strangeT (.mk k i f s l) = (decide (k ≠ kindI k) || (decide (k = 4) && strangeTs l)) := by rw [strangeT]
    rw [e]
    clear e
    have hxa := (Ext.refl w).alloc (.cells #[.int .i64 k, .int .i64 i, .float .f64 f, .string s, .slice A l.length c] 28)
    have hoa := heap_alloc_new w (.cells #[.int .i64 k, .int .i64 i, .float .f64 f, .string s, .slice A l.length c] 28)
    have HX := Lib.hid hxa
    have HO := Lib.hid hoa
    clear hxa hoa
    by_cases k1 : k < 0
    · have e1 : decide (k ≠ kindI k) = true := by unfold kindI; rw [if_pos (.inl k1)]; simp; omega
      rw [e1, show (!(true || (decide (k = 4) && strangeTs l))) = false from rfl]
      clear e1
      clear h1 h2 h3 h4 h5 h6 h7 ih
      go_enter Try.func51, Try.ntmps51
      go_wp2_with fail
      go_ret
      exact ⟨rfl, HX.out⟩
    have q1 : decide (k < 0) = false := by simpa using k1
    by_cases k2 : 4 < k
    · have e1 : decide (k ≠ kindI k) = true := by unfold kindI; rw [if_pos (.inr k2)]; simp; omega
      rw [e1, show (!(true || (decide (k = 4) && strangeTs l))) = false from rfl]
      clear e1
      clear h1 h2 h3 h4 h5 h6 h7 ih
      go_enter Try.func51, Try.ntmps51
      go_wp2_with fail
      go_ret
      exact ⟨rfl, HX.out⟩
    have q2 : decide (4 < k) = false := by simpa using k2
    have e1 : decide (k ≠ kindI k) = false := by unfold kindI; rw [if_neg (by omega)]; simp
    rw [e1, Bool.false_or]
    clear e1
    by_cases k4 : k = 4
    · subst k4
      rw [show (decide ((4 : Int) = 4) && strangeTs l) = strangeTs l by simp]
      clear h1 h2 h3 h4 k1 k2 q1 q2
      have H := Lib.hid h7
      have HL := Lib.hid (And.intro hmm (Nat.le_trans h5 h6))
      clear h7 hmm h5 h6
      rw [strangeTs_any]
      have hyes : (∃ (j : Nat) (t : T), l[j]? = some t ∧ strangeT t = true) → (!l.any strangeT) = false := by
        rintro ⟨j, t, ht, hs⟩
        rw [List.any_eq_true.2 ⟨t, List.mem_of_getElem? ht, hs⟩]
        rfl
      have hno : (∀ (j : Nat) (t : T), j < l.length → l[j]? = some t → strangeT t = false) → (!l.any strangeT) = true := by
        intro hh
        have : l.any strangeT = false := by
          rw [List.any_eq_false]
          intro t ht
          obtain ⟨j, hj, rfl⟩ := List.getElem_of_mem ht
          simp [hh j _ hj (List.getElem?_eq_getElem hj)]
        rw [this]
        rfl
      have HY := Lib.hid hyes
      have HNO := Lib.hid hno
      clear hyes hno
      generalize (!l.any strangeT) = z at *
      go_enter Try.func51, Try.ntmps51
      go_wp2_with fail
      have ha := HX.out
      have ho := HO.out
      revert ha ho
      generalize World.alloc _ _ = w0
      generalize w.heap.size = bx
      intro ha ho
      go_loopw [3] (fun i wr => ∃ j : Nat, j ≤ l.length ∧ i = .int .i64 j ∧ Ext w0 wr ∧ ∀ q u, q < j → l[q]? = some u → strangeT u = false) (fun i _ => l.length - (intOf i).toNat)
      case atStart => exact ⟨0, Nat.zero_le _, rfl, Ext.refl _, fun q u hq => by omega⟩
      case round =>
        obtain ⟨j, hj, rfl, hx0, hpre⟩ := hrel
        have hx := ha.trans hx0
        have ob := hx0.obj ho
        have v0 : wr.cell? ⟨bx, 0, none⟩ = some (.int .i64 4) := (cell_of_row wr bx 0 _ _ _ ob).trans rfl
        have v4 : wr.cell? ⟨bx, 4, none⟩ = some (.slice A l.length c) := (cell_of_row wr bx 4 _ _ _ ob).trans rfl
        by_cases hlt : j < l.length
        · obtain ⟨b, off, rfl, hb, hat⟩ := H.out (by omega)
          obtain ⟨t, ht⟩ : ∃ t, l[j]? = some t := ⟨_, List.getElem?_eq_getElem hlt⟩
          obtain ⟨A1, c1, hta, hr⟩ := hat j t ht
          have T1 := ih wr t A1 c1 (hr.ext hx)
          have HX2 := Lib.hid (And.intro hx0 (And.intro ht (And.intro hpre hx)))
          obtain ⟨k', i', f', s', l'⟩ := t
          obtain ⟨a0, a1, a2, a3, a4⟩ := hta
          have b0 := hx.cell a0
          have b1 := hx.cell a1
          have b2 := hx.cell a2
          have b3 := hx.cell a3
          have b4 := hx.cell a4
          have hji : (j : Int) < (l.length : Int) := by omega
          have hjn : ((j : Int) < 0) = False := by simp
          have hw1 : IntKind.i64.wrap ((j : Int) + 1) = (j : Int) + 1 := IntWalk.i64_in _ (by have := HL.out.2; have := HL.out.1; omega)
          simp only [T.val] at T1
          have HJ := Lib.hid hlt
          clear hx hx0 ht hat a0 a1 a2 a3 a4 hr hj hpre hlt ob
          cases hs : strangeT (.mk k' i' f' s' l') with
          | true =>
            obtain rfl := HY.out ⟨j, _, HX2.out.2.1, hs⟩
            rw [hs] at T1
            go_wp2_with fail
            refine T1.mono ?_
            rintro e w1 ⟨rfl, hx1⟩
            go_wp2_with fail
            go_ret
            exact ⟨rfl, HX2.out.2.2.2.trans hx1⟩
          | false =>
            rw [hs] at T1
            go_wp2_with fail
            refine T1.mono ?_
            rintro e w1 ⟨rfl, hx1⟩
            go_wp2_with fail
            go_roundw
            case rel =>
              refine ⟨j + 1, HJ.out, by go_num, HX2.out.1.trans hx1, fun q u hq hu => ?_⟩
              rcases Nat.lt_succ_iff_lt_or_eq.1 hq with hq | rfl
              · exact HX2.out.2.2.1 q u hq hu
              · rw [HX2.out.2.1] at hu
                cases hu
                exact hs
            case measure => have := HJ.out; simp [intOf]; omega
        · obtain rfl : j = l.length := by omega
          obtain rfl := HNO.out (fun q u hq hu => hpre q u hq hu)
          have HX2 := Lib.hid hx
          have hnl : decide ((l.length : Int) < (l.length : Int)) = false := by simp
          clear hx hx0 hlt ob hpre
          go_wp2_with fail
          go_ret
          exact ⟨rfl, HX2.out⟩
    · have q4 : (k == 4) = false := by simpa using k4
      rw [show (!(decide (k = 4) && strangeTs l)) = true by simp [k4]]
      have hoa := HO.out
      by_cases hl0 : 0 < l.length
      · have hl0' : (0 : Int) < (l.length : Int) := by omega
        clear h1 h2 h3 h4 h5 h6 h7 ih
        go_enter Try.func51, Try.ntmps51
        go_wp2_with fail
        go_rounds 1
        go_ret
        exact ⟨rfl, HX.out⟩
      · have hl0' : decide ((0 : Int) < (l.length : Int)) = false := decide_eq_false (by omega)
        clear h1 h2 h3 h4 h5 h6 h7 ih
        go_enter Try.func51, Try.ntmps51
        go_wp2_with fail
        go_rounds 1
        go_ret
        exact ⟨rfl, HX.out⟩
end Go.Proofs.Ytdcbpnkcpglhhaa
