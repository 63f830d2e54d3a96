/- The document's great, Check. -/
import Derived.Test.YtdcbpnkcpglhhaaValD
namespace Go.Proofs.Ytdcbpnkcpglhhaa
open Go.RowKit
set_option linter.unusedVariables false
set_option linter.unusedSimpArgs false
set_option linter.unnecessarySimpa false
attribute [local go_sem] stepR givesR fillE Ext.refl run_store_float

set_option maxRecDepth 100000 in
set_option maxHeartbeats 2000000 in
theorem rgreat_any {S : Nat → Prop} : ∀ (n : Nat) (w : World) (d : Int) (t : T) (A : Option Addr) (c : Nat), (0 ≤ d ∧ d ≤ 1000) → Rd w S n t A c → Calls Try.prog 52 #[t.val A c, .int .i64 d] w (RetX (.bool (greatT (8 - d) t)) w)
  | 0, _, _, _, _, _, _, h => h.elim
  | n + 1, w, d, .mk k i f s l, A, c, hd, h => by
    have ih := rgreat_any (S := S) n
    obtain ⟨h1, h2, h3, h4, h5, h6, h7⟩ := h
    have hmm : maxLen ≤ 9223372036854775807 := by decide
    show Calls _ _ #[.agg #[.int .i64 k, .int .i64 i, .float .f64 f, .string s, .slice A l.length c], .int .i64 d] _ _
    have e : greatT (8 - d) (.mk k i f s l) = if k = 3 then decide (256 < s.size) else if k = 4 then (decide (64 < l.length) || decide (8 - d < 1)) || greatTs (8 - d - 1) l else false := by rw [greatT]
    rw [e]
    clear e
    have HX := Lib.hid ((Ext.refl w).alloc (.cells #[.int .i64 k, .int .i64 i, .float .f64 f, .string s, .slice A l.length c] 28))
    have HO := Lib.hid (heap_alloc_new w (.cells #[.int .i64 k, .int .i64 i, .float .f64 f, .string s, .slice A l.length c] 28))
    by_cases k3 : k = 3
    · subst k3
      rw [if_pos rfl]
      clear h1 h2 h3 h4 h5 h6 h7 ih hd
      go_enter Try.func52, Try.ntmps52
      go_wp2_with fail
      go_ret
      exact ⟨by congr 2; simp; omega, HX.out⟩
    rw [if_neg k3]
    have q3 : (k == 3) = false := by simpa using k3
    by_cases k4 : k = 4
    · subst k4
      rw [if_pos rfl]
      clear h1 h2 h3 h4 k3 q3
      by_cases hd8 : 8 ≤ d
      · rw [show ((decide (64 < l.length) || decide (8 - d < 1)) || greatTs (8 - d - 1) l) = true by simp; omega]
        clear h5 h6 h7 ih hd
        go_enter Try.func52, Try.ntmps52
        go_wp2_with fail
        go_ret
        exact ⟨rfl, HX.out⟩
      have hd8' : decide (8 ≤ d) = false := by simpa using hd8
      by_cases hl : 64 < l.length
      · rw [show ((decide (64 < l.length) || decide (8 - d < 1)) || greatTs (8 - d - 1) l) = true by simp [hl]]
        have hl' : (64 : Int) < (l.length : Int) := by omega
        clear h5 h6 h7 ih hd hl hd8
        go_enter Try.func52, Try.ntmps52
        go_wp2_with fail
        go_ret
        exact ⟨rfl, HX.out⟩
      have hl' : decide ((64 : Int) < (l.length : Int)) = false := decide_eq_false (by omega)
      rw [show ((decide (64 < l.length) || decide (8 - d < 1)) || greatTs (8 - d - 1) l) = greatTs (8 - (d + 1)) l by
        rw [decide_eq_false hl, decide_eq_false (show ¬ (8 - d < 1) by omega), show 8 - d - 1 = 8 - (d + 1) by omega]; rfl]
      rw [greatTs_any]
      have H := Lib.hid h7
      have HL := Lib.hid (And.intro hmm (Nat.le_trans h5 h6))
      have hwd : IntKind.i64.wrap (d + 1) = d + 1 := IntWalk.i64_in _ (by omega)
      have HD := Lib.hid (show 0 ≤ d + 1 ∧ d + 1 ≤ 1000 by omega)
      clear h7 hmm h5 h6 hl hd8 hd
      have hyes : (∃ (j : Nat) (t : T), l[j]? = some t ∧ greatT (8 - (d + 1)) t = true) → l.any (greatT (8 - (d + 1))) = true := by
        rintro ⟨j, t, ht, hs⟩
        exact List.any_eq_true.2 ⟨t, List.mem_of_getElem? ht, hs⟩
      have hno : (∀ (j : Nat) (t : T), j < l.length → l[j]? = some t → greatT (8 - (d + 1)) t = false) → l.any (greatT (8 - (d + 1))) = false := by
        intro hh
        rw [List.any_eq_false]
        intro t ht
        obtain ⟨j, hj, rfl⟩ := List.getElem_of_mem ht
        simp [hh j _ hj (List.getElem?_eq_getElem hj)]
      have HY := Lib.hid hyes
      have HNO := Lib.hid hno
      clear hyes hno
      generalize (l.any (greatT (8 - (d + 1)))) = z at *
      go_enter Try.func52, Try.ntmps52
      go_wp2_with fail
      have ha := HX.out
      have ho := HO.out
      revert ha ho
      generalize World.alloc _ _ = w0
      generalize w.heap.size = bx
      intro ha ho
      go_loopw [5] (fun i wr => ∃ j : Nat, j ≤ l.length ∧ i = .int .i64 j ∧ Ext w0 wr ∧ ∀ q u, q < j → l[q]? = some u → greatT (8 - (d + 1)) u = false) (fun i _ => l.length - (intOf i).toNat)
      case atStart => exact ⟨0, Nat.zero_le _, rfl, Ext.refl _, fun q u hq => by omega⟩
      case round =>
        obtain ⟨j, hj, rfl, hx0, hpre⟩ := hrel
        have hx := ha.trans hx0
        have ob := hx0.obj ho
        have v4 : wr.cell? ⟨bx, 4, none⟩ = some (.slice A l.length c) := (cell_of_row wr bx 4 _ _ _ ob).trans rfl
        by_cases hlt : j < l.length
        · obtain ⟨b, off, rfl, hb, hat⟩ := H.out (by omega)
          obtain ⟨t, ht⟩ : ∃ t, l[j]? = some t := ⟨_, List.getElem?_eq_getElem hlt⟩
          obtain ⟨A1, c1, hta, hr⟩ := hat j t ht
          have T1 := ih wr (d + 1) t A1 c1 HD.out (hr.ext hx)
          have HX2 := Lib.hid (And.intro hx0 (And.intro ht (And.intro hpre hx)))
          obtain ⟨k', i', f', s', l'⟩ := t
          obtain ⟨a0, a1, a2, a3, a4⟩ := hta
          have b0 := hx.cell a0
          have b1 := hx.cell a1
          have b2 := hx.cell a2
          have b3 := hx.cell a3
          have b4 := hx.cell a4
          have hji : (j : Int) < (l.length : Int) := by omega
          have hjn : ((j : Int) < 0) = False := by simp
          have hw1 : IntKind.i64.wrap ((j : Int) + 1) = (j : Int) + 1 := IntWalk.i64_in _ (by have := HL.out.2; have := HL.out.1; omega)
          simp only [T.val] at T1
          have HJ := Lib.hid hlt
          clear hx hx0 ht hat a0 a1 a2 a3 a4 hr hj hpre hlt ob
          cases hs : greatT (8 - (d + 1)) (.mk k' i' f' s' l') with
          | true =>
            obtain rfl := HY.out ⟨j, _, HX2.out.2.1, hs⟩
            rw [hs] at T1
            go_wp2_with fail
            refine T1.mono ?_
            rintro e w1 ⟨rfl, hx1⟩
            go_wp2_with fail
            go_ret
            exact ⟨rfl, HX2.out.2.2.2.trans hx1⟩
          | false =>
            rw [hs] at T1
            go_wp2_with fail
            refine T1.mono ?_
            rintro e w1 ⟨rfl, hx1⟩
            go_wp2_with fail
            go_roundw
            case rel =>
              refine ⟨j + 1, HJ.out, by go_num, HX2.out.1.trans hx1, fun q u hq hu => ?_⟩
              rcases Nat.lt_succ_iff_lt_or_eq.1 hq with hq | rfl
              · exact HX2.out.2.2.1 q u hq hu
              · rw [HX2.out.2.1] at hu
                cases hu
                exact hs
            case measure => have := HJ.out; simp [intOf]; omega
        · obtain rfl : j = l.length := by omega
          obtain rfl := HNO.out (fun q u hq hu => hpre q u hq hu)
          have HX2 := Lib.hid hx
          have hnl : decide ((l.length : Int) < (l.length : Int)) = false := by simp
          clear hx hx0 hlt ob hpre
          go_wp2_with fail
          go_ret
          exact ⟨rfl, HX2.out⟩
    · rw [if_neg k4]
      have q4 : (k == 4) = false := by simpa using k4
      have q5 : (k != 4) = true := by simpa using k4
      clear h1 h2 h3 h4 h5 h6 h7 ih hd k3 k4
      go_enter Try.func52, Try.ntmps52
      go_wp2_with fail
      go_ret
      exact ⟨rfl, HX.out⟩
end Go.Proofs.Ytdcbpnkcpglhhaa
