/- Deep, Light, Lights. -/
import Derived.Test.YtdcbpnkcpglhhaaValF
namespace Go.Proofs.Ytdcbpnkcpglhhaa
open Go.RowKit
set_option linter.unusedVariables false
set_option linter.unusedSimpArgs false
set_option linter.unnecessarySimpa false
attribute [local go_sem] stepR givesR fillE Ext.refl run_store_float

mutual
def deepT (d : Int) : T → Bool
  | .mk k _ _ _ l => if k = 4 then (if d = 0 then true else deepTs (d - 1) l) else false
def deepTs (d : Int) : List T → Bool
  | [] => false
  | t :: l => deepT d t || deepTs d l
end
theorem deepTs_any (d : Int) (l : List T) : deepTs d l = l.any (deepT d) := by
  induction l with
  | nil => rfl
  | cons t l ih => rw [deepTs, ih]; rfl
set_option maxRecDepth 100000 in
set_option maxHeartbeats 2000000 in
theorem deep_any {S : Nat → Prop} : ∀ (n : Nat) (w : World) (d : Int) (t : T) (A : Option Addr) (c : Nat), (0 ≤ d ∧ d ≤ 1000) → Rd w S n t A c → Calls Try.prog 49 #[t.val A c, .int .i64 d] w (RetX (.bool (deepT d t)) w)
  | 0, _, _, _, _, _, _, h => h.elim
  | n + 1, w, d, .mk k i f s l, A, c, hd, h => by
    have ih := deep_any (S := S) n
    obtain ⟨h1, h2, h3, h4, h5, h6, h7⟩ := h
    have hmm : maxLen ≤ 9223372036854775807 := by decide
    show Calls _ _ #[.agg #[.int .i64 k, .int .i64 i, .float .f64 f, .string s, .slice A l.length c], .int .i64 d] _ _
    have e : deepT d (.mk k i f s l) = if k = 4 then (if d = 0 then true else deepTs (d - 1) l) else false := by rw [deepT]
    rw [e]
    clear e
    have HX := Lib.hid ((Ext.refl w).alloc (.cells #[.int .i64 k, .int .i64 i, .float .f64 f, .string s, .slice A l.length c] 28))
    have HO := Lib.hid (heap_alloc_new w (.cells #[.int .i64 k, .int .i64 i, .float .f64 f, .string s, .slice A l.length c] 28))
    by_cases k4 : k = 4
    · subst k4
      rw [if_pos rfl]
      clear h1 h2 h3 h4
      by_cases hd0 : d = 0
      · subst hd0
        rw [if_pos rfl]
        clear h5 h6 h7 ih hd
        go_enter Try.func49, Try.ntmps49
        go_wp2_with fail
        go_ret
        exact ⟨rfl, HX.out⟩
      rw [if_neg hd0, deepTs_any]
      have hd0' : (d == 0) = false := by simpa using hd0
      have H := Lib.hid h7
      have HL := Lib.hid (And.intro hmm (Nat.le_trans h5 h6))
      have hwd : IntKind.i64.wrap (d - 1) = d - 1 := IntWalk.i64_in _ (by omega)
      have HD := Lib.hid (show 0 ≤ d - 1 ∧ d - 1 ≤ 1000 by omega)
      clear h7 hmm h5 h6 hd
      have hyes : (∃ (j : Nat) (t : T), l[j]? = some t ∧ deepT (d - 1) t = true) → l.any (deepT (d - 1)) = true := by
        rintro ⟨j, t, ht, hs⟩
        exact List.any_eq_true.2 ⟨t, List.mem_of_getElem? ht, hs⟩
      have hno : (∀ (j : Nat) (t : T), j < l.length → l[j]? = some t → deepT (d - 1) t = false) → l.any (deepT (d - 1)) = false := by
        intro hh
        rw [List.any_eq_false]
        intro t ht
        obtain ⟨j, hj, rfl⟩ := List.getElem_of_mem ht
        simp [hh j _ hj (List.getElem?_eq_getElem hj)]
      have HY := Lib.hid hyes
      have HNO := Lib.hid hno
      clear hyes hno
      generalize (l.any (deepT (d - 1))) = z at *
      go_enter Try.func49, Try.ntmps49
      go_wp2_with fail
      have ha := HX.out
      have ho := HO.out
      revert ha ho
      generalize World.alloc _ _ = w0
      generalize w.heap.size = bx
      intro ha ho
      go_loopw [5] (fun i wr => ∃ j : Nat, j ≤ l.length ∧ i = .int .i64 j ∧ Ext w0 wr ∧ ∀ q u, q < j → l[q]? = some u → deepT (d - 1) u = false) (fun i _ => l.length - (intOf i).toNat)
      case atStart => exact ⟨0, Nat.zero_le _, rfl, Ext.refl _, fun q u hq => by omega⟩
      case round =>
        obtain ⟨j, hj, rfl, hx0, hpre⟩ := hrel
        have hx := ha.trans hx0
        have ob := hx0.obj ho
        have v4 : wr.cell? ⟨bx, 4, none⟩ = some (.slice A l.length c) := (cell_of_row wr bx 4 _ _ _ ob).trans rfl
        by_cases hlt : j < l.length
        · obtain ⟨b, off, rfl, hb, hat⟩ := H.out (by omega)
          obtain ⟨t, ht⟩ : ∃ t, l[j]? = some t := ⟨_, List.getElem?_eq_getElem hlt⟩
          obtain ⟨A1, c1, hta, hr⟩ := hat j t ht
          have T1 := ih wr (d - 1) t A1 c1 HD.out (hr.ext hx)
          have HX2 := Lib.hid (And.intro hx0 (And.intro ht (And.intro hpre hx)))
          obtain ⟨k', i', f', s', l'⟩ := t
          obtain ⟨a0, a1, a2, a3, a4⟩ := hta
          have b0 := hx.cell a0
          have b1 := hx.cell a1
          have b2 := hx.cell a2
          have b3 := hx.cell a3
          have b4 := hx.cell a4
          have hji : (j : Int) < (l.length : Int) := by omega
          have hjn : ((j : Int) < 0) = False := by simp
          have hw1 : IntKind.i64.wrap ((j : Int) + 1) = (j : Int) + 1 := IntWalk.i64_in _ (by have := HL.out.2; have := HL.out.1; omega)
          simp only [T.val] at T1
          have HJ := Lib.hid hlt
          clear hx hx0 ht hat a0 a1 a2 a3 a4 hr hj hpre hlt ob
          cases hs : deepT (d - 1) (.mk k' i' f' s' l') with
          | true =>
            obtain rfl := HY.out ⟨j, _, HX2.out.2.1, hs⟩
            rw [hs] at T1
            go_wp2_with fail
            refine T1.mono ?_
            rintro e w1 ⟨rfl, hx1⟩
            go_wp2_with fail
            go_ret
            exact ⟨rfl, HX2.out.2.2.2.trans hx1⟩
          | false =>
            rw [hs] at T1
            go_wp2_with fail
            refine T1.mono ?_
            rintro e w1 ⟨rfl, hx1⟩
            go_wp2_with fail
            go_roundw
            case rel =>
              refine ⟨j + 1, HJ.out, by go_num, HX2.out.1.trans hx1, fun q u hq hu => ?_⟩
              rcases Nat.lt_succ_iff_lt_or_eq.1 hq with hq | rfl
              · exact HX2.out.2.2.1 q u hq hu
              · rw [HX2.out.2.1] at hu
                cases hu
                exact hs
            case measure => have := HJ.out; simp [intOf]; omega
        · obtain rfl : j = l.length := by omega
          obtain rfl := HNO.out (fun q u hq hu => hpre q u hq hu)
          have HX2 := Lib.hid hx
          have hnl : decide ((l.length : Int) < (l.length : Int)) = false := by simp
          clear hx hx0 hlt ob hpre
          go_wp2_with fail
          go_ret
          exact ⟨rfl, HX2.out⟩
    · rw [if_neg k4]
      have q4 : (k == 4) = false := by simpa using k4
      have q5 : (k != 4) = true := by simpa using k4
      clear h1 h2 h3 h4 h5 h6 h7 ih hd k4
      go_enter Try.func49, Try.ntmps49
      go_wp2_with fail
      go_ret
      exact ⟨rfl, HX.out⟩
def lightT (t : T) : Bool := !deepT 20 t && decide (wsz (sizeT t) ≤ 6000)
theorem light_any {S : Nat → Prop} {n : Nat} {w : World} {t : T} {A : Option Addr} {c : Nat} (h : Rd w S n t A c) : Calls Try.prog 25 #[t.val A c] w (RetX (.bool (lightT t)) w) := by
  have T1 := fun w' (hx : Ext w w') => deep_any n w' 20 t A c (by omega) (h.ext hx)
  have T2 := fun w' (hx : Ext w w') => rsize_any n w' t A c (h.ext hx)
  unfold lightT
  generalize deepT 20 t = z1 at *
  generalize wsz (sizeT t) = z2 at *
  obtain ⟨k, i, f, s, l⟩ := t
  simp only [T.val] at T1 T2
  show Calls _ _ #[.agg #[.int .i64 k, .int .i64 i, .float .f64 f, .string s, .slice A l.length c]] _ _
  have hx : Ext w (w.alloc (.cells #[.int .i64 k, .int .i64 i, .float .f64 f, .string s, .slice A l.length c] 28)) := (Ext.refl w).alloc _
  have o := heap_alloc_new w (.cells #[.int .i64 k, .int .i64 i, .float .f64 f, .string s, .slice A l.length c] 28)
  have HX := Lib.hid (And.intro hx o)
  have C1 := T1 _ hx
  clear h hx o T1
  cases z1 with
  | true =>
    rw [show (!true && decide (z2 ≤ 6000)) = false from rfl]
    go_enter Try.func25, Try.ntmps25
    go_wp2_with fail
    refine C1.mono ?_
    rintro e w1 ⟨rfl, hx1⟩
    go_wp2_with fail
    go_ret
    exact ⟨rfl, HX.out.1.trans hx1⟩
  | false =>
    rw [show (!false && decide (z2 ≤ 6000)) = decide (z2 ≤ 6000) by simp]
    go_enter Try.func25, Try.ntmps25
    go_wp2_with fail
    refine C1.mono ?_
    rintro e w1 ⟨rfl, hx1⟩
    have hx2 := HX.out.1.trans hx1
    have o1 := hx1.obj HX.out.2
    have a0 := (cell_of_row w1 w.heap.size 0 _ _ _ o1).trans rfl
    have a1 := (cell_of_row w1 w.heap.size 1 _ _ _ o1).trans rfl
    have a2 := (cell_of_row w1 w.heap.size 2 _ _ _ o1).trans rfl
    have a3 := (cell_of_row w1 w.heap.size 3 _ _ _ o1).trans rfl
    have a4 := (cell_of_row w1 w.heap.size 4 _ _ _ o1).trans rfl
    have C2 := T2 _ hx2
    have HX2 := Lib.hid hx2
    clear C1 hx2 o1 T2 hx1
    go_wp2_with fail
    refine C2.mono ?_
    rintro e w2 ⟨rfl, hx3⟩
    go_wp2_with fail
    go_ret
    exact ⟨rfl, HX2.out.trans hx3⟩
def lightsB (l : List T) : Bool := decide (l.length ≤ 40) && l.all lightT
set_option maxRecDepth 100000 in
set_option maxHeartbeats 1000000 in
theorem lights_any {S : Nat → Prop} {n : Nat} {w : World} {l : List T} {A : Option Addr} {c : Nat} (h : Rds w S n A c l) : Calls Try.prog 11 #[.slice A l.length c] w (RetX (.bool (lightsB l)) w) := by
  obtain ⟨h1, h2, h3⟩ := h
  have ih := fun (w' : World) (t : T) (A : Option Addr) (c : Nat) (h : Rd w' S n t A c) => light_any h
  unfold lightsB
  by_cases h40 : 40 < l.length
  · have h40' : (40 : Int) < (l.length : Int) := by omega
    rw [decide_eq_false (show ¬ l.length ≤ 40 by omega), Bool.false_and]
    clear h1 h2 h3 ih h40
    go_enter Try.func11, Try.ntmps11
    go_wp2_with fail
    go_ret
    exact ⟨rfl, Ext.refl _⟩
  have h40' : decide ((40 : Int) < (l.length : Int)) = false := decide_eq_false (by omega)
  rw [decide_eq_true (show l.length ≤ 40 by omega), Bool.true_and]
  have hno : (∃ (j : Nat) (t : T), l[j]? = some t ∧ lightT t = false) → l.all lightT = false := by
    rintro ⟨j, t, ht, hs⟩
    exact List.all_eq_false.2 ⟨t, List.mem_of_getElem? ht, by simp [hs]⟩
  have hyes : (∀ (j : Nat) (t : T), j < l.length → l[j]? = some t → lightT t = true) → l.all lightT = true := by
    intro hh
    rw [List.all_eq_true]
    intro t ht
    obtain ⟨j, hj, rfl⟩ := List.getElem_of_mem ht
    exact hh j _ hj (List.getElem?_eq_getElem hj)
  have HY := Lib.hid hyes
  have HNO := Lib.hid hno
  have H := Lib.hid h3
  have HL := Lib.hid (show l.length ≤ 40 by omega)
  clear hyes hno h1 h2 h3 h40
  generalize l.all lightT = z at *
  go_enter Try.func11, Try.ntmps11
  go_wp2_with fail
  go_loopw [3] (fun i wr => ∃ j : Nat, j ≤ l.length ∧ i = .int .i64 j ∧ Ext w wr ∧ ∀ q u, q < j → l[q]? = some u → lightT u = true) (fun i _ => l.length - (intOf i).toNat)
  case atStart => exact ⟨0, Nat.zero_le _, rfl, Ext.refl _, fun q u hq => by omega⟩
  case round =>
    obtain ⟨j, hj, rfl, hx, hpre⟩ := hrel
    by_cases hlt : j < l.length
    · obtain ⟨b, off, rfl, hb, hat⟩ := H.out (by omega)
      obtain ⟨t, ht⟩ : ∃ t, l[j]? = some t := ⟨_, List.getElem?_eq_getElem hlt⟩
      obtain ⟨A1, c1, hta, hr⟩ := hat j t ht
      have T1 := ih wr t A1 c1 (hr.ext hx)
      have HX2 := Lib.hid (And.intro hx (And.intro ht hpre))
      obtain ⟨k', i', f', s', l'⟩ := t
      obtain ⟨a0, a1, a2, a3, a4⟩ := hta
      have b0 := hx.cell a0
      have b1 := hx.cell a1
      have b2 := hx.cell a2
      have b3 := hx.cell a3
      have b4 := hx.cell a4
      have hji : (j : Int) < (l.length : Int) := by omega
      have hjn : ((j : Int) < 0) = False := by simp
      have hw1 : IntKind.i64.wrap ((j : Int) + 1) = (j : Int) + 1 := IntWalk.i64_in _ (by have := HL.out; omega)
      simp only [T.val] at T1
      have HJ := Lib.hid hlt
      clear hx ht hat a0 a1 a2 a3 a4 hr hj hpre hlt
      cases hs : lightT (.mk k' i' f' s' l') with
      | false =>
        obtain rfl := HNO.out ⟨j, _, HX2.out.2.1, hs⟩
        rw [hs] at T1
        go_wp2_with fail
        refine T1.mono ?_
        rintro e w1 ⟨rfl, hx1⟩
        go_wp2_with fail
        go_ret
        exact ⟨rfl, HX2.out.1.trans hx1⟩
      | true =>
        rw [hs] at T1
        go_wp2_with fail
        refine T1.mono ?_
        rintro e w1 ⟨rfl, hx1⟩
        go_wp2_with fail
        go_roundw
        case rel =>
          refine ⟨j + 1, HJ.out, by go_num, HX2.out.1.trans hx1, fun q u hq hu => ?_⟩
          rcases Nat.lt_succ_iff_lt_or_eq.1 hq with hq | rfl
          · exact HX2.out.2.2 q u hq hu
          · rw [HX2.out.2.1] at hu
            cases hu
            exact hs
        case measure => have := HJ.out; simp [intOf]; omega
    · obtain rfl : j = l.length := by omega
      obtain rfl := HY.out (fun q u hq hu => hpre q u hq hu)
      have HX2 := Lib.hid hx
      have hnl : decide ((l.length : Int) < (l.length : Int)) = false := by simp
      clear hx hlt hpre
      go_wp2_with fail
      go_ret
      exact ⟨rfl, HX2.out⟩
end Go.Proofs.Ytdcbpnkcpglhhaa
