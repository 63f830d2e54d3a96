/- What is too great; Check. -/
import Derived.Test.YtdcbpnkcpglhhaaValB
namespace Go.Proofs.Ytdcbpnkcpglhhaa
open Go.RowKit
set_option linter.unusedVariables false
set_option linter.unusedSimpArgs false
set_option linter.unnecessarySimpa false
attribute [local go_sem] stepR givesR fillE Ext.refl run_store_float

set_option maxRecDepth 100000 in
set_option maxHeartbeats 1000000 in
theorem index_great {S : Nat → Prop} {n : Nat} {p : T → Bool} {bd : Nat} (w : World) (ih : ∀ (wr : World) (t : T) (A : Option Addr) (c : Nat), Ext w wr → Rd wr S n t A c → Calls Try.prog 58 #[t.val A c, .pointer (some ⟨bd, 0, none⟩)] wr (RetX (.bool (p t)) wr)) (A : Option Addr) (c : Nat) (l : List T) (h : RowOf w S (Rd w S n) A l) (hl : l.length ≤ maxLen) :
    Calls Try.prog 67 #[.slice A l.length c, .func (.func 58) #[] #[.pointer (some ⟨bd, 0, none⟩)]] w (RetX (.int .i64 (firstAt p l)) w) := by
  have H := Lib.hid h
  have hmm : maxLen ≤ 9223372036854775807 := by decide
  have HL := Lib.hid hl
  have HM := Lib.hid hmm
  clear h hl hmm
  go_enter Try.func67, Try.ntmps67
  go_wp2_with fail
  go_loopw [8] (fun i wr => ∃ j : Nat, j ≤ l.length ∧ i = .int .i64 j ∧ Ext w wr ∧ ∀ q u, q < j → l[q]? = some u → p u = false) (fun i _ => l.length - (intOf i).toNat)
  case atStart => exact ⟨0, Nat.zero_le _, rfl, Ext.refl _, fun q u hq => by omega⟩
  case round =>
    obtain ⟨j, hj, rfl, hx, hno⟩ := hrel
    by_cases hlt : j < l.length
    · obtain ⟨b, off, rfl, hb, hat⟩ := H.out (by omega)
      obtain ⟨t, ht⟩ : ∃ t, l[j]? = some t := ⟨_, List.getElem?_eq_getElem hlt⟩
      obtain ⟨A1, c1, ha, hr⟩ := hat j t ht
      have T1 := ih wr t A1 c1 hx (hr.ext hx)
      have HX := Lib.hid (And.intro hx (And.intro hno ht))
      obtain ⟨k, i, f, s, l1⟩ := t
      obtain ⟨a0, a1, a2, a3, a4⟩ := ha
      have b0 := hx.cell a0
      have b1 := hx.cell a1
      have b2 := hx.cell a2
      have b3 := hx.cell a3
      have b4 := hx.cell a4
      have hji : (j : Int) < (l.length : Int) := by omega
      have hjn : ((j : Int) < 0) = False := by simp
      have hw1 : IntKind.i64.wrap ((j : Int) + 1) = (j : Int) + 1 := IntWalk.i64_in _ (by have := HL.out; have := HM.out; omega)
      simp only [T.val] at T1
      clear hx hno ht hat a0 a1 a2 a3 a4 hr hj
      cases hs : p (.mk k i f s l1) with
      | true =>
        rw [hs] at T1
        go_wp2_with fail
        refine T1.mono ?_
        rintro e w1 ⟨rfl, hx1⟩
        go_wp2_with fail
        go_ret
        refine ⟨?_, HX.out.1.trans hx1⟩
        rw [firstAt_hit HX.out.2.2 hs HX.out.2.1]
        rfl
      | false =>
        rw [hs] at T1
        go_wp2_with fail
        refine T1.mono ?_
        rintro e w1 ⟨rfl, hx1⟩
        go_wp2_with fail
        have HJ := Lib.hid hlt
        go_roundw
        case rel =>
          refine ⟨j + 1, HJ.out, by go_num, HX.out.1.trans hx1, fun q u hq hu => ?_⟩
          rcases Nat.lt_succ_iff_lt_or_eq.1 hq with hq | rfl
          · exact HX.out.2.1 q u hq hu
          · rw [HX.out.2.2] at hu
            cases hu
            exact hs
        case measure => simp [intOf]; omega
    · obtain rfl : j = l.length := by omega
      have HX := Lib.hid (And.intro hx hno)
      clear hx hno
      go_wp2_with fail
      go_ret
      exact ⟨by rw [firstAt_none HX.out.2]; rfl, HX.out.1⟩
theorem contains_great {S : Nat → Prop} {n : Nat} {p : T → Bool} {bd : Nat} (w : World) (ih : ∀ (wr : World) (t : T) (A : Option Addr) (c : Nat), Ext w wr → Rd wr S n t A c → Calls Try.prog 58 #[t.val A c, .pointer (some ⟨bd, 0, none⟩)] wr (RetX (.bool (p t)) wr)) (A : Option Addr) (c : Nat) (l : List T) (h : RowOf w S (Rd w S n) A l) (hl : l.length ≤ maxLen) :
    Calls Try.prog 57 #[.slice A l.length c, .func (.func 58) #[] #[.pointer (some ⟨bd, 0, none⟩)]] w (RetX (.bool (l.any p)) w) := by
  have T1 := index_great w ih A c l h hl
  rw [← firstAt_nonneg]
  clear ih h hl
  generalize firstAt p l = z at *
  go_enter Try.func57, Try.ntmps57
  go_wp2_with fail
  refine T1.mono ?_
  rintro e w1 ⟨rfl, hx⟩
  go_wp2_with fail
  go_ret
  exact ⟨rfl, hx⟩
mutual
def greatT (d : Int) : T → Bool
  | .mk k _ _ s l => if k = 3 then decide (256 < s.size) else if k = 4 then (decide (64 < l.length) || decide (d < 1)) || greatTs (d - 1) l else false
def greatTs (d : Int) : List T → Bool
  | [] => false
  | t :: l => greatT d t || greatTs d l
end
theorem greatTs_any (d : Int) (l : List T) : greatTs d l = l.any (greatT d) := by
  induction l with
  | nil => rfl
  | cons t l ih => rw [greatTs, ih]; rfl
set_option maxRecDepth 100000 in
set_option maxHeartbeats 1000000 in
theorem great1_any {S : Nat → Prop} {n : Nat} (ih : ∀ (w : World) (d : Int) (t : T) (A : Option Addr) (c : Nat), (0 ≤ d ∧ d ≤ 1000) → Rd w S n t A c → Calls Try.prog 36 #[t.val A c, .int .i64 d] w (RetX (.bool (greatT d t)) w)) {w : World} {bd : Nat} {d : Int} (hd : 1 ≤ d ∧ d ≤ 1000) (hb : w.cell? ⟨bd, 0, none⟩ = some (.int .i64 d)) (t : T) (A : Option Addr) (c : Nat) (h : Rd w S n t A c) :
    Calls Try.prog 58 #[t.val A c, .pointer (some ⟨bd, 0, none⟩)] w (RetX (.bool (greatT (d - 1) t)) w) := by
  obtain ⟨k, i, f, s, l⟩ := t
  have hx : Ext w (w.alloc (.cells #[.int .i64 k, .int .i64 i, .float .f64 f, .string s, .slice A l.length c] 28)) := (Ext.refl w).alloc _
  have T1 := ih _ (d - 1) _ A c (by omega) (h.ext hx)
  have hb2 := hx.cell hb
  have o := heap_alloc_new w (.cells #[.int .i64 k, .int .i64 i, .float .f64 f, .string s, .slice A l.length c] 28)
  have HX := Lib.hid hx
  have hw1 : wrap64 (d - 1) = d - 1 := IntWalk.wrap64_in _ (by omega)
  have hw2 : IntKind.i64.wrap (d - 1) = d - 1 := IntWalk.i64_in _ (by omega)
  clear h ih hx
  generalize greatT (d - 1) (.mk k i f s l) = z at *
  show Calls _ _ #[.agg #[.int .i64 k, .int .i64 i, .float .f64 f, .string s, .slice A l.length c], .pointer (some ⟨bd, 0, none⟩)] _ _
  simp only [T.val] at T1
  go_enter Try.func58, Try.ntmps58
  go_wp2_with fail
  refine T1.mono ?_
  rintro e w1 ⟨rfl, hx1⟩
  go_wp2_with fail
  go_ret
  exact ⟨rfl, HX.out.trans hx1⟩
set_option maxRecDepth 100000 in
set_option maxHeartbeats 1000000 in
theorem great_any {S : Nat → Prop} : ∀ (n : Nat) (w : World) (d : Int) (t : T) (A : Option Addr) (c : Nat), (0 ≤ d ∧ d ≤ 1000) → Rd w S n t A c → Calls Try.prog 36 #[t.val A c, .int .i64 d] w (RetX (.bool (greatT d t)) w)
  | 0, _, _, _, _, _, _, h => h.elim
  | n + 1, w, d, .mk k i f s l, A, c, hd, h => by
    have ih := great_any (S := S) n
    obtain ⟨h1, h2, h3, h4, h5, h6, h7⟩ := h
    show Calls _ _ #[.agg #[.int .i64 k, .int .i64 i, .float .f64 f, .string s, .slice A l.length c], .int .i64 d] _ _
    have e : greatT d (.mk k i f s l) = if k = 3 then decide (256 < s.size) else if k = 4 then (decide (64 < l.length) || decide (d < 1)) || greatTs (d - 1) l else false := by rw [greatT]
    rw [e]
    clear e
    have hx : Ext w ((w.alloc (.cells #[.int .i64 k, .int .i64 i, .float .f64 f, .string s, .slice A l.length c] 28)).alloc (.cells #[.int .i64 d] 3)) := ((Ext.refl w).alloc _).alloc _
    have o : ((w.alloc (.cells #[.int .i64 k, .int .i64 i, .float .f64 f, .string s, .slice A l.length c] 28)).alloc (.cells #[.int .i64 d] 3)).cell? ⟨w.heap.size + 1, 0, none⟩ = some (.int .i64 d) := by
      have := heap_alloc_new (w.alloc (.cells #[.int .i64 k, .int .i64 i, .float .f64 f, .string s, .slice A l.length c] 28)) (.cells #[.int .i64 d] 3)
      have h2 := cell_of_row _ _ 0 _ _ _ this
      simpa using h2
    have HX := Lib.hid hx
    by_cases k3 : k = 3
    · subst k3
      rw [if_pos rfl]
      clear h1 h2 h3 h4 h5 h6 h7 ih hx o hd
      go_enter Try.func36, Try.ntmps36
      go_wp2_with fail
      go_ret
      exact ⟨by congr 2; simp; omega, HX.out⟩
    rw [if_neg k3]
    have q3 : (k == 3) = false := by simpa using k3
    by_cases k4 : k = 4
    · subst k4
      rw [if_pos rfl]
      clear h1 h2 h3 h4 k3 q3
      by_cases hl : 64 < l.length
      · have e1 : decide (64 < l.length) = true := by simpa using hl
        rw [e1]
        have hl' : (64 : Int) < (l.length : Int) := by omega
        clear h5 h6 h7 ih hx o hd e1 hl
        go_enter Try.func36, Try.ntmps36
        go_wp2_with fail
        go_ret
        exact ⟨rfl, HX.out⟩
      · have e1 : decide (64 < l.length) = false := by simpa using hl
        have hl' : decide ((64 : Int) < (l.length : Int)) = false := by simp; omega
        rw [e1]
        by_cases hd1 : d < 1
        · have e2 : decide (d < 1) = true := by simpa using hd1
          rw [e2]
          clear h5 h6 h7 ih hx o hd e1 hl
          go_enter Try.func36, Try.ntmps36
          go_wp2_with fail
          go_ret
          exact ⟨rfl, HX.out⟩
        · have e2 : decide (d < 1) = false := by simpa using hd1
          rw [e2, greatTs_any]
          have T1 := contains_great (S := S) (n := n) (p := greatT (d - 1)) (bd := w.heap.size + 1) _ (fun wr t A c hxr hr => great1_any ih (by omega) (hxr.cell o) t A c hr) A c l (h7.chg (Chg.of_ext hx) (fun _ _ h => h.elim) (fun _ _ h => h) (fun t A c _ h => Rd.ext h hx)) (Nat.le_trans h5 h6)
          clear h5 h6 h7 ih hx hd e1 hl hd1
          generalize l.any (greatT (d - 1)) = z at *
          go_enter Try.func36, Try.ntmps36
          go_wp2_with fail
          refine T1.mono ?_
          rintro e w1 ⟨rfl, hx1⟩
          go_wp2_with fail
          go_ret
          exact ⟨by cases z <;> rfl, HX.out.trans hx1⟩
    · rw [if_neg k4]
      have q4 : (k == 4) = false := by simpa using k4
      clear h1 h2 h3 h4 h5 h6 h7 ih hx o hd k3 k4
      go_enter Try.func36, Try.ntmps36
      go_wp2_with fail
      go_ret
      exact ⟨rfl, HX.out⟩
/-- what Check tells of it -/
def checkT (t : T) : Int := if strangeT t then 31 else if greatT 8 t || decide (4096 < wsz (sizeT t)) then 22 else 0
theorem check_any {S : Nat → Prop} {n : Nat} {w : World} {t : T} {A : Option Addr} {c : Nat} (h : Rd w S n t A c) : Calls Try.prog 18 #[t.val A c] w (RetX (.int .i64 (checkT t)) w) := by
  have T1 := fun w' (hx : Ext w w') => strange_any n w' t A c (h.ext hx)
  have T2 := fun w' (hx : Ext w w') => great_any n w' 8 t A c (by omega) (h.ext hx)
  have T3 := fun w' (hx : Ext w w') => size_any n w' t A c (h.ext hx)
  unfold checkT
  generalize strangeT t = z1 at *
  generalize greatT 8 t = z2 at *
  generalize wsz (sizeT t) = z3 at *
  obtain ⟨k, i, f, s, l⟩ := t
  simp only [T.val] at T1 T2 T3
  show Calls _ _ #[.agg #[.int .i64 k, .int .i64 i, .float .f64 f, .string s, .slice A l.length c]] _ _
  have hx : Ext w (w.alloc (.cells #[.int .i64 k, .int .i64 i, .float .f64 f, .string s, .slice A l.length c] 28)) := (Ext.refl w).alloc _
  have o := heap_alloc_new w (.cells #[.int .i64 k, .int .i64 i, .float .f64 f, .string s, .slice A l.length c] 28)
  have HX := Lib.hid (And.intro hx o)
  have C1 := T1 _ hx
  clear h hx o T1
  cases z1 with
  | true =>
    rw [if_pos rfl]
    go_enter Try.func18, Try.ntmps18
    go_wp2_with fail
    refine C1.mono ?_
    rintro e w1 ⟨rfl, hx1⟩
    go_wp2_with fail
    go_ret
    exact ⟨rfl, HX.out.1.trans hx1⟩
  | false =>
    rw [if_neg Bool.false_ne_true]
    cases z2 with
    | true =>
      rw [if_pos (by simp)]
      go_enter Try.func18, Try.ntmps18
      go_wp2_with fail
      refine C1.mono ?_
      rintro e w1 ⟨rfl, hx1⟩
      have hx2 := HX.out.1.trans hx1
      have o1 := hx1.obj HX.out.2
      have a0 := (cell_of_row w1 w.heap.size 0 _ _ _ o1).trans rfl
      have a1 := (cell_of_row w1 w.heap.size 1 _ _ _ o1).trans rfl
      have a2 := (cell_of_row w1 w.heap.size 2 _ _ _ o1).trans rfl
      have a3 := (cell_of_row w1 w.heap.size 3 _ _ _ o1).trans rfl
      have a4 := (cell_of_row w1 w.heap.size 4 _ _ _ o1).trans rfl
      have C2 := T2 _ hx2
      have HX2 := Lib.hid (And.intro hx2 o1)
      clear C1 hx2 o1 T2 hx1
      go_wp2_with fail
      refine C2.mono ?_
      rintro e w2 ⟨rfl, hx3⟩
      go_wp2_with fail
      go_ret
      exact ⟨rfl, HX2.out.1.trans hx3⟩
    | false =>
      by_cases hz : 4096 < z3
      · rw [if_pos (by simp [hz])]
        go_enter Try.func18, Try.ntmps18
        go_wp2_with fail
        refine C1.mono ?_
        rintro e w1 ⟨rfl, hx1⟩
        have hx2 := HX.out.1.trans hx1
        have o1 := hx1.obj HX.out.2
        have a0 := (cell_of_row w1 w.heap.size 0 _ _ _ o1).trans rfl
        have a1 := (cell_of_row w1 w.heap.size 1 _ _ _ o1).trans rfl
        have a2 := (cell_of_row w1 w.heap.size 2 _ _ _ o1).trans rfl
        have a3 := (cell_of_row w1 w.heap.size 3 _ _ _ o1).trans rfl
        have a4 := (cell_of_row w1 w.heap.size 4 _ _ _ o1).trans rfl
        have C2 := T2 _ hx2
        have HX2 := Lib.hid (And.intro hx2 o1)
        clear C1 hx2 o1 T2 hx1
        go_wp2_with fail
        refine C2.mono ?_
        rintro e w2 ⟨rfl, hx3⟩
        have hx2 := HX2.out.1.trans hx3
        have o1 := hx3.obj HX2.out.2
        have b0 := (cell_of_row w2 w.heap.size 0 _ _ _ o1).trans rfl
        have b1 := (cell_of_row w2 w.heap.size 1 _ _ _ o1).trans rfl
        have b2 := (cell_of_row w2 w.heap.size 2 _ _ _ o1).trans rfl
        have b3 := (cell_of_row w2 w.heap.size 3 _ _ _ o1).trans rfl
        have b4 := (cell_of_row w2 w.heap.size 4 _ _ _ o1).trans rfl
        have C3 := T3 _ hx2
        have HX3 := Lib.hid hx2
        clear C2 hx2 o1 T3 hx3 a0 a1 a2 a3 a4
        go_wp2_with fail
        refine C3.mono ?_
        rintro e w3 ⟨rfl, hx4⟩
        go_wp2_with fail
        go_ret
        exact ⟨rfl, HX3.out.trans hx4⟩
      · rw [if_neg (by simp [hz])]
        have hz' : decide (4096 < z3) = false := by simpa using hz
        go_enter Try.func18, Try.ntmps18
        go_wp2_with fail
        refine C1.mono ?_
        rintro e w1 ⟨rfl, hx1⟩
        have hx2 := HX.out.1.trans hx1
        have o1 := hx1.obj HX.out.2
        have a0 := (cell_of_row w1 w.heap.size 0 _ _ _ o1).trans rfl
        have a1 := (cell_of_row w1 w.heap.size 1 _ _ _ o1).trans rfl
        have a2 := (cell_of_row w1 w.heap.size 2 _ _ _ o1).trans rfl
        have a3 := (cell_of_row w1 w.heap.size 3 _ _ _ o1).trans rfl
        have a4 := (cell_of_row w1 w.heap.size 4 _ _ _ o1).trans rfl
        have C2 := T2 _ hx2
        have HX2 := Lib.hid (And.intro hx2 o1)
        clear C1 hx2 o1 T2 hx1
        go_wp2_with fail
        refine C2.mono ?_
        rintro e w2 ⟨rfl, hx3⟩
        have hx2 := HX2.out.1.trans hx3
        have o1 := hx3.obj HX2.out.2
        have b0 := (cell_of_row w2 w.heap.size 0 _ _ _ o1).trans rfl
        have b1 := (cell_of_row w2 w.heap.size 1 _ _ _ o1).trans rfl
        have b2 := (cell_of_row w2 w.heap.size 2 _ _ _ o1).trans rfl
        have b3 := (cell_of_row w2 w.heap.size 3 _ _ _ o1).trans rfl
        have b4 := (cell_of_row w2 w.heap.size 4 _ _ _ o1).trans rfl
        have C3 := T3 _ hx2
        have HX3 := Lib.hid hx2
        clear C2 hx2 o1 T3 hx3 a0 a1 a2 a3 a4
        go_wp2_with fail
        refine C3.mono ?_
        rintro e w3 ⟨rfl, hx4⟩
        go_wp2_with fail
        go_ret
        exact ⟨rfl, HX3.out.trans hx4⟩
end Go.Proofs.Ytdcbpnkcpglhhaa
