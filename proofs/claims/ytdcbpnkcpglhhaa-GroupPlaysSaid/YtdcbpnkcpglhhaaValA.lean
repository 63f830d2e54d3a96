/- What is strange. -/
import Derived.Test.YtdcbpnkcpglhhaaVal
import Derived.IntWalk
namespace Go.Proofs.Ytdcbpnkcpglhhaa
open Go.RowKit
set_option linter.unusedVariables false
set_option linter.unusedSimpArgs false
attribute [local go_sem] stepR givesR fillE Ext.refl

mutual
def strangeT : T → Bool
  | .mk k _ _ _ l => decide (k ≠ kindI k) || (decide (k = 4) && strangeTs l)
def strangeTs : List T → Bool
  | [] => false
  | t :: l => strangeT t || strangeTs l
end
theorem strangeTs_any (l : List T) : strangeTs l = l.any strangeT := by
  induction l with
  | nil => rfl
  | cons t l ih => rw [strangeTs, ih]; rfl
/-- the place of the first that p holds of -/
def firstAt (p : T → Bool) (l : List T) : Int := match l.findIdx? p with
  | some i => i
  | none => -1
theorem firstAt_nonneg (p : T → Bool) (l : List T) : decide (0 ≤ firstAt p l) = l.any p := by
  unfold firstAt
  cases h : l.findIdx? p with
  | none =>
    rw [List.findIdx?_eq_none_iff] at h
    have : l.any p = false := by rw [List.any_eq_false]; intro x hx; simp [h x hx]
    rw [this]
    simp
  | some i =>
    obtain ⟨hi, hp, _⟩ := List.findIdx?_eq_some_iff_getElem.1 h
    have : l.any p = true := List.any_eq_true.2 ⟨_, List.getElem_mem hi, hp⟩
    rw [this]
    simp
theorem firstAt_hit {p : T → Bool} {l : List T} {j : Nat} {t : T} (hj : l[j]? = some t) (hp : p t = true) (hno : ∀ i u, i < j → l[i]? = some u → p u = false) : firstAt p l = j := by
  obtain ⟨hlt, rfl⟩ := List.getElem?_eq_some_iff.1 hj
  unfold firstAt
  have : l.findIdx? p = some j := List.findIdx?_eq_some_iff_getElem.2 ⟨hlt, hp, fun i hi => by rw [hno i _ hi (List.getElem?_eq_getElem (by omega))]; simp⟩
  rw [this]
theorem firstAt_none {p : T → Bool} {l : List T} (hno : ∀ i u, i < l.length → l[i]? = some u → p u = false) : firstAt p l = -1 := by
  unfold firstAt
  have : l.findIdx? p = none := by
    rw [List.findIdx?_eq_none_iff]
    intro x hx
    obtain ⟨i, hi, rfl⟩ := List.getElem_of_mem hx
    exact hno i _ hi (List.getElem?_eq_getElem hi)
  rw [this]
set_option maxRecDepth 100000 in
set_option maxHeartbeats 1000000 in
theorem index_strange {S : Nat → Prop} {n : Nat} (ih : ∀ (w : World) (t : T) (A : Option Addr) (c : Nat), Rd w S n t A c → Calls Try.prog 35 #[t.val A c] w (RetX (.bool (strangeT t)) w)) (w : World) (A : Option Addr) (c : Nat) (l : List T) (h : RowOf w S (Rd w S n) A l) (hl : l.length ≤ maxLen) :
    Calls Try.prog 67 #[.slice A l.length c, .func (.func 35) #[] #[]] w (RetX (.int .i64 (firstAt strangeT l)) w) := by
  have H := Lib.hid h
  have hmm : maxLen ≤ 9223372036854775807 := by decide
  have HL := Lib.hid hl
  have HM := Lib.hid hmm
  clear h hl hmm
  go_enter Try.func67, Try.ntmps67
  go_wp2_with fail
  go_loopw [8] (fun i wr => ∃ j : Nat, j ≤ l.length ∧ i = .int .i64 j ∧ Ext w wr ∧ ∀ q u, q < j → l[q]? = some u → strangeT u = false) (fun i _ => l.length - (intOf i).toNat)
  case atStart => exact ⟨0, Nat.zero_le _, rfl, Ext.refl _, fun q u hq => by omega⟩
  case round =>
    obtain ⟨j, hj, rfl, hx, hno⟩ := hrel
    by_cases hlt : j < l.length
    · obtain ⟨b, off, rfl, hb, hat⟩ := H.out (by omega)
      obtain ⟨t, ht⟩ : ∃ t, l[j]? = some t := ⟨_, List.getElem?_eq_getElem hlt⟩
      obtain ⟨A1, c1, ha, hr⟩ := hat j t ht
      have T1 := ih wr t A1 c1 (hr.ext hx)
      have HX := Lib.hid (And.intro hx (And.intro hno ht))
      obtain ⟨k, i, f, s, l1⟩ := t
      obtain ⟨a0, a1, a2, a3, a4⟩ := ha
      have b0 := hx.cell a0
      have b1 := hx.cell a1
      have b2 := hx.cell a2
      have b3 := hx.cell a3
      have b4 := hx.cell a4
      have hji : (j : Int) < (l.length : Int) := by omega
      have hjn : ((j : Int) < 0) = False := by simp
      have hw1 : IntKind.i64.wrap ((j : Int) + 1) = (j : Int) + 1 := IntWalk.i64_in _ (by have := HL.out; have := HM.out; omega)
      simp only [T.val] at T1
      clear hx hno ht hat a0 a1 a2 a3 a4 hr hj
      cases hs : strangeT (.mk k i f s l1) with
      | true =>
        rw [hs] at T1
        go_wp2_with fail
        refine T1.mono ?_
        rintro e w1 ⟨rfl, hx1⟩
        go_wp2_with fail
        go_ret
        refine ⟨?_, HX.out.1.trans hx1⟩
        rw [firstAt_hit HX.out.2.2 hs HX.out.2.1]
        rfl
      | false =>
        rw [hs] at T1
        go_wp2_with fail
        refine T1.mono ?_
        rintro e w1 ⟨rfl, hx1⟩
        go_wp2_with fail
        have HJ := Lib.hid hlt
        go_roundw
        case rel =>
          refine ⟨j + 1, HJ.out, by go_num, HX.out.1.trans hx1, fun q u hq hu => ?_⟩
          rcases Nat.lt_succ_iff_lt_or_eq.1 hq with hq | rfl
          · exact HX.out.2.1 q u hq hu
          · rw [HX.out.2.2] at hu
            cases hu
            exact hs
        case measure => simp [intOf]; omega
    · obtain rfl : j = l.length := by omega
      have HX := Lib.hid (And.intro hx hno)
      clear hx hno
      go_wp2_with fail
      go_ret
      exact ⟨by rw [firstAt_none HX.out.2]; rfl, HX.out.1⟩
theorem contains_strange {S : Nat → Prop} {n : Nat} (ih : ∀ (w : World) (t : T) (A : Option Addr) (c : Nat), Rd w S n t A c → Calls Try.prog 35 #[t.val A c] w (RetX (.bool (strangeT t)) w)) (w : World) (A : Option Addr) (c : Nat) (l : List T) (h : RowOf w S (Rd w S n) A l) (hl : l.length ≤ maxLen) :
    Calls Try.prog 57 #[.slice A l.length c, .func (.func 35) #[] #[]] w (RetX (.bool (strangeTs l)) w) := by
  have T1 := index_strange ih w A c l h hl
  rw [strangeTs_any, ← firstAt_nonneg]
  clear ih h hl
  generalize firstAt strangeT l = z at *
  go_enter Try.func57, Try.ntmps57
  go_wp2_with fail
  refine T1.mono ?_
  rintro e w1 ⟨rfl, hx⟩
  go_wp2_with fail
  go_ret
  exact ⟨rfl, hx⟩
set_option maxRecDepth 100000 in
set_option maxHeartbeats 1000000 in
theorem strange_any {S : Nat → Prop} : ∀ (n : Nat) (w : World) (t : T) (A : Option Addr) (c : Nat), Rd w S n t A c → Calls Try.prog 35 #[t.val A c] w (RetX (.bool (strangeT t)) w)
  | 0, _, _, _, _, h => h.elim
  | n + 1, w, .mk k i f s l, A, c, h => by
    have C := contains_strange (S := S) (strange_any n)
    obtain ⟨h1, h2, h3, h4, h5, h6, h7⟩ := h
    have hC := fun w' (hx : Ext w w') => C w' A c l (h7.chg (Chg.of_ext hx) (fun _ _ h => h.elim) (fun _ _ h => h) (fun t A c _ h => Rd.ext h hx)) (Nat.le_trans h5 h6)
    show Calls _ _ #[.agg #[.int .i64 k, .int .i64 i, .float .f64 f, .string s, .slice A l.length c]] _ _
    have e : strangeT (.mk k i f s l) = (decide (k ≠ kindI k) || (decide (k = 4) && strangeTs l)) := by rw [strangeT]
    rw [e]
    clear e C h1 h2 h3 h4 h5 h6 h7
    generalize strangeTs l = z at *
    have hK1 := fun w' => kind_any (w := w') (k := k) (i := i) (f := f) (s := s) (A := A) (n := l.length) (c := c)
    by_cases hk : k = kindI k
    · rw [← hk] at hK1
      have e1 : decide (k ≠ kindI k) = false := decide_eq_false (fun h => h hk)
      rw [e1]
      clear e1 hk
      by_cases h4 : k = 4
      · subst h4
        have e2 : (false || decide ((4 : Int) = 4) && z) = z := by simp
        rw [e2]
        clear e2
        go_enter Try.func35, Try.ntmps35
        go_wp2_with fail
        have ha : Ext w (w.alloc (.cells #[.int .i64 4, .int .i64 i, .float .f64 f, .string s, .slice A l.length c] 28)) := (Ext.refl w).alloc _
        have o := heap_alloc_new w (.cells #[.int .i64 4, .int .i64 i, .float .f64 f, .string s, .slice A l.length c] 28)
        revert ha o
        generalize World.alloc _ _ = w0
        generalize w.heap.size = b
        intro ha o
        have a0 : ∀ p : Later w0, p.w.cell? ⟨b, 0, none⟩ = some (.int .i64 4) := fun p => p.cell ((cell_of_row w0 b 0 _ _ _ o).trans rfl)
        have a1 : ∀ p : Later w0, p.w.cell? ⟨b, 1, none⟩ = some (.int .i64 i) := fun p => p.cell ((cell_of_row w0 b 1 _ _ _ o).trans rfl)
        have a2 : ∀ p : Later w0, p.w.cell? ⟨b, 2, none⟩ = some (.float .f64 f) := fun p => p.cell ((cell_of_row w0 b 2 _ _ _ o).trans rfl)
        have a3 : ∀ p : Later w0, p.w.cell? ⟨b, 3, none⟩ = some (.string s) := fun p => p.cell ((cell_of_row w0 b 3 _ _ _ o).trans rfl)
        have a4 : ∀ p : Later w0, p.w.cell? ⟨b, 4, none⟩ = some (.slice A l.length c) := fun p => p.cell ((cell_of_row w0 b 4 _ _ _ o).trans rfl)
        clear o
        refine wp_region_rel' 15 (by kernel_rfl) (by kernel_rfl) (fun Fin hFin => ?_)
        simp only [List.take_succ_cons, List.take_zero]
        repeat (refine relGo_p (fun K hK => ?_); go_simp; refine hK _ ?_; clear hK K)
        refine relGo_q (.int .i64 4) ?_ (fun K hK => ?_)
        · intro w' hw'
          go_simp
          refine (hK1 w').mono ?_
          rintro e w'' ⟨rfl, h⟩
          exact ⟨rfl, h⟩
        go_simp
        refine hK _ ?_
        clear hK K
        repeat (refine relGo_p (fun K hK => ?_); go_simp; refine hK _ ?_; clear hK K)
        refine relGo_q (.bool z) ?_ (fun K hK => ?_)
        · intro w' hw'
          go_simp
          refine (hC w' (ha.trans hw')).mono ?_
          rintro e w'' ⟨rfl, h⟩
          exact ⟨rfl, h⟩
        go_simp
        refine hK _ ?_
        clear hK K
        repeat (refine relGo_p (fun K hK => ?_); go_simp; refine hK _ ?_; clear hK K)
        refine hFin _ _ (fun w' hw' => ?_)
        simp only [fillE, List.drop_succ_cons, List.drop_zero]
        have hx := ha.trans hw'
        clear hFin Fin a0 a1 a2 a3 a4 hC hK1 hw' ha
        go_wp2
        go_ret
        exact ⟨rfl, hx⟩
      · have h4' : decide (k = 4) = false := by simpa using h4
        have e2 : (false || decide (k = 4) && z) = false := by rw [h4']; rfl
        rw [e2]
        clear e2
        go_enter Try.func35, Try.ntmps35
        go_wp2_with fail
        have ha : Ext w (w.alloc (.cells #[.int .i64 k, .int .i64 i, .float .f64 f, .string s, .slice A l.length c] 28)) := (Ext.refl w).alloc _
        have o := heap_alloc_new w (.cells #[.int .i64 k, .int .i64 i, .float .f64 f, .string s, .slice A l.length c] 28)
        revert ha o
        generalize World.alloc _ _ = w0
        generalize w.heap.size = b
        intro ha o
        have a0 : ∀ p : Later w0, p.w.cell? ⟨b, 0, none⟩ = some (.int .i64 k) := fun p => p.cell ((cell_of_row w0 b 0 _ _ _ o).trans rfl)
        have a1 : ∀ p : Later w0, p.w.cell? ⟨b, 1, none⟩ = some (.int .i64 i) := fun p => p.cell ((cell_of_row w0 b 1 _ _ _ o).trans rfl)
        have a2 : ∀ p : Later w0, p.w.cell? ⟨b, 2, none⟩ = some (.float .f64 f) := fun p => p.cell ((cell_of_row w0 b 2 _ _ _ o).trans rfl)
        have a3 : ∀ p : Later w0, p.w.cell? ⟨b, 3, none⟩ = some (.string s) := fun p => p.cell ((cell_of_row w0 b 3 _ _ _ o).trans rfl)
        have a4 : ∀ p : Later w0, p.w.cell? ⟨b, 4, none⟩ = some (.slice A l.length c) := fun p => p.cell ((cell_of_row w0 b 4 _ _ _ o).trans rfl)
        clear o
        refine wp_region_rel' 15 (by kernel_rfl) (by kernel_rfl) (fun Fin hFin => ?_)
        simp only [List.take_succ_cons, List.take_zero]
        repeat (refine relGo_p (fun K hK => ?_); go_simp; refine hK _ ?_; clear hK K)
        refine relGo_q (.int .i64 k) ?_ (fun K hK => ?_)
        · intro w' hw'
          go_simp
          refine (hK1 w').mono ?_
          rintro e w'' ⟨rfl, h⟩
          exact ⟨rfl, h⟩
        go_simp
        refine hK _ ?_
        clear hK K
        repeat (refine relGo_p (fun K hK => ?_); go_simp; refine hK _ ?_; clear hK K)
        refine hFin _ _ (fun w' hw' => ?_)
        simp only [fillE, List.drop_succ_cons, List.drop_zero]
        have hx := ha.trans hw'
        clear hFin Fin a0 a1 a2 a3 a4 hC hK1 hw' ha
        go_wp2
        go_ret
        exact ⟨rfl, hx⟩
    · have hk' : decide (k = kindI k) = false := by simpa using hk
      have e1 : decide (k ≠ kindI k) = true := decide_eq_true hk
      have e2 : (true || decide (k = 4) && z) = true := rfl
      rw [e1, e2]
      clear e1 e2
      generalize kindI k = kk at *
      have hk2 : (k != kk) = true := by simpa using hk
      go_enter Try.func35, Try.ntmps35
      go_wp2_with fail
      have ha : Ext w (w.alloc (.cells #[.int .i64 k, .int .i64 i, .float .f64 f, .string s, .slice A l.length c] 28)) := (Ext.refl w).alloc _
      have o := heap_alloc_new w (.cells #[.int .i64 k, .int .i64 i, .float .f64 f, .string s, .slice A l.length c] 28)
      revert ha o
      generalize World.alloc _ _ = w0
      generalize w.heap.size = b
      intro ha o
      have a0 : ∀ p : Later w0, p.w.cell? ⟨b, 0, none⟩ = some (.int .i64 k) := fun p => p.cell ((cell_of_row w0 b 0 _ _ _ o).trans rfl)
      have a1 : ∀ p : Later w0, p.w.cell? ⟨b, 1, none⟩ = some (.int .i64 i) := fun p => p.cell ((cell_of_row w0 b 1 _ _ _ o).trans rfl)
      have a2 : ∀ p : Later w0, p.w.cell? ⟨b, 2, none⟩ = some (.float .f64 f) := fun p => p.cell ((cell_of_row w0 b 2 _ _ _ o).trans rfl)
      have a3 : ∀ p : Later w0, p.w.cell? ⟨b, 3, none⟩ = some (.string s) := fun p => p.cell ((cell_of_row w0 b 3 _ _ _ o).trans rfl)
      have a4 : ∀ p : Later w0, p.w.cell? ⟨b, 4, none⟩ = some (.slice A l.length c) := fun p => p.cell ((cell_of_row w0 b 4 _ _ _ o).trans rfl)
      clear o
      refine wp_region_rel' 15 (by kernel_rfl) (by kernel_rfl) (fun Fin hFin => ?_)
      simp only [List.take_succ_cons, List.take_zero]
      repeat (refine relGo_p (fun K hK => ?_); go_simp; refine hK _ ?_; clear hK K)
      refine relGo_q (.int .i64 kk) ?_ (fun K hK => ?_)
      · intro w' hw'
        go_simp
        refine (hK1 w').mono ?_
        rintro e w'' ⟨rfl, h⟩
        exact ⟨rfl, h⟩
      go_simp
      refine hK _ ?_
      clear hK K
      repeat (refine relGo_p (fun K hK => ?_); go_simp; refine hK _ ?_; clear hK K)
      repeat (first | (refine relGo_p (fun K hK => ?_); go_simp; refine hK _ ?_; clear hK K) | (refine relGo_p (fun K hK => ?_); go_simp; simp [undef]; refine hK _ ?_; clear hK K))
      refine hFin _ _ (fun w' hw' => ?_)
      simp only [fillE, List.drop_succ_cons, List.drop_zero]
      have hx := ha.trans hw'
      clear hFin Fin a0 a1 a2 a3 a4 hC hK1 hw' ha
      go_wp2
      go_ret
      exact ⟨rfl, hx⟩
end Go.Proofs.Ytdcbpnkcpglhhaa
