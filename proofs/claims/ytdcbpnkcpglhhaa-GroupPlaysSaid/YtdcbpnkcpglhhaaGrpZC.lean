/- Same: a tree is the same as its like; rows of groups too. -/
import Derived.Test.YtdcbpnkcpglhhaaGrpT
import Derived.Test.YtdcbpnkcpglhhaaGrpN
namespace Go.Proofs.Ytdcbpnkcpglhhaa
open Go.RowKit
set_option linter.unusedVariables false
set_option linter.unusedSimpArgs false
set_option linter.unnecessarySimpa false
attribute [local go_sem] stepR givesR fillE Ext.refl run_store_float

set_option maxRecDepth 1000000 in
set_option maxHeartbeats 8000000 in
theorem same_any {S S' : Nat → Prop} : ∀ (n : Nat) (w : World) (t : T) (A : Option Addr) (c : Nat) (A' : Option Addr) (c' : Nat), Rd w S n t A c → Rd w S' n t A' c' → Calls Try.prog 15 #[t.val A c, t.val A' c'] w (RetX (.bool true) w)
  | 0, _, _, _, _, _, _, h, _ => h.elim
  | n + 1, w, .mk k i f s l, A, c, A', c', h, h' => by
    have ih := same_any (S := S) (S' := S') n
    obtain ⟨h1, h2, h3, h4, h5, h6, h7⟩ := h
    obtain ⟨_, _, _, _, h5', h6', h7'⟩ := h'
    have hmm : maxLen ≤ 9223372036854775807 := by decide
    show Calls _ _ #[.agg #[.int .i64 k, .int .i64 i, .float .f64 f, .string s, .slice A l.length c], .agg #[.int .i64 k, .int .i64 i, .float .f64 f, .string s, .slice A' l.length c']] _ _
    have H := Lib.hid (And.intro h7 h7')
    have HL := Lib.hid (Nat.le_trans h5 h6)
    have hx := ((Ext.refl w).alloc (.cells #[.int .i64 k, .int .i64 i, .float .f64 f, .string s, .slice A l.length c] 28)).alloc (.cells #[.int .i64 k, .int .i64 i, .float .f64 f, .string s, .slice A' l.length c'] 28)
    have o1 := ((Ext.refl (w.alloc (.cells #[.int .i64 k, .int .i64 i, .float .f64 f, .string s, .slice A l.length c] 28))).alloc (.cells #[.int .i64 k, .int .i64 i, .float .f64 f, .string s, .slice A' l.length c'] 28)).obj (heap_alloc_new w (.cells #[.int .i64 k, .int .i64 i, .float .f64 f, .string s, .slice A l.length c] 28))
    have o2 := heap_alloc_new (w.alloc (.cells #[.int .i64 k, .int .i64 i, .float .f64 f, .string s, .slice A l.length c] 28)) (.cells #[.int .i64 k, .int .i64 i, .float .f64 f, .string s, .slice A' l.length c'] 28)
    rw [show ∀ o, (w.alloc o).heap.size = w.heap.size + 1 from fun o => by simp] at o2
    have HX := Lib.hid (And.intro hx (And.intro o1 o2))
    clear h1 h2 h3 h4 h5 h6 h7 h5' h6' h7' hx o1 o2
    go_enter Try.func15, Try.ntmps15
    go_wp2_with fail
    have hx := HX.out.1
    have o1 := HX.out.2.1
    have o2 := HX.out.2.2
    clear HX
    revert hx o1 o2
    generalize World.alloc (World.alloc _ _) _ = w0
    generalize w.heap.size + 1 = b2
    generalize w.heap.size = b1
    intro hx o1 o2
    have HX := Lib.hid (And.intro hx (And.intro o1 o2))
    have a0 : ∀ p : Later w0, p.w.cell? ⟨b1, 0, none⟩ = some (.int .i64 k) := fun p => p.cell ((cell_of_row w0 b1 0 _ _ _ o1).trans rfl)
    have a1 : ∀ p : Later w0, p.w.cell? ⟨b1, 1, none⟩ = some (.int .i64 i) := fun p => p.cell ((cell_of_row w0 b1 1 _ _ _ o1).trans rfl)
    have a2 : ∀ p : Later w0, p.w.cell? ⟨b1, 2, none⟩ = some (.float .f64 f) := fun p => p.cell ((cell_of_row w0 b1 2 _ _ _ o1).trans rfl)
    have a3 : ∀ p : Later w0, p.w.cell? ⟨b1, 3, none⟩ = some (.string s) := fun p => p.cell ((cell_of_row w0 b1 3 _ _ _ o1).trans rfl)
    have a4 : ∀ p : Later w0, p.w.cell? ⟨b1, 4, none⟩ = some (.slice A l.length c) := fun p => p.cell ((cell_of_row w0 b1 4 _ _ _ o1).trans rfl)
    have m0 : ∀ p : Later w0, p.w.cell? ⟨b2, 0, none⟩ = some (.int .i64 k) := fun p => p.cell ((cell_of_row w0 b2 0 _ _ _ o2).trans rfl)
    have m1 : ∀ p : Later w0, p.w.cell? ⟨b2, 1, none⟩ = some (.int .i64 i) := fun p => p.cell ((cell_of_row w0 b2 1 _ _ _ o2).trans rfl)
    have m2 : ∀ p : Later w0, p.w.cell? ⟨b2, 2, none⟩ = some (.float .f64 f) := fun p => p.cell ((cell_of_row w0 b2 2 _ _ _ o2).trans rfl)
    have m3 : ∀ p : Later w0, p.w.cell? ⟨b2, 3, none⟩ = some (.string s) := fun p => p.cell ((cell_of_row w0 b2 3 _ _ _ o2).trans rfl)
    have m4 : ∀ p : Later w0, p.w.cell? ⟨b2, 4, none⟩ = some (.slice A' l.length c') := fun p => p.cell ((cell_of_row w0 b2 4 _ _ _ o2).trans rfl)
    clear hx o1 o2
    refine wp_region_rel' 37 (by kernel_rfl) (by kernel_rfl) (fun Fin hFin => ?_)
    simp only [List.take_succ_cons, List.take_zero]
    (refine relGo_p (fun K hK => ?_); go_simp; refine hK _ ?_; clear hK K)
    (refine relGo_p (fun K hK => ?_); go_simp; refine hK _ ?_; clear hK K)
    (refine relGo_p (fun K hK => ?_); go_simp; refine hK _ ?_; clear hK K)
    (refine relGo_p (fun K hK => ?_); go_simp; refine hK _ ?_; clear hK K)
    (refine relGo_p (fun K hK => ?_); go_simp; refine hK _ ?_; clear hK K)
    (refine relGo_p (fun K hK => ?_); go_simp; refine hK _ ?_; clear hK K)
    (refine relGo_p (fun K hK => ?_); go_simp; refine hK _ ?_; clear hK K)
    (refine relGo_p (fun K hK => ?_); go_simp; refine hK _ ?_; clear hK K)
    (refine relGo_p (fun K hK => ?_); go_simp; refine hK _ ?_; clear hK K)
    (refine relGo_p (fun K hK => ?_); go_simp; refine hK _ ?_; clear hK K)
    (refine relGo_p (fun K hK => ?_); go_simp; refine hK _ ?_; clear hK K)
    (refine relGo_p (fun K hK => ?_); go_simp; refine hK _ ?_; clear hK K)
    (refine relGo_p (fun K hK => ?_); go_simp; refine hK _ ?_; clear hK K)
    (refine relGo_p (fun K hK => ?_); go_simp; refine hK _ ?_; clear hK K)
    (refine relGo_p (fun K hK => ?_); go_simp; refine hK _ ?_; clear hK K)
    refine relGo_q (.int .u64 (canon f)) ?_ (fun K hK => ?_)
    · intro w' hw'
      go_simp
      refine (rbits_any _ w').mono ?_
      rintro e w'' ⟨rfl, hx⟩
      exact ⟨rfl, hx⟩
    go_simp; refine hK _ ?_; clear hK K
    (refine relGo_p (fun K hK => ?_); go_simp; refine hK _ ?_; clear hK K)
    (refine relGo_p (fun K hK => ?_); go_simp; refine hK _ ?_; clear hK K)
    refine relGo_q (.int .u64 (canon f)) ?_ (fun K hK => ?_)
    · intro w' hw'
      go_simp
      refine (rbits_any _ w').mono ?_
      rintro e w'' ⟨rfl, hx⟩
      exact ⟨rfl, hx⟩
    go_simp; refine hK _ ?_; clear hK K
    (refine relGo_p (fun K hK => ?_); go_simp; refine hK _ ?_; clear hK K)
    (refine relGo_p (fun K hK => ?_); go_simp; refine hK _ ?_; clear hK K)
    (refine relGo_p (fun K hK => ?_); go_simp; refine hK _ ?_; clear hK K)
    (refine relGo_p (fun K hK => ?_); go_simp; refine hK _ ?_; clear hK K)
    (refine relGo_p (fun K hK => ?_); go_simp; refine hK _ ?_; clear hK K)
    (refine relGo_p (fun K hK => ?_); go_simp; refine hK _ ?_; clear hK K)
    (refine relGo_p (fun K hK => ?_); go_simp; refine hK _ ?_; clear hK K)
    (refine relGo_p (fun K hK => ?_); go_simp; refine hK _ ?_; clear hK K)
    (refine relGo_p (fun K hK => ?_); go_simp; refine hK _ ?_; clear hK K)
    (refine relGo_p (fun K hK => ?_); go_simp; refine hK _ ?_; clear hK K)
    (refine relGo_p (fun K hK => ?_); go_simp; refine hK _ ?_; clear hK K)
    (refine relGo_p (fun K hK => ?_); go_simp; refine hK _ ?_; clear hK K)
    (refine relGo_p (fun K hK => ?_); go_simp; refine hK _ ?_; clear hK K)
    (refine relGo_p (fun K hK => ?_); go_simp; refine hK _ ?_; clear hK K)
    (refine relGo_p (fun K hK => ?_); go_simp; refine hK _ ?_; clear hK K)
    (refine relGo_p (fun K hK => ?_); go_simp; refine hK _ ?_; clear hK K)
    (refine relGo_p (fun K hK => ?_); go_simp; refine hK _ ?_; clear hK K)
    (refine relGo_p (fun K hK => ?_); go_simp; refine hK _ ?_; clear hK K)
    refine hFin _ _ (fun w9 hw9 => ?_)
    have HW := Lib.hid hw9
    clear hFin Fin hw9 a0 a1 a2 a3 a4 m0 m1 m2 m3 m4
    simp only [fillE, List.drop_succ_cons, List.drop_zero, List.drop_nil]
    go_wp2_with fail
    go_loopw [5] (fun i wr => ∃ j : Nat, j ≤ l.length ∧ i = .int .i64 j ∧ Ext w9 wr) (fun i _ => l.length - (intOf i).toNat)
    case atStart => exact ⟨0, Nat.zero_le _, rfl, Ext.refl _⟩
    case round =>
      obtain ⟨j, hj, rfl, hxr⟩ := hrel
      have hx0 := HW.out.trans hxr
      have p4 : wr.cell? ⟨b1, 4, none⟩ = some (.slice A l.length c) := (cell_of_row wr b1 4 _ _ _ (hx0.obj HX.out.2.1)).trans rfl
      have p4' : wr.cell? ⟨b2, 4, none⟩ = some (.slice A' l.length c') := (cell_of_row wr b2 4 _ _ _ (hx0.obj HX.out.2.2)).trans rfl
      have hjn : ((j : Int) < 0) = False := by simp
      by_cases hlt : j < l.length
      · obtain ⟨b, off, rfl, hb, hat⟩ := H.out.1 (by omega)
        obtain ⟨b', off', rfl, hb', hat'⟩ := H.out.2 (by omega)
        obtain ⟨t, ht⟩ : ∃ t, l[j]? = some t := ⟨_, List.getElem?_eq_getElem hlt⟩
        obtain ⟨A1, c1, ha, hr⟩ := hat j t ht
        obtain ⟨A2, c2, ha', hr'⟩ := hat' j t ht
        have hxx := HX.out.1.trans hx0
        have T1 := fun (w' : World) (hx' : Ext wr w') => ih w' t A1 c1 A2 c2 (hr.ext (hxx.trans hx')) (hr'.ext (hxx.trans hx'))
        have hji : (j : Int) < (l.length : Int) := by omega
        have hw1 : IntKind.i64.wrap ((j : Int) + 1) = (j : Int) + 1 := IntWalk.i64_in _ (by have := HL.out; omega)
        obtain ⟨k', i', f', s', l'⟩ := t
        obtain ⟨d0, d1, d2, d3, d4⟩ := ha
        obtain ⟨e0, e1, e2, e3, e4⟩ := ha'
        simp only [T.val] at T1
        have q4 : ∀ p : Later wr, p.w.cell? ⟨b1, 4, none⟩ = some (.slice (some ⟨b, off, none⟩) l.length c) := fun p => p.cell p4
        have q4' : ∀ p : Later wr, p.w.cell? ⟨b2, 4, none⟩ = some (.slice (some ⟨b', off', none⟩) l.length c') := fun p => p.cell p4'
        have gq0 : ∀ p : Later wr, p.w.cell? ⟨b, off + j * 5, none⟩ = some (.int .i64 k') := fun p => p.cell (hxx.cell d0)
        have gq1 : ∀ p : Later wr, p.w.cell? ⟨b, off + j * 5 + 1, none⟩ = some (.int .i64 i') := fun p => p.cell (hxx.cell d1)
        have gq2 : ∀ p : Later wr, p.w.cell? ⟨b, off + j * 5 + 2, none⟩ = some (.float .f64 f') := fun p => p.cell (hxx.cell d2)
        have gq3 : ∀ p : Later wr, p.w.cell? ⟨b, off + j * 5 + 3, none⟩ = some (.string s') := fun p => p.cell (hxx.cell d3)
        have gq4 : ∀ p : Later wr, p.w.cell? ⟨b, off + j * 5 + 4, none⟩ = some (.slice A1 l'.length c1) := fun p => p.cell (hxx.cell d4)
        have hq0 : ∀ p : Later wr, p.w.cell? ⟨b', off' + j * 5, none⟩ = some (.int .i64 k') := fun p => p.cell (hxx.cell e0)
        have hq1 : ∀ p : Later wr, p.w.cell? ⟨b', off' + j * 5 + 1, none⟩ = some (.int .i64 i') := fun p => p.cell (hxx.cell e1)
        have hq2 : ∀ p : Later wr, p.w.cell? ⟨b', off' + j * 5 + 2, none⟩ = some (.float .f64 f') := fun p => p.cell (hxx.cell e2)
        have hq3 : ∀ p : Later wr, p.w.cell? ⟨b', off' + j * 5 + 3, none⟩ = some (.string s') := fun p => p.cell (hxx.cell e3)
        have hq4 : ∀ p : Later wr, p.w.cell? ⟨b', off' + j * 5 + 4, none⟩ = some (.slice A2 l'.length c2) := fun p => p.cell (hxx.cell e4)
        have HR := Lib.hid (And.intro hxr hlt)
        clear hxr hx0 hxx hat hat' hr hr' ht hb hb' d0 d1 d2 d3 d4 e0 e1 e2 e3 e4
        go_wp2_with fail
        refine wp_region_rel' 12 (by kernel_rfl) (by kernel_rfl) (fun Fin hFin => ?_)
        simp only [List.take_succ_cons, List.take_zero]
        (refine relGo_p (fun K hK => ?_); go_simp; refine hK _ ?_; clear hK K)
        (refine relGo_p (fun K hK => ?_); go_simp; refine hK _ ?_; clear hK K)
        (refine relGo_p (fun K hK => ?_); go_simp; refine hK _ ?_; clear hK K)
        (refine relGo_p (fun K hK => ?_); go_simp; refine hK _ ?_; clear hK K)
        (refine relGo_p (fun K hK => ?_); go_simp; refine hK _ ?_; clear hK K)
        (refine relGo_p (fun K hK => ?_); go_simp; refine hK _ ?_; clear hK K)
        (refine relGo_p (fun K hK => ?_); go_simp; refine hK _ ?_; clear hK K)
        (refine relGo_p (fun K hK => ?_); go_simp; refine hK _ ?_; clear hK K)
        (refine relGo_p (fun K hK => ?_); go_simp; refine hK _ ?_; clear hK K)
        (refine relGo_p (fun K hK => ?_); go_simp; refine hK _ ?_; clear hK K)
        refine relGo_q (.bool true) ?_ (fun K hK => ?_)
        · intro w' hw'
          go_simp
          refine (T1 w' hw').mono ?_
          rintro e w'' ⟨rfl, hx⟩
          exact ⟨rfl, hx⟩
        go_simp; refine hK _ ?_; clear hK K
        (refine relGo_p (fun K hK => ?_); go_simp; refine hK _ ?_; clear hK K)
        refine hFin _ _ (fun wn hwn => ?_)
        have HN := Lib.hid (HR.out.1.trans hwn)
        clear hFin Fin hwn q4 q4' T1 gq0 gq1 gq2 gq3 gq4 hq0 hq1 hq2 hq3 hq4
        simp only [fillE, List.drop_succ_cons, List.drop_zero, List.drop_nil]
        go_wp2_with fail
        go_roundw
        case rel => exact ⟨j + 1, HR.out.2, by go_num, HN.out⟩
        case measure => have := HR.out.2; simp [intOf]; omega
      · obtain rfl : j = l.length := by omega
        have hnl : decide ((l.length : Int) < (l.length : Int)) = false := by simp
        have HE := Lib.hid (HX.out.1.trans hx0)
        clear hxr hx0
        go_wp2_with fail
        go_ret
        exact ⟨rfl, HE.out⟩
set_option maxRecDepth 1000000 in
set_option maxHeartbeats 8000000 in
theorem gsame_any {w : World} {A : Option Addr} {c : Nat} {A' : Option Addr} {c' : Nat} {L : List Gp} (h : GRd w A L) (h' : GRd w A' L) (hl : L.length ≤ 1000) : Calls Try.prog 16 #[.slice A L.length c, .slice A' L.length c'] w (RetX (.bool true) w) := by
  have H := Lib.hid (And.intro h h')
  clear h h'
  go_enter Try.func16, Try.ntmps16
  go_wp2_with fail
  go_loopw [5] (fun i wr => ∃ j : Nat, j ≤ L.length ∧ i = .int .i64 j ∧ Ext w wr) (fun i _ => L.length - (intOf i).toNat)
  case atStart => exact ⟨0, Nat.zero_le _, rfl, Ext.refl _⟩
  case round =>
    obtain ⟨j, hj, rfl, hx⟩ := hrel
    have hjn : ((j : Int) < 0) = False := by simp
    have HX := Lib.hid hx
    by_cases hlt : j < L.length
    · obtain ⟨b, rfl, hat⟩ := H.out.1 (by omega)
      obtain ⟨b', rfl, hat'⟩ := H.out.2 (by omega)
      obtain ⟨p, hp⟩ : ∃ p, L[j]? = some p := ⟨_, List.getElem?_eq_getElem hlt⟩
      obtain ⟨d0, d1, d2, d3⟩ := hat _ p hp
      obtain ⟨e0, e1, e2, e3⟩ := hat' _ p hp
      have q0 := hx.cell d0
      have q1 := hx.cell d1
      have q2 := hx.cell d2
      have q3 := hx.cell d3
      have r0 := hx.cell e0
      have r1 := hx.cell e1
      have r2 := hx.cell e2
      have r3 := hx.cell e3
      have hji : (j : Int) < (L.length : Int) := by omega
      have hw1 : IntKind.i64.wrap ((j : Int) + 1) = (j : Int) + 1 := IntWalk.i64_in _ (by omega)
      clear hat hat' hp d0 d1 d2 d3 e0 e1 e2 e3 hx
      go_wp2_with fail
      go_quiet (fail)
      have HY := Lib.hid (HX.out.drewN nq)
      go_wp2_with fail
      go_roundw
      case rel => exact ⟨j + 1, by omega, by go_num, HY.out⟩
      case measure => simp [intOf]; omega
    · obtain rfl : j = L.length := by omega
      have hnl : decide ((L.length : Int) < (L.length : Int)) = false := by simp
      clear hx
      go_wp2_with fail
      go_ret
      exact ⟨rfl, HX.out⟩
end Go.Proofs.Ytdcbpnkcpglhhaa
