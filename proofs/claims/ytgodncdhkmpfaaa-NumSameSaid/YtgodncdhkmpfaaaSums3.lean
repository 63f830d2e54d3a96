/- Lights; NumSums. -/
import Derived.Test.YtgodncdhkmpfaaaSums2
namespace Go.Proofs.Ytgodncdhkmpfaaa
open Go.RowKit
set_option linter.unusedVariables false
set_option linter.unusedSimpArgs false
attribute [local go_sem] stepR givesR fillE Ext.refl

theorem RowV.at {w : World} {n : Nat} {A : Option Addr} {l : Nat} {g : Nat → Val} (h : RowV w n A l g) {j : Nat} (hj : j < l) : ∃ b off, A = some ⟨b, off, none⟩ ∧ At w b (off + j * 5) (g j) ∧ Tree w n (g j) := by
  obtain ⟨b, off, e, h⟩ := h (by omega)
  exact ⟨b, off, e, h j hj⟩
theorem Tree.facts {w : World} {n : Nat} {x : Val} (h : Tree w n x) : inR x.i ∧ x.f < 18446744073709551616 := by
  cases n with
  | zero => exact h.elim
  | succ n => exact ⟨h.2.1, h.2.2.1⟩

set_option maxHeartbeats 1000000 in
theorem lights_any (w : World) (n : Nat) (A : Option Addr) (l c : Nat) (g : Nat → Val) (h : RowV w n A l g) (hl : l ≤ c ∧ c ≤ maxLen) : Calls Try.prog 14 #[.slice A l c] w (RetB w) := by
  have HL := Lib.hid hl
  have HR := Lib.hid h
  clear hl h
  by_cases h40 : 40 < l
  · have h40' : (40 : Int) < (l : Int) := by omega
    go_enter Try.func14, Try.ntmps14
    go_wp2
    go_ret
    exact ⟨_, rfl, Ext.refl _⟩
  · have h40' : ((40 : Int) < (l : Int)) = False := by simp; omega
    clear h40
    go_enter Try.func14, Try.ntmps14
    go_wp2_with fail
    go_loopw [3] (fun i wr => ∃ j : Nat, j ≤ l ∧ i = .int .i64 j ∧ Ext w wr) (fun i _ => l - (intOf i).toNat)
    case atStart => exact ⟨0, Nat.zero_le _, rfl, Ext.refl _⟩
    case round =>
      obtain ⟨j, hj, rfl, hw⟩ := hrel
      by_cases hlt : j < l
      · obtain ⟨b, off, rfl, hat, ht⟩ := (HR.out.ext hw).at hlt
        have HT := Lib.hid ht
        clear ht
        obtain ⟨e0, e1, e2, e3, e4⟩ := hat
        have hj1 : wrap64 ((j : Int) + 1) = (j : Int) + 1 := succ_in HL.out hlt
        have hji : (j : Int) < (l : Int) := by omega
        go_wp2_with fail
        refine (light_any n (g j) _ HT.out).mono ?_
        rintro e w2 ⟨t, rfl, h2⟩
        replace hw := hw.trans h2
        clear h2 e0 e1 e2 e3 e4
        cases t with
        | false =>
          go_wp2
          go_ret
          exact ⟨_, rfl, hw⟩
        | true =>
          go_wp2_with fail
          go_roundw
          case rel => exact ⟨j + 1, by omega, by go_num, hw⟩
          case measure => rw [hj1]; exact dec_lt hlt
      · have hnl : ((j : Int) < (l : Int)) = False := by simp; omega
        go_wp2
        go_ret
        exact ⟨_, rfl, hw⟩

set_option maxRecDepth 100000 in
set_option maxHeartbeats 4000000 in
theorem numSums_law (w : World) (A : Option Addr) (l c : Nat) (n : Nat) (hv : Vals w n A l c) : Calls Try.prog 4 #[.slice A l c] w (Ret (.bool true) w) := by
  obtain ⟨g, hr, hl⟩ := hv.fn
  have HL := Lib.hid hl
  have HR := Lib.hid hr
  clear hl hr hv
  go_enter Try.func4, Try.ntmps4
  go_wp2_with fail
  refine (known_any _).mono ?_
  rintro e w1 ⟨rfl, hx⟩
  go_wp2_with fail
  refine (lights_any _ n A l c g (HR.out.ext hx) HL.out).mono ?_
  rintro e w2 ⟨t, rfl, h2⟩
  replace hx := hx.trans h2
  clear h2
  cases t with
  | false =>
    go_wp2
    go_ret
    exact ⟨rfl, hx⟩
  | true =>
    go_wp2_with fail
    refine (sum_any _ n A l c g (HR.out.ext hx) HL.out).mono ?_
    rintro e w3 ⟨rfl, h3⟩
    obtain ⟨P, hP⟩ : ∃ P, sumFrom g l 0 = P := ⟨_, rfl⟩
    have HP := Lib.hid hP
    rw [hP]
    clear hP
    obtain ⟨p, q, r, e⟩ := P
    simp only [Acc.val]
    have V := VAt.new w3 p q r ⟨#[]⟩ (.slice none 0 0)
    replace hx := hx.trans (h3.alloc (.cells #[.int .i64 p, .int .i64 q, .float .f64 r, .string ⟨#[]⟩, .slice none 0 0] 31))
    clear h3
    go_wp2_with fail
    refine (rsum_any _ n A l c g (HR.out.ext hx) HL.out).mono ?_
    rintro e w4 ⟨rfl, h4⟩
    rw [HP.out]
    simp only [Acc.val]
    have h5 := h4.alloc (.cells #[.int .i64 p, .int .i64 q, .float .f64 r, .string ⟨#[]⟩, .slice none 0 0] 31)
    have U := VAt.new w4 p q r ⟨#[]⟩ (.slice none 0 0)
    replace V := V.ext h5
    replace hx := hx.trans h5
    clear h4 h5 HP
    obtain ⟨c0, c1, c2, c3, c4⟩ := V.pack
    obtain ⟨d0, d1, d2, d3, d4⟩ := U.pack
    go_wp2_with fail
    refine (same_flat _ _ _ _).mono ?_
    rintro e w5 ⟨rfl, h5⟩
    replace hx := hx.trans h5
    clear h5 c0 c1 c2 c3 c4 d0 d1 d2 d3 d4 U V
    go_wp2_with fail
    go_loopw [7] (fun i wr => ∃ j : Nat, j ≤ l ∧ i = .int .i64 j ∧ Ext w wr) (fun i _ => l - (intOf i).toNat)
    case atStart => exact ⟨0, Nat.zero_le _, rfl, hx⟩
    case round =>
      clear hx
      obtain ⟨j, hj, rfl, hw⟩ := hrel
      by_cases hlt : j < l
      · obtain ⟨b, off, rfl, hat, ht⟩ := (HR.out.ext hw).at hlt
        have HT := Lib.hid ht.facts
        clear ht
        obtain ⟨e0, e1, e2, e3, e4⟩ := hat
        obtain ⟨⟨k, i, f, s, A', l', c'⟩, hy⟩ : ∃ y, g j = y := ⟨_, rfl⟩
        rw [hy] at e0 e1 e2 e3 e4 HT
        simp only at e0 e1 e2 e3 e4
        have hj1 : wrap64 ((j : Int) + 1) = (j : Int) + 1 := succ_in HL.out hlt
        have hji : (j : Int) < (l : Int) := by omega
        have hjn : ((j : Int) < 0) = False := by simp
        have a0 := fun p : Later wr => p.cell e0
        have a1 := fun p : Later wr => p.cell e1
        have a2 := fun p : Later wr => p.cell e2
        have a3 := fun p : Later wr => p.cell e3
        have a4 := fun p : Later wr => p.cell e4
        clear e0 e1 e2 e3 e4 hy
        cases hn : (k == 1 || k == 2) with
        | true =>
          go_wp2_with fail
          refine wp_region_rel' 31 (by kernel_rfl) (by kernel_rfl) (fun Fin hFin => ?_)
          simp only [List.take_succ_cons, List.take_zero]
          repeat (refine relGo_p (fun K hK => ?_); go_simp; refine hK _ ?_; clear hK K)
          refine relGo_q (.int .i64 (signV k i f)) ?_ (fun K hK => ?_)
          · intro w' hw'
            go_simp
            refine (sign_any _ _ _ _ _ _).mono ?_
            rintro e w'' ⟨rfl, h⟩
            exact ⟨rfl, h⟩
          go_simp
          refine hK _ ?_
          clear hK K
          repeat (refine relGo_p (fun K hK => ?_); go_simp; refine hK _ ?_; clear hK K)
          refine relGo_q (.int .i64 (signV k i f)) ?_ (fun K hK => ?_)
          · intro w' hw'
            go_simp
            refine (rsign_any _ _ _ _ _ _).mono ?_
            rintro e w'' ⟨rfl, h⟩
            exact ⟨rfl, h⟩
          go_simp
          refine hK _ ?_
          clear hK K
          repeat (refine relGo_p (fun K hK => ?_); go_simp; refine hK _ ?_; clear hK K)
          refine relGo_q (.bool (finV k f)) ?_ (fun K hK => ?_)
          · intro w' hw'
            go_simp
            refine (finite_any _ _ _ HT.out.2 _ _ _).mono ?_
            rintro e w'' ⟨rfl, h⟩
            exact ⟨rfl, h⟩
          go_simp
          refine hK _ ?_
          clear hK K
          repeat (refine relGo_p (fun K hK => ?_); go_simp; refine hK _ ?_; clear hK K)
          refine relGo_q (.bool true) ?_ (fun K hK => ?_)
          · intro w' hw'
            go_simp
            refine (number_exact _ _ _ _ _ _).mono ?_
            rintro e w'' ⟨rfl, rfl⟩
            rw [hn]
            exact ⟨rfl, x1 _ _⟩
          go_simp
          refine hK _ ?_
          clear hK K
          repeat (refine relGo_p (fun K hK => ?_); go_simp; refine hK _ ?_; clear hK K)
          refine relGo_q (.bool (finV k f)) ?_ (fun K hK => ?_)
          · intro w' hw'
            go_simp
            refine (rfinite_any _ _ _ _ _ _).mono ?_
            rintro e w'' ⟨rfl, h⟩
            exact ⟨rfl, h⟩
          go_simp
          refine hK _ ?_
          clear hK K
          repeat (refine relGo_p (fun K hK => ?_); go_simp; refine hK _ ?_; clear hK K)
          refine hFin _ _ (fun w9 hw9 => ?_)
          clear hFin Fin a0 a1 a2 a3 a4
          simp only [fillE, List.drop_succ_cons, List.drop_nil]
          replace hw := hw.trans hw9
          clear hw9
          go_wp2_with fail
          go_roundw
          case rel => exact ⟨j + 1, by omega, by go_num, hw⟩
          case measure => rw [hj1]; exact dec_lt hlt
        | false =>
          have hfv : finV k f = false := by
            unfold finV
            cases h1 : (k == 1) <;> cases h2 : (k == 2) <;> simp_all
          go_wp2_with fail
          refine wp_region_rel' 31 (by kernel_rfl) (by kernel_rfl) (fun Fin hFin => ?_)
          simp only [List.take_succ_cons, List.take_zero]
          repeat (refine relGo_p (fun K hK => ?_); go_simp; refine hK _ ?_; clear hK K)
          refine relGo_q (.int .i64 (signV k i f)) ?_ (fun K hK => ?_)
          · intro w' hw'
            go_simp
            refine (sign_any _ _ _ _ _ _).mono ?_
            rintro e w'' ⟨rfl, h⟩
            exact ⟨rfl, h⟩
          go_simp
          refine hK _ ?_
          clear hK K
          repeat (refine relGo_p (fun K hK => ?_); go_simp; refine hK _ ?_; clear hK K)
          refine relGo_q (.int .i64 (signV k i f)) ?_ (fun K hK => ?_)
          · intro w' hw'
            go_simp
            refine (rsign_any _ _ _ _ _ _).mono ?_
            rintro e w'' ⟨rfl, h⟩
            exact ⟨rfl, h⟩
          go_simp
          refine hK _ ?_
          clear hK K
          repeat (refine relGo_p (fun K hK => ?_); go_simp; refine hK _ ?_; clear hK K)
          refine relGo_q (.bool false) ?_ (fun K hK => ?_)
          · intro w' hw'
            go_simp
            refine (finite_any _ _ _ HT.out.2 _ _ _).mono ?_
            rintro e w'' ⟨rfl, h⟩
            rw [hfv]
            exact ⟨rfl, h⟩
          go_simp
          refine hK _ ?_
          clear hK K
          repeat (refine relGo_p (fun K hK => ?_); go_simp; refine hK _ ?_; clear hK K)
          refine relGo_q (.bool false) ?_ (fun K hK => ?_)
          · intro w' hw'
            go_simp
            refine (number_exact _ _ _ _ _ _).mono ?_
            rintro e w'' ⟨rfl, rfl⟩
            rw [hn]
            exact ⟨rfl, x1 _ _⟩
          go_simp
          refine hK _ ?_
          clear hK K
          repeat (refine relGo_p (fun K hK => ?_); go_simp; refine hK _ ?_; clear hK K)
          refine hFin _ _ (fun w9 hw9 => ?_)
          clear hFin Fin a0 a1 a2 a3 a4
          simp only [fillE, List.drop_succ_cons, List.drop_nil]
          replace hw := hw.trans hw9
          clear hw9
          go_wp2_with fail
          go_roundw
          case rel => exact ⟨j + 1, by omega, by go_num, hw⟩
          case measure => rw [hj1]; exact dec_lt hlt
      · have hnl : ((j : Int) < (l : Int)) = False := by simp; omega
        go_wp2
        go_ret
        exact ⟨rfl, hw⟩
end Go.Proofs.Ytgodncdhkmpfaaa

