/- The law GroupPlays: the walk. -/
import Derived.Test.YtdcbpnkcpglhhaaGrpCame
import Derived.Test.YtdcbpnkcpglhhaaGrpZB
import Derived.Test.YtdcbpnkcpglhhaaGrpZC
namespace Go.Proofs.Ytdcbpnkcpglhhaa
open Go.RowKit
set_option linter.unusedVariables false
set_option linter.unusedSimpArgs false
set_option linter.unnecessarySimpa false
attribute [local go_sem] stepR givesR fillE Ext.refl run_store_float

/-- both directories, the rows apart -/
structure Two (W w : World) (g h : Nat) (v1 v2 : Value) (L : List Gp) : Prop where
  ex : Ext W w
  d1 : Dr 57 w W.heap.size g v1 L
  d2 : Dr RD w W.heap.size h v2 L
  ap : ∀ k, v1.ownBlock = some k → v2.ownBlock ≠ some k
theorem Two.ext {W w w' : World} {g h : Nat} {v1 v2 : Value} {L : List Gp} (t : Two W w g h v1 v2 L) (hx : Ext w w') : Two W w' g h v1 v2 L := ⟨t.ex.trans hx, t.d1.ext hx, t.d2.ext hx, t.ap⟩
theorem Dr.gne {w : World} {b b' g h : Nat} {v v' : Value} {L L' : List Gp} (d : Dr 57 w b g v L) (e : Dr RD w b' h v' L') : g ≠ h := fun q => by
  have h1 := d.obj
  rw [q, e.obj] at h1
  cases h1
theorem lights_len {L : List T} (h : lightsB L = true) : L.length ≤ 40 := by
  unfold lightsB at h
  by_cases h40 : 40 < L.length
  · simp at h
    exact h.1
  · omega
def bGa : ByteArray := ⟨#[103, 97]⟩
def IsRG (L : List Gp) (v : Value) (w : World) : Prop := ∃ b, GRow w b v L
theorem IsRG.later (L : List Gp) : ∀ v w w', IsRG L v w → Ext w w' → IsRG L v w' := fun v w w' ⟨b, h⟩ hx => ⟨b, h.ext hx⟩
set_option maxRecDepth 1000000 in
set_option maxHeartbeats 8000000 in
theorem groupPlays_law (W : World) (A : Option Addr) (n c : Nat) (f : Nat → ActV) (ha : Acts W A n f ∧ n ≤ c ∧ c ≤ maxLen) : Calls Try.prog 4 #[.slice A n c] W (RetX (.bool true) W) := by
  have HA := Lib.hid ha
  clear ha
  by_cases h60 : 60 < n
  · have h60' : (60 : Int) < (n : Int) := by omega
    go_enter Try.func4, Try.ntmps4
    go_wp2_with fail
    refine (known_any _).mono ?_
    rintro e w1 ⟨rfl, hx⟩
    have HX := Lib.hid hx
    clear hx
    go_wp2_with fail
    go_ret
    exact ⟨rfl, HX.out⟩
  have h60' : decide ((60 : Int) < (n : Int)) = false := decide_eq_false (by omega)
  have hn : n ≤ 60 := by omega
  clear h60
  go_enter Try.func4, Try.ntmps4
  go_wp2_with fail
  refine (known_any _).mono ?_
  rintro e w1 ⟨rfl, hx⟩
  have x1 := (Ext.refl w1).alloc (.cells #[.slice none 0 0] 57)
  have x2 := (Ext.refl (w1.alloc (.cells #[.slice none 0 0] 57))).alloc (.cells #[.slice none 0 0] RD)
  have o1 := x2.obj (heap_alloc_new w1 (.cells #[.slice none 0 0] 57))
  have o2 := heap_alloc_new (w1.alloc (.cells #[.slice none 0 0] 57)) (.cells #[.slice none 0 0] RD)
  rw [show ∀ o, (w1.alloc o).heap.size = w1.heap.size + 1 from fun o => by simp] at o2
  have H1 : Hid (Two W ((w1.alloc (.cells #[.slice none 0 0] 57)).alloc (.cells #[.slice none 0 0] RD)) w1.heap.size (w1.heap.size + 1) (.slice none 0 0) (.slice none 0 0) []) := Lib.hid ⟨hx.trans (x1.trans x2), new_dir o1 hx.size_le', new_dir o2 (Nat.le_trans hx.size_le' (Nat.le_succ _)), fun k e => by simp [Value.ownBlock] at e⟩
  clear hx x1 x2 o1 o2
  go_wp2_with fail
  refine (new_any _).mono ?_
  rintro e w2 ⟨rfl, rfl⟩
  go_wp2_with fail
  have h1 := H1.out
  clear H1
  revert h1
  generalize World.alloc (World.alloc _ _) _ = w3
  generalize w1.heap.size + 1 = h
  generalize w1.heap.size = g
  intro h1
  have H1 := Lib.hid h1
  clear h1
  go_loopw [5] (fun i wr => ∃ j : Nat, j ≤ n ∧ i = .int .i64 j ∧ Hid (∃ v1 v2 L, Two W wr g h v1 v2 L)) (fun i _ => n - (intOf i).toNat)
  case atStart => exact ⟨0, Nat.zero_le _, rfl, Lib.hid ⟨_, _, _, H1.out⟩⟩
  case round =>
    obtain ⟨j, hj, rfl, I⟩ := hrel
    obtain ⟨v1, v2, L, hT⟩ := I.out
    have HT := Lib.hid hT
    clear I
    have hjn : ((j : Int) < 0) = False := by simp
    by_cases hlt : j < n
    · have hji : (j : Int) < (n : Int) := by omega
      have hw1 : IntKind.i64.wrap ((j : Int) + 1) = (j : Int) + 1 := IntWalk.i64_in _ (by omega)
      obtain ⟨b, off, rfl, hat⟩ := HA.out.1 (by omega)
      obtain ⟨hcell, hM, hN, hK, N, hrd⟩ := hat j hlt
      generalize f j = y at hcell hM hN hK hrd
      obtain ⟨M, Nm, K, Ay, cy, ty⟩ := y
      simp only at hcell hM hN hK hrd
      have a0 := hcell 0 _ rfl
      rw [Nat.add_zero] at a0
      have a1 := hcell 1 _ rfl
      have a2 := hcell 2 _ rfl
      have a3 := hcell 3 _ rfl
      have HC := Lib.hid (And.intro a0 (And.intro a1 (And.intro a2 a3)))
      have b3 := hT.ex.cell a3
      have hrr : Rds wr (fun k => W.heap.size ≤ k) N Ay cy ty := hrd.chg (Chg.of_ext hT.ex) (fun _ _ h => h.elim) (fun k hk e => by omega)
      have L1 := lights_any hrr
      have HR := Lib.hid hrr
      clear hat hcell hrd a0 a1 a2 a3 hrr hT
      cases hlg : lightsB ty with
      | false =>
        rw [hlg] at L1
        clear hlg
        go_wp2_with fail
        refine L1.mono ?_
        rintro e wl ⟨rfl, hx⟩
        have HX := Lib.hid (HT.out.ex.trans hx)
        clear hx
        go_wp2_with fail
        go_ret
        exact ⟨rfl, HX.out⟩
      | true =>
        rw [hlg] at L1
        have h40 := lights_len hlg
        clear hlg
        go_wp2_with fail
        refine L1.mono ?_
        rintro e wl ⟨rfl, hx⟩
        have hTl := HT.out.ext hx
        have c0 := hTl.ex.cell HC.out.1
        have c1 := hTl.ex.cell HC.out.2.1
        have c2 := hTl.ex.cell HC.out.2.2.1
        have c3 := hTl.ex.cell HC.out.2.2.2
        have C1 := call_any M Nm K hM hN hK (HR.out.ext hx) h40
        have HTl := Lib.hid hTl
        clear hx hTl L1 HT HR
        go_wp2_with fail
        refine C1.mono ?_
        rintro e wc ⟨meth, A', c', ts, rfl, hrc, hxc⟩
        have hTc := HTl.out.ext hxc
        have HRc := Lib.hid (And.intro hrc (And.intro hxc HTl.out))
        have HTc := Lib.hid hTc
        have K1 := clone_any hTc.d1
        clear hrc hxc hTc C1 HTl c0 c1 c2 c3 b3
        go_wp2_with fail
        refine K1.mono ?_
        rintro e wd ⟨gc, vc, rfl, hdc, hxd⟩
        have K2 := all_any (HTc.out.ext hxd).d1
        have HD := Lib.hid (And.intro hdc hxd)
        clear hdc hxd K1
        go_wp2_with fail
        refine K2.mono ?_
        rintro e wa ⟨va, rfl, hra, hxa⟩
        obtain ⟨Aa, ca, rfl, _⟩ := hra.form
        have hTa := (HTc.out.ext HD.out.2).ext hxa
        have hDa := HD.out.1.ext hxa
        have hRa := HRc.out.1.ext (HD.out.2.trans hxa)
        have hT0 := HRc.out.2.2
        have hlo : ∀ k, v1.ownBlock = some k → W.heap.size ≤ k ∧ k < wl.heap.size := fun k e => ⟨(hT0.d1.row.lt k e).1, (hT0.d1.row.lt k e).2.1⟩
        have K3 := do_any (m := meth) hTa.d1 hTa.ex.size_le' hRa hlo
        have hszc : wc.heap.size ≤ wa.heap.size := (HD.out.2.trans hxa).size_le'
        have hszl : wl.heap.size ≤ wc.heap.size := HRc.out.2.1.size_le'
        have hszd : wc.heap.size ≤ wd.heap.size := HD.out.2.size_le'
        have HQ := Lib.hid (And.intro hTa (And.intro hDa (And.intro hRa (And.intro hra (And.intro hlo (And.intro hszc (And.intro hszl hszd)))))))
        generalize hr : DoG L meth ts = r at K3
        obtain ⟨rL, rT, rz⟩ := r
        obtain ⟨tk, ti, tf, tS, tl⟩ := rT
        have HG := Lib.hid (And.intro hr hT0)
        clear hr hra hxa hTa hDa hRa hT0 hlo K2 hszc hszl hszd HRc HTc HD
        go_wp2_with fail
        refine K3.mono ?_
        rintro e we ⟨v1', At, ct, rfl, hd1, hrt, hch, hfr⟩
        obtain ⟨hTa, hDa, hRa, hra, hlo, hszc, hszl, hszd⟩ := HQ.out
        obtain ⟨hr, hT0⟩ := HG.out
        have hglt := hT0.d1.lt
        have hhlt := hT0.d2.lt
        have hgh := hTa.d1.gne hTa.d2
        have hlo2 : ∀ k, v2.ownBlock = some k → W.heap.size ≤ k ∧ k < wl.heap.size := fun k e => ⟨(hT0.d2.row.lt k e).1, (hT0.d2.row.lt k e).2.1⟩
        have n1 : v1.ownBlock ≠ some h := CRow.ne hTa.d1.row hTa.d2.obj (by decide)
        have n2 : v2.ownBlock ≠ some g := CRow.ne hTa.d2.row hTa.d1.obj (by decide)
        have D2 := hTa.d2.chg hch (fun e => by rcases e with e | e; exact hgh e.symm; exact n1 e.symm) (fun k e e2 => by rcases e2 with e2 | e2; exact n2 (e2 ▸ e); exact hTa.ap k e2.symm e)
        have hgc := hDa.low
        have DC := hDa.chg hch (fun e => by
          rcases e with e | e
          · omega
          · have := (hlo gc e.symm).2; omega) (fun k e e2 => by
          have hk := (hDa.row.lt k e).1
          rcases e2 with e2 | e2
          · omega
          · have := (hlo k e2.symm).2; omega)
        have RWa : GRow we wd.heap.size (.slice Aa L.length ca) L := CRow.chg hra hch (fun k e e2 => by
          have hk := (hra.lt k e).1
          rcases e2 with e2 | e2
          · omega
          · have := (hlo k e2.symm).2; omega)
        have RA := hRa.chg (S' := fun k => W.heap.size ≤ k ∧ k < wl.heap.size) hch (fun k hk e => by
          rcases e with e | e
          · have := hTa.d1.low; exact ⟨by omega, by omega⟩
          · exact hlo k e.symm) (fun k _ e => e)
        have exe : Ext W we := Below.trans hTa.ex (hTa.d1.below hTa.ex.size_le' hch)
        have ap1 : ∀ k, v1'.ownBlock = some k → v2.ownBlock ≠ some k := fun k e e2 => by
          rcases hfr with q | ⟨i, q, hi⟩
          · rw [q] at e; exact hTa.ap k e e2
          · rw [q] at e; injection e with e; have := (hlo2 k e2).2; omega
        have hszw : wa.heap.size ≤ we.heap.size := hch.size
        have xf := (Ext.refl we).alloc (.cells #[.int .i64 tk, .int .i64 ti, .float .f64 tf, .string tS, .slice At tl.length ct] 28)
        have o10 := heap_alloc_new we (.cells #[.int .i64 tk, .int .i64 ti, .float .f64 tf, .string tS, .slice At tl.length ct] 28)
        have hszf := xf.size_le'
        have K4 := refdo_any (m := meth) (D2.ext xf) (exe.trans xf).size_le' (RA.ext xf) hlo2
        rw [hr] at K4
        simp only at hd1 hrt
        have HF := Lib.hid (And.intro (exe.trans xf) (And.intro (hd1.ext xf) (And.intro (D2.ext xf) (And.intro (DC.ext xf) (And.intro (RWa.ext xf) (And.intro (hrt.ext xf) (And.intro o10 ap1)))))))
        have HS := Lib.hid (And.intro hglt (And.intro hhlt (And.intro hszc (And.intro hszl (And.intro hszd (And.intro hszw (And.intro hszf (And.intro hlo2 (And.intro n2 hgh)))))))))
        clear hTa hDa hRa hra hlo hT0 hr D2 hgc DC RWa RA exe ap1 xf o10 hd1 hrt hch hfr hlo2 n1 n2 HQ HG K3 hgh hglt hhlt hszc hszl hszd hszw hszf
        simp only [T.val]
        go_wp2_with fail
        revert HF HS K4
        generalize World.alloc we _ = wf
        generalize we.heap.size = b10
        intro K4 HF HS
        refine K4.mono ?_
        rintro e wg ⟨v2', At2, ct2, rfl, hd2, hrt2, hch2, hfr2⟩
        obtain ⟨exf, d1f, d2f, dcf, rwf, rtf, o10, ap1⟩ := HF.out
        obtain ⟨hglt, hhlt, hszc, hszl, hszd, hszw, hszf, hlo2, n2, hgh⟩ := HS.out
        have m1 : v1'.ownBlock ≠ some h := CRow.ne d1f.row d2f.obj (by decide)
        have D1 := d1f.chg hch2 (fun e => by rcases e with e | e; exact hgh e; exact n2 e.symm) (fun k e e2 => by rcases e2 with e2 | e2; exact m1 (e2 ▸ e); exact ap1 k e e2.symm)
        have hgc := dcf.low
        have DC := dcf.chg hch2 (fun e => by
          rcases e with e | e
          · omega
          · have := (hlo2 gc e.symm).2; omega) (fun k e e2 => by
          have hk := (dcf.row.lt k e).1
          rcases e2 with e2 | e2
          · omega
          · have := (hlo2 k e2.symm).2; omega)
        have RWg : GRow wg wd.heap.size (.slice Aa L.length ca) L := CRow.chg rwf hch2 (fun k e e2 => by
          have hk := (rwf.lt k e).1
          rcases e2 with e2 | e2
          · omega
          · have := (hlo2 k e2.symm).2; omega)
        have RT := Rd.chg (S' := fun k => k < wa.heap.size) hch2 (fun k hk e => by
          rcases e with e | e
          · show k < _; omega
          · have := (hlo2 k e.symm).2; show k < _; omega) (fun k _ e => e) _ _ _ _ rtf
        have og := hch2.obj o10 (fun e => by
          rcases e with e | e
          · omega
          · have := (hlo2 b10 e.symm).2; omega)
        have exg : Ext W wg := Below.trans exf (d2f.below exf.size_le' hch2)
        have ap2 : ∀ k, v1'.ownBlock = some k → v2'.ownBlock ≠ some k := fun k e e2 => by
          rcases hfr2 with q | ⟨i, q, hi⟩
          · rw [q] at e2; exact ap1 k e e2
          · rw [q] at e2; injection e2 with e2; have := (d1f.row.lt k e).2.1; omega
        simp only at hd2 hrt2
        have xh := (Ext.refl wg).alloc (.cells #[.int .i64 tk, .int .i64 ti, .float .f64 tf, .string tS, .slice At2 tl.length ct2] 28)
        have o12 := heap_alloc_new wg (.cells #[.int .i64 tk, .int .i64 ti, .float .f64 tf, .string tS, .slice At2 tl.length ct2] 28)
        have hTw : Two W wg g h v1' v2' rL := ⟨exg, D1, hd2, ap2⟩
        have HH := Lib.hid (And.intro (hTw.ext xh) (And.intro (DC.ext xh) (And.intro (RWg.ext xh) (And.intro (RT.ext xh) (And.intro (hrt2.ext xh) (And.intro (xh.obj og) o12))))))
        clear exf d1f d2f dcf rwf rtf o10 ap1 hglt hhlt hszc hszl hszd hszw hszf hlo2 n2 hgh m1 D1 hgc DC RWg RT og exg ap2 hd2 hrt2 hch2 hfr2 xh o12 hTw HF HS K4
        simp only [T.val]
        go_wp2_with fail
        revert HH
        generalize World.alloc wg _ = wh
        generalize wg.heap.size = b12
        intro HH
        obtain ⟨hTw, DC, RWh, RT, RT2, o10, o12⟩ := HH.out
        have a0 : ∀ p : Later wh, p.w.cell? ⟨b10, 0, none⟩ = some (.int .i64 tk) := fun p => p.cell ((cell_of_row wh b10 0 _ _ _ o10).trans rfl)
        have a1 : ∀ p : Later wh, p.w.cell? ⟨b10, 1, none⟩ = some (.int .i64 ti) := fun p => p.cell ((cell_of_row wh b10 1 _ _ _ o10).trans rfl)
        have a2 : ∀ p : Later wh, p.w.cell? ⟨b10, 2, none⟩ = some (.float .f64 tf) := fun p => p.cell ((cell_of_row wh b10 2 _ _ _ o10).trans rfl)
        have a3 : ∀ p : Later wh, p.w.cell? ⟨b10, 3, none⟩ = some (.string tS) := fun p => p.cell ((cell_of_row wh b10 3 _ _ _ o10).trans rfl)
        have a4 : ∀ p : Later wh, p.w.cell? ⟨b10, 4, none⟩ = some (.slice At tl.length ct) := fun p => p.cell ((cell_of_row wh b10 4 _ _ _ o10).trans rfl)
        have m0 : ∀ p : Later wh, p.w.cell? ⟨b12, 0, none⟩ = some (.int .i64 tk) := fun p => p.cell ((cell_of_row wh b12 0 _ _ _ o12).trans rfl)
        have m1 : ∀ p : Later wh, p.w.cell? ⟨b12, 1, none⟩ = some (.int .i64 ti) := fun p => p.cell ((cell_of_row wh b12 1 _ _ _ o12).trans rfl)
        have m2 : ∀ p : Later wh, p.w.cell? ⟨b12, 2, none⟩ = some (.float .f64 tf) := fun p => p.cell ((cell_of_row wh b12 2 _ _ _ o12).trans rfl)
        have m3 : ∀ p : Later wh, p.w.cell? ⟨b12, 3, none⟩ = some (.string tS) := fun p => p.cell ((cell_of_row wh b12 3 _ _ _ o12).trans rfl)
        have m4 : ∀ p : Later wh, p.w.cell? ⟨b12, 4, none⟩ = some (.slice At2 tl.length ct2) := fun p => p.cell ((cell_of_row wh b12 4 _ _ _ o12).trans rfl)
        obtain ⟨A2, c2, rfl, _⟩ := hTw.d2.row.form
        have e2 : ∀ p : Later wh, p.w.cell? ⟨h, 0, none⟩ = some (.slice A2 rL.length c2) := fun p => p.cell hTw.d2.cell.1
        have G0 := Lib.hid (And.intro hTw (And.intro DC (And.intro RWh (And.intro RT RT2))))
        clear hTw DC RWh RT RT2 o10 o12 HH
        refine wp_region_rel' 30 (by kernel_rfl) (by kernel_rfl) (fun Fin hFin => ?_)
        simp only [List.take_succ_cons, List.take_zero]
        (refine relGo_p (fun K hK => ?_); go_simp; refine hK _ ?_; clear hK K)
        (refine relGo_p (fun K hK => ?_); go_simp; refine hK _ ?_; clear hK K)
        (refine relGo_p (fun K hK => ?_); go_simp; refine hK _ ?_; clear hK K)
        (refine relGo_p (fun K hK => ?_); go_simp; refine hK _ ?_; clear hK K)
        (refine relGo_p (fun K hK => ?_); go_simp; refine hK _ ?_; clear hK K)
        (refine relGo_p (fun K hK => ?_); go_simp; refine hK _ ?_; clear hK K)
        refine relGo_q (.bool true) ?_ (fun K hK => ?_)
        · intro w' hw'
          have T1 := same_any 3 w' (T.mk tk ti tf tS tl) At ct At2 ct2 (G0.out.2.2.2.1.ext hw') (G0.out.2.2.2.2.ext hw')
          simp only [T.val] at T1
          go_simp
          refine T1.mono ?_
          rintro e w'' ⟨rfl, hx⟩
          exact ⟨rfl, hx⟩
        go_simp; refine hK _ ?_; clear hK K
        (refine relGo_p (fun K hK => ?_); go_simp; refine hK _ ?_; clear hK K)
        (refine relGo_p (fun K hK => ?_); go_simp; refine hK _ ?_; clear hK K)
        (refine relGo_p (fun K hK => ?_); go_simp; refine hK _ ?_; clear hK K)
        (refine relGo_p (fun K hK => ?_); go_simp; refine hK _ ?_; clear hK K)
        (refine relGo_p (fun K hK => ?_); go_simp; refine hK _ ?_; clear hK K)
        (refine relGo_p (fun K hK => ?_); go_simp; refine hK _ ?_; clear hK K)
        (refine relGo_p (fun K hK => ?_); go_simp; refine hK _ ?_; clear hK K)
        (refine relGo_p (fun K hK => ?_); go_simp; refine hK _ ?_; clear hK K)
        refine relGo_r (IsRG L) (IsRG.later _) ?_ ?_
        · intro w' hw'
          have T1 := all_any (G0.out.2.1.ext hw')
          go_simp
          refine T1.mono ?_
          rintro e w'' ⟨v5, rfl, hr5, hx⟩
          exact ⟨v5, rfl, hx, _, hr5⟩
        (refine relGo_p (fun K hK => ?_); go_simp; refine hK _ ?_; clear hK K)
        refine relGo_q (.bool true) ?_ (fun K hK => ?_)
        · intro w' hw' v5 hv5
          obtain ⟨b5, hr5⟩ : IsRG L v5 w' := hv5 (by kernel_rfl)
          obtain ⟨A5, c5, rfl, _⟩ := hr5.form
          have T1 := gsame_any (c := c5) (c' := ca) hr5.rd (G0.out.2.2.1.ext hw').rd (Nat.le_trans G0.out.2.1.few (by decide))
          clear hv5 hr5
          go_simp
          refine T1.mono ?_
          rintro e w'' ⟨rfl, hx⟩
          exact ⟨rfl, hx⟩
        go_simp; refine hK _ ?_; clear hK K
        (refine relGo_p (fun K hK => ?_); go_simp; refine hK _ ?_; clear hK K)
        (refine relGo_p (fun K hK => ?_); go_simp; refine hK _ ?_; clear hK K)
        (refine relGo_p (fun K hK => ?_); go_simp; refine hK _ ?_; clear hK K)
        (refine relGo_p (fun K hK => ?_); go_simp; refine hK _ ?_; clear hK K)
        refine relGo_r (IsRG rL) (IsRG.later _) ?_ ?_
        · intro w' hw' v5 hv5
          have T1 := all_any (G0.out.1.d1.ext hw')
          go_simp
          refine T1.mono ?_
          rintro e w'' ⟨v5, rfl, hr5, hx⟩
          exact ⟨v5, rfl, hx, _, hr5⟩
        (refine relGo_p (fun K hK => ?_); go_simp; refine hK _ ?_; clear hK K)
        (refine relGo_p (fun K hK => ?_); go_simp; refine hK _ ?_; clear hK K)
        (refine relGo_p (fun K hK => ?_); go_simp; refine hK _ ?_; clear hK K)
        (refine relGo_p (fun K hK => ?_); go_simp; refine hK _ ?_; clear hK K)
        refine relGo_q (.bool true) ?_ (fun K hK => ?_)
        · intro w' hw' v5 hv5 v6 hv6
          obtain ⟨b6, hr6⟩ : IsRG rL v6 w' := hv6 (by kernel_rfl)
          obtain ⟨A6, c6, rfl, _⟩ := hr6.form
          have T1 := gsame_any (c := c6) (c' := c2) hr6.rd (G0.out.1.d2.ext hw').row.rd (Nat.le_trans G0.out.1.d1.few (by decide))
          clear hv5 hv6 hr6
          go_simp
          refine T1.mono ?_
          rintro e w'' ⟨rfl, hx⟩
          exact ⟨rfl, hx⟩
        go_simp; refine hK _ ?_; clear hK K
        (refine relGo_p (fun K hK => ?_); go_simp; refine hK _ ?_; clear hK K)
        (refine relGo_p (fun K hK => ?_); go_simp; refine hK _ ?_; clear hK K)
        refine hFin _ _ (fun w9 hw9 => ?_)
        intro v5 hv5 v6 hv6
        obtain ⟨b5, hr5⟩ : IsRG L v5 w9 := hv5 (by kernel_rfl)
        obtain ⟨A5, c5, rfl, _⟩ := hr5.form
        obtain ⟨b6, hr6⟩ : IsRG rL v6 w9 := hv6 (by kernel_rfl)
        obtain ⟨A6, c6, rfl, _⟩ := hr6.form
        have T9 := Lib.hid (G0.out.1.ext hw9)
        clear hFin Fin hv5 hv6 hr5 hr6 hw9 a0 a1 a2 a3 a4 m0 m1 m2 m3 m4 e2 G0
        have K5 := get_any T9.out.d1 ⟨#[103, 97]⟩
        generalize hgp : hasN rL ⟨#[103, 97]⟩ = hz at K5
        generalize hgg : getG rL ⟨#[103, 97]⟩ = gp at K5
        obtain ⟨pn, pc, ps, pv⟩ := gp
        have HG2 := Lib.hid (And.intro hgg hgp)
        clear hgg hgp
        simp only [fillE, List.drop_succ_cons, List.drop_zero, List.drop_nil]
        go_wp2_with fail
        refine K5.mono ?_
        rintro e wi ⟨rfl, hxi⟩
        simp only [Gp.val]
        have xi := (Ext.refl wi).alloc (.cells #[.string pn, .string pc, .int .i64 ps, .int .u32 pv] 36)
        have oi := heap_alloc_new wi (.cells #[.string pn, .string pc, .int .i64 ps, .int .u32 pv] 36)
        have TI := Lib.hid ((T9.out.ext hxi).ext xi)
        have OI := Lib.hid oi
        clear hxi xi oi K5 T9
        go_wp2_with fail
        have K6 := rget_any TI.out.d2 ⟨#[103, 97]⟩
        rw [HG2.out.1, HG2.out.2] at K6
        refine K6.mono ?_
        rintro e wj ⟨rfl, hxj⟩
        simp only [Gp.val]
        have xj := (Ext.refl wj).alloc (.cells #[.string pn, .string pc, .int .i64 ps, .int .u32 pv] 36)
        have oj := xj.obj (hxj.obj OI.out)
        have TJ := Lib.hid ((TI.out.ext hxj).ext xj)
        have g0 := (cell_of_row _ wi.heap.size 0 _ _ _ oj).trans (rfl : _ = some (Value.string pn))
        have g1 := (cell_of_row _ wi.heap.size 1 _ _ _ oj).trans (rfl : _ = some (Value.string pc))
        have g2 := (cell_of_row _ wi.heap.size 2 _ _ _ oj).trans (rfl : _ = some (Value.int .i64 ps))
        have g3 := (cell_of_row _ wi.heap.size 3 _ _ _ oj).trans (rfl : _ = some (Value.int .u32 pv))
        clear hxj xj oj K6 TI OI
        go_wp2_with fail
        go_roundw
        case rel => exact ⟨j + 1, by omega, by go_num, Lib.hid ⟨_, _, _, TJ.out⟩⟩
        case measure => simp [intOf]; omega
    · obtain rfl : j = n := by omega
      have hnl : decide ((j : Int) < (j : Int)) = false := by simp
      have HX := Lib.hid hT.ex
      clear hT
      go_wp2_with fail
      go_ret
      exact ⟨rfl, HX.out⟩
end Go.Proofs.Ytdcbpnkcpglhhaa
