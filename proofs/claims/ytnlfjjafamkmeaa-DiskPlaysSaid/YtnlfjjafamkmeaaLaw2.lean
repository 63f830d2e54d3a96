/- The law DiskTwice, walked. -/
import Derived.Test.YtnlfjjafamkmeaaLaws
namespace Go.Proofs.Ytnlfjjafamkmeaa
open Go.RowKit
set_option linter.unusedVariables false
attribute [local go_sem] stepR givesR fillE Ext.refl

theorem strOf_extract (xs : List Int) (k : Nat) : (strOfNums xs).extract 0 k = strOfNums (xs.take k) := by
  apply ByteArray.ext
  unfold strOfNums
  simp [ByteArray.data_extract, List.map_take]

theorem St.le {w0 w : World} {g : Nat} {bs : List Int} {s : Int} (h : St w0 w g bs s) : 0 ≤ s ∧ s ≤ bs.length ∧ bs.length ≤ 1000000 := by
  obtain ⟨⟨v, hd⟩, _⟩ := h
  exact ⟨hd.2.2.2.2.1, hd.2.2.2.2.2, hd.2.2.2.1⟩
theorem St.full {w0 w : World} {g : Nat} {bs : List Int} {k : Nat} (h : St w0 w g (bs.take k) k) : ∃ zs, zs = bs.take k ∧ St w0 w g zs zs.length := by
  refine ⟨_, rfl, ?_⟩
  have := h.le
  have hl : (bs.take k).length = k := by have := List.length_take_le k bs; omega
  rw [hl]
  exact h

theorem DiskAt.lower {T : TypeId} {w : World} {base base' g : Nat} {v : Value} {bs : List Int} {s : Int} (h : DiskAt T w base g v bs s) (hb : base' ≤ base) : DiskAt T w base' g v bs s :=
  ⟨h.1, Nat.le_trans hb h.2.1, h.2.2.1.lower hb, h.2.2.2⟩
/-- a twin, and a step of the first: the twin stays -/
theorem twin_stays {w0 w w1 w2 : World} {g g2 : Nat} {v v2 v' : Value} {bs bs' : List Int} {s s' : Int} (hd : DiskAt 40 w w0.heap.size g v bs s) (hb : Below w0.heap.size w0 w) (hg : w.heap.size ≤ g2) (hd2 : DiskAt 40 w1 w.heap.size g2 v2 bs s) (hb1 : Below w.heap.size w w1)
    (h1 : DiskAt 40 w2 w0.heap.size g v' bs' s') (hc : Chg (fun k => k = g ∨ some k = v.ownBlock) w1 w2) : St w0 w2 g bs' s' ∧ St w0 w2 g2 bs s := by
  have hB : Below w0.heap.size w0 w2 := by
    refine (hb.trans (hb1.mono hb.size)).trans (hc.below (Nat.le_trans hb.size hb1.size) (fun k hk => ?_))
    rcases hk with rfl | hk
    · exact hd.2.1
    · exact (hd.2.2.1.lt k hk.symm).1
  refine ⟨⟨⟨v', h1⟩, hB⟩, ⟨⟨v2, (hd2.chg hc ?_ ?_).lower hb.size⟩, hB⟩⟩
  · rintro (h | h)
    · have := hd.lt; omega
    · have := (hd.2.2.1.lt g2 h.symm).2.1; omega
  · rintro k hk (h | h)
    · have := (hd2.2.2.1.lt k hk).1; have := hd.lt; omega
    · have := (hd2.2.2.1.lt k hk).1; have := (hd.2.2.1.lt k h.symm).2.1; omega

set_option maxHeartbeats 2000000 in
theorem twice_law (A B C : Option Addr) (na nb nc ca cb cc : Nat) (xa xb xc : List Int) (x y n : Int) (w : World) (ha : Rd w A na xa) (hb : Rd w B nb xb) (hc : Rd w C nc xc) (hca : na ≤ ca) (hcb : nb ≤ cb) (hcc : nc ≤ cc)
    (ma : na ≤ 140737488355328) (mb : nb ≤ 140737488355328) (mc : nc ≤ 140737488355328) (x0 : 0 ≤ x) (x1 : x ≤ 255) (y0 : 0 ≤ y) (y1 : y ≤ 255) :
    Calls Try.prog 5 #[.slice A na ca, .slice B nb cb, .slice C nc cc, .int .u8 x, .int .u8 y, .int .i64 n] w (TruePost w) := by
  have hab : IntKind.i64.wrap ((na : Int) + (nb : Int)) = (na : Int) + (nb : Int) := IntWalk.i64_in _ (by omega)
  have habc : IntKind.i64.wrap ((na : Int) + (nb : Int) + (nc : Int)) = (na : Int) + (nb : Int) + (nc : Int) := IntWalk.i64_in _ (by omega)
  have HX := Lib.hid (And.intro ha (And.intro hb hc))
  have HL := Lib.hid (And.intro ha.1 (And.intro hb.1 hc.1))
  clear ha hb hc
  by_cases hn : 400 < na + nb + nc
  · have hn' : (400 : Int) < (na : Int) + (nb : Int) + (nc : Int) := by omega
    go_enter Try.func5, Try.ntmps5
    go_wp2_with (go_at_call 6; refine (known_any _).mono ?_; rintro e w1 ⟨rfl, h1⟩)
    go_ret
    exact ⟨rfl, h1⟩
  have hn' : ((400 : Int) < (na : Int) + (nb : Int) + (nc : Int)) = False := by simp; omega
  go_enter Try.func5, Try.ntmps5
  go_wp2_with (go_at_call 6; refine (known_any _).mono ?_; rintro e w1 ⟨rfl, h1⟩; have H1 := Lib.hid h1; clear h1)
  refine (st_new w w1 H1.out).mono ?_
  rintro e w2 ⟨g, rfl, h2⟩
  have H2 := Lib.hid h2
  clear h2
  go_wp2_with fail
  refine (st_append H2.out xa A na ca (HX.out.1.below H2.out.2) (by have := HL.out; simp; omega)).mono ?_
  rintro e w3 ⟨rfl, h3⟩
  have H3 : Hid (St w w3 g xa 0) := Lib.hid h3
  clear h3
  go_wp2_with fail
  refine (st_sync H3.out).mono ?_
  rintro e w4 ⟨rfl, h4⟩
  have H4 : Hid (St w w4 g xa na) := Lib.hid (by rw [HL.out.1] at h4; exact h4)
  clear h4
  go_wp2_with fail
  refine (st_append H4.out xb B nb cb (HX.out.2.1.below H4.out.2) (by have := HL.out; omega)).mono ?_
  rintro e w5 ⟨rfl, h5⟩
  have H5 := Lib.hid h5
  clear h5
  go_wp2_with fail
  refine (st_crash H5.out _).mono ?_
  rintro e w6 ⟨rfl, h6⟩
  obtain ⟨b1, hb1, h6⟩ := h6.full
  have H6 := Lib.hid h6
  have L1 : b1.length ≤ 400 := by
    have h0 := HL.out
    have h1 := List.length_take_le' (cutTo x na (xa ++ xb).length) (xa ++ xb)
    rw [← hb1, List.length_append] at h1
    omega
  clear hb1 h6
  go_wp2_with fail
  refine (st_bytes H6.out).mono ?_
  rintro e w7 ⟨A1, c1, rfl, h7, h7b⟩
  have k1 := h7.string (P := Try.prog) (c := c1) 22 5 Try.underlying22 Try.underlying5 9 Try.underlying9
  have H7 := Lib.hid (H6.out.below h7b)
  clear h7 h7b
  go_wp2_with fail
  clear k1
  refine (st_crash H7.out _).mono ?_
  rintro e w8 ⟨rfl, h8⟩
  have H8 : Hid (St w w8 g b1 b1.length) := Lib.hid (by
    have e1 : cutTo y (b1.length : Int) b1.length = b1.length := by unfold cutTo; omega
    rw [e1, List.take_length] at h8
    exact h8)
  clear h8
  go_wp2_with fail
  refine (st_bytes H8.out).mono ?_
  rintro e w9 ⟨A2, c2, rfl, h9, h9b⟩
  have k2 := h9.string (P := Try.prog) (c := c2) 22 5 Try.underlying22 Try.underlying5 9 Try.underlying9
  have H9 := Lib.hid (H8.out.below h9b)
  clear h9 h9b
  go_wp2_with fail
  clear k2
  refine (st_append H9.out xc C nc cc (HX.out.2.2.below H9.out.2) (by have := HL.out; omega)).mono ?_
  rintro e w10 ⟨rfl, h10⟩
  have H10 := Lib.hid h10
  clear h10
  go_wp2_with fail
  refine (st_truncate H10.out _).mono ?_
  rintro e w11 ⟨rfl, h11⟩
  obtain ⟨b3, hb3, h11⟩ := h11.full
  have H11 := Lib.hid h11
  clear h11
  have k3 : (convert 22 9 (.slice C nc cc)).run Try.prog w11 = _ := (HX.out.2.2.below H11.out.2).string 22 5 Try.underlying22 Try.underlying5 9 Try.underlying9
  have hov : ((strOfNums b1).size + (strOfNums xc).size > 9223372036854775807) = False := by
    rw [strOfNums_size, strOfNums_size]
    have := HL.out
    simp
    omega
  have es := strOf_append b1 xc
  obtain ⟨S, hS⟩ : ∃ S, S = strOfNums (b1 ++ xc) := ⟨_, rfl⟩
  rw [← hS] at es
  have hSz : S.size = (b1 ++ xc).length := by rw [hS, strOfNums_size]
  obtain ⟨q, hq⟩ : ∃ q : Int, (if n < 0 then 0 else n) = q := ⟨_, rfl⟩
  obtain ⟨k, hk1, hk2, hk3⟩ : ∃ k : Nat, k ≤ S.size ∧ (if (S.size : Int) < q then (S.size : Int) else q) = (k : Int) ∧ upto n (b1 ++ xc).length = k := by
    rw [hSz]
    refine ⟨min n.toNat (b1 ++ xc).length, by omega, by split at hq <;> split <;> omega, by unfold upto; omega⟩
  rw [hk3] at hb3
  have hx : S.extract 0 k = strOfNums b3 := by rw [hS, strOf_extract, hb3]
  have hl3 : b3.length = k := by rw [hb3, List.length_take]; omega
  have HE := Lib.hid (And.intro hx hl3)
  clear hx hl3 hb3 hk3 hS hSz
  go_wp2_with fail
  clear hk2 hq es hov k3
  obtain ⟨⟨v3, hd3⟩, hB3⟩ := H11.out
  have HD3 := Lib.hid (And.intro hd3 hB3)
  clear hd3 hB3
  refine (twin_any g _ v3 b3 _ w11 HD3.out.1).mono ?_
  rintro e w12 ⟨g2, v2, rfl, hg2, hd2, hb2⟩
  have H12 := Lib.hid (And.intro hg2 (And.intro hd2 hb2))
  clear hg2 hd2 hb2
  go_wp2_with fail
  refine (crash_any g _ v3 b3 _ 0 w12 (HD3.out.1.below H12.out.2.2)).mono ?_
  rintro e w13 ⟨v4, rfl, h13, _, hc13⟩
  have H13 : Hid (St w w13 g b3 b3.length ∧ St w w13 g2 b3 b3.length) := Lib.hid (by
    have e1 : cutTo 0 (b3.length : Int) b3.length = b3.length := by unfold cutTo; omega
    rw [e1, List.take_length] at h13
    exact twin_stays HD3.out.1 HD3.out.2 H12.out.1 H12.out.2.1 H12.out.2.2 h13 hc13)
  clear h13 hc13
  go_wp2_with fail
  have hk : (k : Int) ≤ (S.size : Int) := by omega
  have hx := HE.out.1
  have hl3 := HE.out.2
  have H14 : Hid (St w w13 g b3 k ∧ St w w13 g2 b3 k) := Lib.hid (by rw [← hl3]; exact H13.out)
  clear hl3
  refine wp_region_rel' 27 (by kernel_rfl) (by kernel_rfl) (fun Fin hFin => ?_)
  simp only [List.take_succ_cons, List.take_zero]
  repeat (refine relGo_p (fun K hK => ?_); go_simp; refine hK _ ?_; clear hK K)
  refine relGo_r (Reads b3) Reads.later ?_ ?_
  · intro w' hw'
    go_simp
    refine (st_bytes (H14.out.1.below hw')).mono ?_
    rintro e w'' ⟨A', c', rfl, h, hb⟩
    exact ⟨_, rfl, hb, A', c', rfl, h⟩
  refine relGo_q (.string (strOfNums b3)) ?_ (fun K hK => ?_)
  · intro w' hw' v hv
    obtain ⟨A', c', rfl, hr⟩ := hv (by kernel_rfl)
    have kz := hr.string (P := Try.prog) (c := c') 22 5 Try.underlying22 Try.underlying5 9 Try.underlying9
    go_simp
  go_simp
  refine hK _ ?_
  clear hK K
  repeat (refine relGo_p (fun K hK => ?_); go_simp; refine hK _ ?_; clear hK K)
  refine relGo_q (.int .i64 (k : Int)) ?_ (fun K hK => ?_)
  · intro w' hw' v hv
    go_simp
    refine (st_sure (H14.out.1.below hw')).mono ?_
    rintro e w'' ⟨rfl, rfl⟩
    exact ⟨rfl, Ext.refl _⟩
  go_simp
  refine hK _ ?_
  clear hK K
  repeat (refine relGo_p (fun K hK => ?_); go_simp; refine hK _ ?_; clear hK K)
  refine relGo_r (Reads b3) Reads.later ?_ ?_
  · intro w' hw' v hv
    go_simp
    refine (st_bytes (H14.out.2.below hw')).mono ?_
    rintro e w'' ⟨A', c', rfl, h, hb⟩
    exact ⟨_, rfl, hb, A', c', rfl, h⟩
  refine relGo_q (.string (strOfNums b3)) ?_ (fun K hK => ?_)
  · intro w' hw' v hv v' hv'
    obtain ⟨A', c', rfl, hr⟩ := hv' (by kernel_rfl)
    have kz := hr.string (P := Try.prog) (c := c') 22 5 Try.underlying22 Try.underlying5 9 Try.underlying9
    go_simp
  go_simp
  refine hK _ ?_
  clear hK K
  repeat (refine relGo_p (fun K hK => ?_); go_simp; refine hK _ ?_; clear hK K)
  refine hFin _ _ (fun w' hw' => ?_)
  intro v hv v' hv'
  clear hFin Fin
  go_wp2
  go_ret
  exact ⟨rfl, (H14.out.1.below hw').2⟩
end Go.Proofs.Ytnlfjjafamkmeaa
