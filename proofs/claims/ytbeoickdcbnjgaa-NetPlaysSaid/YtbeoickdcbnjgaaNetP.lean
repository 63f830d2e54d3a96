/- The law NetPlays: its switch: an act that drops. -/
import Derived.Test.YtbeoickdcbnjgaaNetO
namespace Go.Proofs.Ytbeoickdcbnjgaa
open Go.RowKit
set_option linter.unusedVariables false
set_option linter.unusedSimpArgs false
attribute [local go_sem] stepR givesR fillE Ext.refl

set_option maxRecDepth 1000000 in
set_option maxHeartbeats 4000000 in
theorem sw_drop {A : Option Addr} {n c : Nat} {x y : Int} {W : World} {g h j gx l : Nat} {v : ActV} {k : Int} {t : Bool} {a : Act} {w : World}
    (hk : Kn A n c x y g h j a) (h10 : G a 10 = .pointer (some ⟨gx, 0, none⟩)) (h11 : G a 11 = .int .i64 k) (h12 : G a 12 = .bool t) (hS : StandI W g h (some (gx, v.arr)) [v.p] l k t w) (hl60 : l ≤ 60) (hkr : IntKind.i64.min ≤ k ∧ k ≤ IntKind.i64.max) (hok : ActOk W v) (hw : v.what % 8 = 5) (hw2 : 0 ≤ v.what ∧ v.what ≤ 255) :
    Code.wp Try.prog (nav [1,1,1,1,0,1,2,3,1,0,2,1,1,1,1,1,0] theBody) (Norm (SwPost A n c x y W g h j gx (l + 1) v)) a w := by
  obtain ⟨m, L, hd, hl, hwf, hte⟩ := hS
  have x0 : w.cell? ⟨gx, 0, none⟩ = some (.int .u8 v.what) := (cell_of_row w gx 0 _ _ _ hd.actc).trans rfl
  cases hin : inB k L.length with
  | false =>
    rw [hin] at hte
    subst hte
    have T1 := duo_s hd (fun v' ps hn hs => drop_no (i := k) hn (by rw [← hs, List.length_map] at hin; exact hin))
    have HD := Lib.hid hd
    clear hd
    have HH := Lib.hid (And.intro hk (And.intro h10 (And.intro hwf hl)))
    rw [act_281 a hk.d hk.s, hk.h7, hk.h8, h10, h11, h12]
    clear hk h10 h11 h12 hl hwf
    conv => arg 2; whnf
    obtain ⟨what, hv⟩ : ∃ what, v.what = what := ⟨_, rfl⟩
    rw [hv] at hw hw2 x0
    clear hv
    have hw8 : what % 8 = 5 := hw
    go_wp2_with fail
    refine T1.mono ?_
    rintro e w1 ⟨rfl, rfl⟩
    go_wp2_with fail
    exact ⟨⟨rfl, rfl, HH.out.1.h0, HH.out.1.h1, HH.out.1.h2, rfl, rfl, HH.out.1.h9⟩, rfl, m, L, HD.out, by have := HH.out.2.2.2; omega, HH.out.2.2.1⟩
  | true =>
    rw [hin] at hte
    subst hte
    obtain ⟨i, rfl⟩ : ∃ i : Nat, k = (i : Int) := ⟨k.toNat, by simp only [inB, Bool.and_eq_true, decide_eq_true_eq] at hin; omega⟩
    have hi : i < L.length := by simp only [inB, Bool.and_eq_true, decide_eq_true_eq] at hin; omega
    have T1 := duo_n (m1 := m) (L1 := L.eraseIdx i) (r := .bool true) hd (fun v' ps hn hs hb => hs ▸ drop_yes hn hb i (by rw [← hs, List.length_map] at hi; exact hi))
    clear hd hin
    have HH := Lib.hid (And.intro hk (And.intro h10 (And.intro hwf hl)))
    rw [act_281 a hk.d hk.s, hk.h7, hk.h8, h10, h11, h12]
    clear hk h10 h11 h12 hl hwf
    conv => arg 2; whnf
    obtain ⟨what, hv⟩ : ∃ what, v.what = what := ⟨_, rfl⟩
    rw [hv] at hw hw2 x0
    clear hv
    have hw8 : what % 8 = 5 := hw
    go_wp2_with fail
    refine T1.mono ?_
    rintro e w1 ⟨rfl, v1, u1, ps1, qs, d⟩
    have hi : i < qs.length := by rw [← d.2.2.2.1, List.length_map] at hi; exact hi
    obtain ⟨p, hp⟩ : ∃ p, qs[i]? = some p := ⟨_, List.getElem?_eq_getElem hi⟩
    have hfew : qs.length ≤ 60 := by rw [← List.length_map (f := Pk.says), d.2.2.2.1]; have := HH.out.2.2.2; omega
    obtain ⟨A1, cap, hv, hlc, hcm, hnone⟩ := CRow.form d.2.1.row
    subst hv
    obtain ⟨r, rfl, _⟩ := PRow.at d.2.1.row hp
    obtain ⟨c0, c1, f0, f1⟩ := d.2.1.cells
    have hii : (i : Int) < (qs.length : Int) := by omega
    have hin : ((i : Int) < 0) = False := by simp
    have hi1 : (i : Int) + 1 ≤ 1000 := by omega
    have hi2 : (0 : Int) ≤ (i : Int) + 1 := by omega
    have hi3 : i + 1 ≤ qs.length := by omega
    have hi4 : i ≤ cap := by omega
    have hi6 : (i : Int) + 1 ≤ (qs.length : Int) := by omega
    have hi7 : i + 1 ≤ cap := by omega
    have hw1 : IntKind.i64.wrap ((i : Int) + 1) = (i : Int) + 1 := IntWalk.i64_in _ (by omega)
    obtain ⟨T, hT, hsrc⟩ := tail_src d.2.1.row rfl (i + 1) hi3
    have hx1 : Ext w1 w1.drew := (Ext.refl w1).drew
    have HC := Lib.hid (And.intro (CRow.ext (CRow.clip d.2.1.row i i (by omega) (Nat.le_refl _) hi4) hx1) (And.intro (Src.ext hsrc hx1) (And.intro (Nat.le_trans d.2.2.2.2.2.1.size_le' hx1.size_le') d)))
    have hmm : maxLen > 2000 := by decide
    clear T1 x0 d hsrc hx1
    have hmc : i + (qs.length - (i + 1)) ≤ maxLen := by omega
    have hmb : (i + (qs.length - (i + 1))) * 40 ≤ 140737488355328 := by omega
    go_wp2_with fail
    go_region_law (refine step_append_full (by rfl) W.heap.size (.tmp 157) (.tmp 164) 27 (by rfl) Try.underlying27 40 infoE (by omega) (some ⟨r, 0, none⟩) i ((pcells qs).take (i * 3)) (pcells (qs.drop (i + 1))) (some T) (qs.length - (i + 1)) (cap - (i + 1)) (by simp [Act.eval, Act.put]) (by simp [Act.eval, Act.put]) (by exact HC.out.1) (by exact HC.out.2.1) (by exact HC.out.2.2.1) hmc hmb ?_; intro v4 w4 q1 q2 q3; obtain ⟨A4, c4, rfl, _⟩ := CRow.form q1; have k0 := q2.cell (show w1.drew.cell? _ = _ from c0); have k1 : w4.frozen? ⟨h, 0, none⟩ = false := (by have := q2.obj (show w1.drew.heap[h]? = _ from HC.out.2.2.2.2.1.obj); simp [World.frozen?, this]); have HQ := Lib.hid (And.intro q1 (And.intro q2 q3)); clear q1 q2 q3)
    all_goals
      go_wp2_with fail
      obtain ⟨q1, q2, q3⟩ := HQ.out
      obtain ⟨_, _, _, d⟩ := HC.out
      have hq2 : Ext w1 w4 := ((Ext.refl w1).drew).trans q2
      have hlen : (qs.eraseIdx i).length = i + (qs.length - (i + 1)) := by rw [List.length_eraseIdx, if_pos hi]; omega
      have hrow' : PRow w4 W.heap.size (.slice A4 (i + (qs.length - (i + 1))) c4) (qs.eraseIdx i) := by
        unfold PRow
        rw [hlen, ← erase_cells, pcells_drop]
        exact q1
      obtain ⟨n1, n2⟩ := d.2.1.put_row hq2 hrow' (by
          rcases q3 with e | ⟨j, e, hj⟩
          · exact .inl e
          · exact .inr ⟨j, e, hj⟩) (fun p hp => (d.2.1.ok p (List.mem_of_mem_eraseIdx hp)).ext hq2) (by omega)
      exact ⟨⟨rfl, rfl, HH.out.1.h0, HH.out.1.h1, HH.out.1.h2, rfl, rfl, HH.out.1.h9⟩, rfl, m, L.eraseIdx i, ⟨v1, _, ps1, _, d.rturned n1 (by rw [map_erase, d.2.2.2.1]) n2⟩, (by rw [List.length_eraseIdx]; have := HH.out.2.2.2; split <;> omega), fun s hs => HH.out.2.2.1 s (List.mem_of_mem_eraseIdx hs)⟩
end Go.Proofs.Ytbeoickdcbnjgaa
