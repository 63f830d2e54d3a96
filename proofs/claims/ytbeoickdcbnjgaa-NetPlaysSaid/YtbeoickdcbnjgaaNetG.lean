/- The net: All; packets held against one another; the document's net. -/
import Derived.Test.YtbeoickdcbnjgaaNetF
namespace Go.Proofs.Ytbeoickdcbnjgaa
open Go.RowKit
set_option linter.unusedVariables false
set_option linter.unusedSimpArgs false
attribute [local go_sem] stepR givesR fillE Ext.refl

theorem row_done {w w4 : World} {S : Nat → Prop} {base lo : Nat} {v v4 : Value} {ps : List Pk} {f t : Int} {A : Option Addr} {n c : Nat} {xs : List Int} (hrow : PRow w base v ps) (hok : ∀ p ∈ ps, PkOk w (With S v) p) (hsub : ∀ k, S k → k < w.heap.size) (hr : BRow w lo (.slice A n c) xs) (hlo : ∀ k, S k → k < lo) (hnc : n ≤ c) (hn : n ≤ 1000)
    (q1 : CRow 33 3 w4 base v4 (ps.length + 1) (pcells ps ++ Pk.cells ⟨f, t, A, n, c, xs⟩)) (q2 : w.grownBy w4 v.ownBlock) (q3 : Fresh w v v4) :
    PRow w4 base v4 (ps ++ [⟨f, t, A, n, c, xs⟩]) ∧ ∀ p ∈ ps ++ [(⟨f, t, A, n, c, xs⟩ : Pk)], PkOk w4 (With S v4) p := by
  have hc := Chg.of_grown q2
  have hrow4 : PRow w4 base v4 (ps ++ [⟨f, t, A, n, c, xs⟩]) := by
    unfold PRow
    rw [pcells_append, List.length_append]
    simpa [pcells] using q1
  have hne5 : ∀ k, (Value.slice A n c).ownBlock = some k → ¬ some k = v.ownBlock := by
    intro k hk e
    obtain ⟨_, _, cur, hcur⟩ := CRow.lt hr k hk
    exact CRow.ne hrow hcur (by decide) e.symm
  have hr4 := CRow.chg hr hc hne5
  refine ⟨hrow4, fun p hp => ?_⟩
  rw [List.mem_append, List.mem_singleton] at hp
  rcases hp with hp | rfl
  · refine (hok p hp).chg hc (fun k _ e => .inr e) (fun k hk hw => ?_)
    rcases hw with hw | hw
    · exact .inl hw
    · rcases q3 with e | ⟨j, e, hj⟩
      · exact .inr (by rw [hw, e])
      · rw [e] at hw
        injection hw with hw
        omega
  · refine ⟨(BRow.bt hr4 (fun k cur hk hcur hw => ?_)).1, hnc, hn⟩
    rcases hw with hw | hw
    · have := hlo k hw
      omega
    · exact CRow.ne hrow4 hcur (by decide) hw.symm
def Older (w : World) (k : Nat) : Prop := k < w.heap.size
def AllPost (w : World) (L : List Says) (e : Ending) (w' : World) : Prop := ∃ v qs, e = .returned v ∧ PRow w' w.heap.size v qs ∧ (∀ q ∈ qs, PkOk w' (With (Older w) v) q) ∧ qs.map Pk.says = L ∧ Ext w w'
set_option maxRecDepth 100000 in
set_option maxHeartbeats 1000000 in
theorem all_any {w : World} {S : Nat → Prop} {base g : Nat} {v : Value} {m : Nat} {ps : List Pk} (h : NetP w S base g v m ps) : Calls Try.prog 13 #[.pointer (some ⟨g, 0, none⟩)] w (AllPost w (ps.map Pk.says)) := by
  obtain ⟨c0, c1, f0, f1⟩ := h.cells
  obtain ⟨A, c, hv, hlc, hcm, hnone⟩ := CRow.form h.row
  subst hv
  have H := Lib.hid h
  have hfew := h.few
  clear h hlc hcm hnone
  go_enter Try.func13, Try.ntmps13
  go_wp2_with fail
  clear c0 c1 f0 f1
  go_loopw [3, 11] (fun u i wr => ∃ j : Nat, j ≤ ps.length ∧ i = .int .i64 j ∧ ∃ qs, PRow wr w.heap.size u qs ∧ (∀ q ∈ qs, PkOk wr (With (Older w) u) q) ∧ qs.map Pk.says = (ps.take j).map Pk.says ∧ Ext w wr ∧ qs.length = j) (fun _ i _ => ps.length - (intOf i).toNat)
  case atStart => exact ⟨0, Nat.zero_le _, rfl, [], CRow.nil _ _, by simp, by simp, Ext.refl _, rfl⟩
  case round =>
    obtain ⟨j, hj, rfl, qs, hrow, hok, hsay, hx, hql⟩ := hrel
    have HR := Lib.hid (And.intro hrow (And.intro hok (And.intro hsay (And.intro hx hql))))
    clear hrow hok hsay hx hql
    by_cases hlt : j < ps.length
    · obtain ⟨p, hp⟩ : ∃ p, ps[j]? = some p := ⟨_, List.getElem?_eq_getElem hlt⟩
      obtain ⟨r, rfl, p0, p1, p2⟩ := PRow.at (H.out.ext HR.out.2.2.2.1).row hp
      have HP := Lib.hid (And.intro hp (H.out.ok p (List.mem_of_getElem? hp)))
      obtain ⟨pf, pt, pB, pn, pc, pxs⟩ := p
      simp only at p0 p1 p2
      have hji : (j : Int) < (ps.length : Int) := by omega
      have hjn : ((j : Int) < 0) = False := by simp
      clear hp
      go_wp2_with fail
      refine (pclone_any ⟨pf, pt, pB, pn, pc, pxs⟩ _ (HP.out.2.ext (HR.out.2.2.2.1.trans ((Ext.refl wr).alloc _)))).mono ?_
      rintro e w3 ⟨A', c', rfl, h1, h2, h3⟩
      have x3 : Ext wr w3 := ((Ext.refl wr).alloc _).trans h3
      have x4 : Ext wr (w3.alloc (.cells (Pk.cells ⟨pf, pt, A', pn, c', pxs⟩).toArray 33)) := x3.alloc _
      have hb0 : w.heap.size ≤ (w3.alloc (.cells (Pk.cells ⟨pf, pt, A', pn, c', pxs⟩).toArray 33)).heap.size := Nat.le_trans HR.out.2.2.2.1.size_le' x4.size_le'
      have hlo : ∀ k, Older w k → k < (wr.alloc (.cells #[.int .i64 pf, .int .i64 pt, .slice pB pn pc] 33)).heap.size := fun k hk => Nat.lt_of_lt_of_le hk (Nat.le_trans HR.out.2.2.2.1.size_le' ((Ext.refl wr).alloc _).size_le')
      have HS := Lib.hid (And.intro (src_new w3 (Pk.cells ⟨pf, pt, A', pn, c', pxs⟩).toArray 33 3 rfl (Pk.cells_one _)) (And.intro hb0 (And.intro x4 (And.intro h1 (And.intro h2 (And.intro hlo (CRow.ext HR.out.1 x4)))))))
      have hq := HR.out.2.2.2.2
      have hqs : qs.length + 1 ≤ 1000 := by omega
      have hmm : maxLen > 2000 := by decide
      clear h1 h2 h3 x3 x4 hb0 hlo hq p0 p1 p2
      go_wp2_with (at_builtin; refine wpList_append_crow rfl w.heap.size (.tmp 15) (.tmp 18) 27 rfl Try.underlying27 40 infoE (by omega) u3 qs.length (pcells qs) (Pk.cells ⟨pf, pt, A', pn, c', pxs⟩) (some ⟨w3.heap.size, 0, none⟩) 1 1 rfl rfl HS.out.2.2.2.2.2.2 HS.out.1 HS.out.2.1 (by omega) (by omega) ?next)
      case next =>
        intro v4 w4 q1 q2 q3
        obtain ⟨_, hb0, x4, h1, h2, hlo, hrow⟩ := HS.out
        obtain ⟨r1, r2⟩ := row_done (S := Older w) hrow (fun p hp => (HR.out.2.1 p hp).ext x4) (fun k hk => Nat.lt_of_lt_of_le hk hb0) (CRow.ext h1 ((Ext.refl w3).alloc _)) hlo h2 HP.out.2.2.2 q1 q2 q3
        have hx4 : Ext w w4 := (HR.out.2.2.2.1.trans x4).grown q2 hb0 (fun k hk => (CRow.lt hrow k hk).1)
        have hsay' : (qs ++ [(⟨pf, pt, A', pn, c', pxs⟩ : Pk)]).map Pk.says = (ps.take (j + 1)).map Pk.says := by
          rw [List.map_append, HR.out.2.2.1, List.take_add_one, HP.out.1, List.map_append]
          rfl
        have HF := Lib.hid (And.intro r1 (And.intro r2 (And.intro hsay' (And.intro hx4 (show (qs ++ [(⟨pf, pt, A', pn, c', pxs⟩ : Pk)]).length = j + 1 by rw [List.length_append, HR.out.2.2.2.2]; rfl)))))
        clear r1 r2 hsay' hx4 q1 q2 q3 hb0 x4 h1 h2 hlo hrow
        go_wp2_with fail
        go_roundw
        case rel => exact ⟨j + 1, by omega, by go_num, _, HF.out⟩
        case measure => simp [intOf]; omega
    · obtain rfl : j = ps.length := by omega
      go_wp2
      go_ret
      obtain ⟨h1, h2, h3, h4, _⟩ := HR.out
      exact ⟨_, qs, rfl, h1, h2, by rw [h3, List.take_length], h4⟩
end Go.Proofs.Ytbeoickdcbnjgaa
