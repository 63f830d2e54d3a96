/- The document's net: Take. -/
import Derived.Test.YtbeoickdcbnjgaaNetI
namespace Go.Proofs.Ytbeoickdcbnjgaa
open Go.RowKit
set_option linter.unusedVariables false
set_option linter.unusedSimpArgs false
attribute [local go_sem] stepR givesR fillE Ext.refl

theorem PkOk.add' {w w' : World} {S : Nat → Prop} {p : Pk} {b : Nat} (h : PkOk w S p) (hx : Ext w w') (hb : w.heap.size ≤ b) : PkOk w' (Add S b) p :=
  h.chg (Chg.of_ext hx) (fun _ _ h => h.elim) (fun k hk hw => by
    rcases hw with hw | hw
    · exact hw
    · omega)
def RTakePost (w : World) (S : Nat → Prop) (base h : Nat) (m : Nat) (x : List Says × Says × Bool) (e : Ending) (w' : World) : Prop :=
  ∃ u' qs' q, e = .returned (.tuple #[.agg #[.int .i64 q.f, .int .i64 q.t, .slice q.B q.n q.c], .bool x.2.2]) ∧ NetR w' S base h u' m qs' ∧ qs'.map Pk.says = x.1 ∧ q.says = x.2.1 ∧ PkOk w' S q ∧ Chg (fun k => k = h) w w'
set_option maxRecDepth 100000 in
set_option maxHeartbeats 1000000 in
theorem rtake_any {w : World} {S : Nat → Prop} {base g : Nat} {v : Value} {m : Nat} {ps : List Pk} (h : NetR w S base g v m ps) (hb : base ≤ w.heap.size) (i : Int) (hwf : ∀ p ∈ ps, (IntKind.i64.min ≤ p.f ∧ p.f ≤ IntKind.i64.max) ∧ (IntKind.i64.min ≤ p.t ∧ p.t ≤ IntKind.i64.max)) :
    Calls Try.prog 7 #[.pointer (some ⟨g, 0, none⟩), .int .i64 i] w (RTakePost w S base g m (takeOf m (ps.map Pk.says) i)) := by
  obtain ⟨A, c, hv, hlc, hcm, hnone⟩ := CRow.form h.row
  subst hv
  cases hin : inB i ps.length with
  | false =>
    have e : takeOf m (ps.map Pk.says) i = (ps.map Pk.says, (0, 0, []), false) := by unfold takeOf; rw [List.length_map, hin]; rfl
    rw [e]
    obtain ⟨c0, c1, f0, f1⟩ := (h.ext ((Ext.refl w).alloc (.cells #[.int .i64 0, .int .i64 0, .slice none 0 0] 33))).cells
    have H := Lib.hid h
    have hcase : i < 0 ∨ (decide (i < 0) = false ∧ (ps.length : Int) ≤ i) := by
      by_cases h0 : i < 0
      · exact .inl h0
      · refine .inr ⟨by simpa using h0, ?_⟩
        simp only [inB, Bool.and_eq_false_iff, decide_eq_false_iff_not] at hin
        omega
    clear h hin e hlc hcm hnone
    rcases hcase with h0 | ⟨h0, h1⟩
    all_goals
      go_enter Try.func7, Try.ntmps7
      go_wp2
    all_goals
      refine bodyPost_ret (v := .tuple #[.agg #[.int .i64 0, .int .i64 0, .slice none 0 0], .bool false]) (by simp [results, Try.results7, go_sem]; try rfl) rfl ?_
      exact ⟨_, ps, pk0, rfl, H.out.ext ((Ext.refl w).alloc _), rfl, rfl, pk0_ok _ _, (Chg.refl _ w).alloc _⟩
  | true =>
    have hii : 0 ≤ i ∧ i < ps.length := by simpa [inB] using hin
    obtain ⟨j, rfl⟩ := Int.eq_ofNat_of_zero_le hii.1
    have hj : j < ps.length := by omega
    obtain ⟨p, hp⟩ : ∃ p, ps[j]? = some p := ⟨_, List.getElem?_eq_getElem hj⟩
    have hsay : (ps.map Pk.says).getD j (0, 0, []) = p.says := by rw [List.getD_eq_getElem?_getD, List.getElem?_map, hp]; rfl
    have e : takeOf m (ps.map Pk.says) (j : Int) = ((ps.map Pk.says).eraseIdx j, if joinB m p.f p.t then (p.says, true) else ((0, 0, []), false)) := by
      unfold takeOf
      rw [List.length_map, hin, if_pos rfl]
      simp only [Int.toNat_natCast, hsay]
      rfl
    obtain ⟨X, hX⟩ : ∃ X, takeOf m (ps.map Pk.says) (j : Int) = X := ⟨_, rfl⟩
    rw [hX]
    have HXE : Hid (X = ((ps.map Pk.says).eraseIdx j, if joinB m p.f p.t then (p.says, true) else ((0, 0, []), false))) := Lib.hid (hX.symm.trans e)
    clear hX
    have hx1 : Ext w (w.alloc (.cells #[.int .i64 0, .int .i64 0, .slice none 0 0] 33)) := (Ext.refl w).alloc _
    have hr1 := h.add hx1 (Nat.le_refl _) (by simp)
    have hpk1 := (h.ok p (List.mem_of_getElem? hp)).add' hx1 (Nat.le_refl _)
    obtain ⟨c0, c1, f0, f1⟩ := hr1.cells
    have hcut := cut_any hr1 (Nat.le_trans hb hx1.size_le') j p hp
    have H := Lib.hid (And.intro h (And.intro hr1 hpk1))
    have HW := Lib.hid (hwf p (List.mem_of_getElem? hp))
    obtain ⟨pf, pt, pB, pn, pc, pxs⟩ := p
    have hji : (j : Int) < (ps.length : Int) := by omega
    have hjn : ((j : Int) < 0) = False := by simp
    have o4 := heap_alloc_new w (.cells #[.int .i64 0, .int .i64 0, .slice none 0 0] 33)
    have HX1 := Lib.hid hx1
    clear h hin e hii hlc hcm hnone hp hj hwf hsay hx1 hb hr1 hpk1
    go_enter Try.func7, Try.ntmps7
    go_wp2_with fail
    refine hcut.mono ?_
    rintro e w3 ⟨u', qs', rfl, q1, q2, q4⟩
    have hb4 : w.heap.size < (w.alloc (.cells #[.int .i64 0, .int .i64 0, .slice none 0 0] 33)).heap.size := by simp
    have hgb : g ≠ w.heap.size := by have := H.out.1.sub g H.out.1.mem; omega
    have r4 := q4.obj o4 (fun e => hgb e.symm)
    have hx3 : Ext w3 (w3.alloc (.cells #[.int .i64 pf, .int .i64 pt, .slice pB pn pc] 33)) := (Ext.refl w3).alloc _
    have HQ := Lib.hid (And.intro (q1.ext hx3) (And.intro q2 (And.intro (hx3.obj r4) (And.intro ((H.out.2.2.chg q4 (fun k _ e => .inl (by rw [show k = g from e]; exact H.out.1.mem)) (fun k _ h => h)).ext hx3) (And.intro hgb (((Chg.of_ext HX1.out).trans q4 (T := fun k => k = g) (fun _ _ h => h.elim) (fun _ _ h => h)).ext hx3))))))
    have o6 := heap_alloc_new w3 (.cells #[.int .i64 pf, .int .i64 pt, .slice pB pn pc] 33)
    have hlt : w.heap.size < w3.heap.size := Nat.lt_of_lt_of_le hb4 q4.size
    clear q1 q2 q4 r4 hx3 hb4 hgb c0 c1 f0 f1
    go_wp2_with fail
    have hJ := rjoined_any HQ.out.1 pf pt HW.out.1 HW.out.2
    obtain ⟨J, hJe⟩ : ∃ J, joinB m pf pt = J := ⟨_, rfl⟩
    have hXE := HXE.out
    rw [hJe] at hJ
    simp only [hJe] at hXE
    have HXX := Lib.hid hXE
    clear hJe hXE HXE
    have r4 := HQ.out.2.2.1
    have hlt6 : w.heap.size < w3.heap.size := hlt
    revert hJ r4 o6 HQ
    generalize w3.alloc (.cells #[.int .i64 pf, .int .i64 pt, .slice pB pn pc] 33) = w5
    obtain ⟨b4, hb4e⟩ : ∃ b4, w.heap.size = b4 := ⟨_, rfl⟩
    rw [hb4e]
    have HB4 := Lib.hid hb4e
    clear hb4e
    intro HQ o6 hJ r4
    have s0 : w5.cell? ⟨w3.heap.size, 0, none⟩ = some (.int .i64 pf) := (cell_of_row w5 _ 0 _ _ _ o6).trans rfl
    have s1 : w5.cell? ⟨w3.heap.size, 1, none⟩ = some (.int .i64 pt) := (cell_of_row w5 _ 1 _ _ _ o6).trans rfl
    have s2 : w5.cell? ⟨w3.heap.size, 2, none⟩ = some (.slice pB pn pc) := (cell_of_row w5 _ 2 _ _ _ o6).trans rfl
    have t0 : w5.cell? ⟨b4, 0, none⟩ = some (.int .i64 0) := (cell_of_row w5 b4 0 _ _ _ r4).trans rfl
    have t1 : w5.cell? ⟨b4, 1, none⟩ = some (.int .i64 0) := (cell_of_row w5 b4 1 _ _ _ r4).trans rfl
    have t2 : w5.cell? ⟨b4, 2, none⟩ = some (.slice none 0 0) := (cell_of_row w5 b4 2 _ _ _ r4).trans rfl
    have u0 : w5.frozen? ⟨b4, 0, none⟩ = false := by simp [World.frozen?, r4]
    have u1 : w5.frozen? ⟨b4, 1, none⟩ = false := by simp [World.frozen?, r4]
    have u2 : w5.frozen? ⟨b4, 2, none⟩ = false := by simp [World.frozen?, r4]
    clear o6 r4
    have HFIN : Hid (∀ (q : Pk) (w4 : World), Chg (fun k => k = b4) w5 w4 → (q = pk0 ∨ q = ⟨pf, pt, pB, pn, pc, pxs⟩) → ∀ ok : Bool, X = ((ps.map Pk.says).eraseIdx j, q.says, ok) → RTakePost w S base g m X (.returned (.tuple #[Pk.val q, .bool ok])) w4) := Lib.hid (by
      intro q w4 hc hq ok hXe
      subst hXe
      obtain ⟨q1, q2, r4, hpk, hgb, hall⟩ := HQ.out
      refine ⟨u', qs', q, rfl, q1.drop H.out.1.mem hgb hc, q2, rfl, ?_, hall.trans hc (fun _ _ h => h) (fun k hk e => by have := HB4.out; omega)⟩
      rcases hq with rfl | rfl
      · exact pk0_ok _ _
      · exact hpk.chg hc (fun k _ e => .inr e) (fun k _ hs => .inl hs))
    refine hJ.mono ?_; rintro e w4 ⟨rfl, rfl⟩
    cases J with
    | true =>
      go_wp2_with fail
      have r4 := HQ.out.2.2.1
      have g1 := (put2' (i := 0) (x := .int .i64 pf) r4)
      have g2 := (put2' (i := 1) (x := .int .i64 pt) g1)
      have g3 := (put2' (i := 2) (x := .slice pB pn pc) g2)
      have z0 := (cell_of_row _ b4 0 _ _ _ g3)
      have z1 := (cell_of_row _ b4 1 _ _ _ g3)
      have z2 := (cell_of_row _ b4 2 _ _ _ g3)
      have hch : Chg (fun k => k = b4) w5 (((w5.setCell ⟨b4, 0, none⟩ (.int .i64 pf)).setCell ⟨b4, 1, none⟩ (.int .i64 pt)).setCell ⟨b4, 2, none⟩ (.slice pB pn pc)) := (((Chg.refl (fun k => k = b4) w5).setCell ⟨b4, 0, none⟩ _ (fun _ => rfl)).setCell ⟨b4, 1, none⟩ _ (fun _ => rfl)).setCell ⟨b4, 2, none⟩ _ (fun _ => rfl)
      refine bodyPost_ret (v := .tuple #[.agg #[.int .i64 pf, .int .i64 pt, .slice pB pn pc], .bool true]) (by simp [results, Try.results7, go_sem, z0, z1, z2]; try rfl) rfl (HFIN.out ⟨pf, pt, pB, pn, pc, pxs⟩ _ hch (.inr rfl) true HXX.out)
    | false =>
      go_wp2_with fail
      have r4 := HQ.out.2.2.1
      have g1 := (put2' (i := 0) (x := .int .i64 0) r4)
      have g2 := (put2' (i := 1) (x := .int .i64 0) g1)
      have g3 := (put2' (i := 2) (x := .slice none 0 0) g2)
      have z0 := (cell_of_row _ b4 0 _ _ _ g3)
      have z1 := (cell_of_row _ b4 1 _ _ _ g3)
      have z2 := (cell_of_row _ b4 2 _ _ _ g3)
      have hch : Chg (fun k => k = b4) w5 (((w5.setCell ⟨b4, 0, none⟩ (.int .i64 0)).setCell ⟨b4, 1, none⟩ (.int .i64 0)).setCell ⟨b4, 2, none⟩ (.slice none 0 0)) := (((Chg.refl (fun k => k = b4) w5).setCell ⟨b4, 0, none⟩ _ (fun _ => rfl)).setCell ⟨b4, 1, none⟩ _ (fun _ => rfl)).setCell ⟨b4, 2, none⟩ _ (fun _ => rfl)
      refine bodyPost_ret (v := .tuple #[.agg #[.int .i64 0, .int .i64 0, .slice none 0 0], .bool false]) (by simp [results, Try.results7, go_sem, z0, z1, z2]; try rfl) rfl (HFIN.out pk0 _ hch (.inl rfl) false HXX.out)
end Go.Proofs.Ytbeoickdcbnjgaa
