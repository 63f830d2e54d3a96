/- The net: Double, Take. -/
import Derived.Test.YtbeoickdcbnjgaaNetD
namespace Go.Proofs.Ytbeoickdcbnjgaa
open Go.RowKit
set_option linter.unusedVariables false
set_option linter.unusedSimpArgs false
attribute [local go_sem] stepR givesR fillE Ext.refl

theorem NetP.own_lt {w : World} {S : Nat → Prop} {base g : Nat} {v : Value} {m : Nat} {ps : List Pk} (h : NetP w S base g v m ps) : ∀ k, With S v k → k < w.heap.size := by
  intro k hk
  rcases hk with hk | hk
  · exact h.sub k hk
  · exact (CRow.lt h.row k hk.symm).2.1
theorem TurnedP.of_ext {w w1 w' : World} {S : Nat → Prop} {base g : Nat} {v : Value} {m' : Nat} {L : List (Int × Int × List Int)} {r : Value} {e : Ending} (hx : Ext w w1) (h : TurnedP w1 S base g v m' L r e w') : TurnedP w S base g v m' L r e w' := by
  obtain ⟨v', ps', he, hn, hs, hf, hc⟩ := h
  refine ⟨v', ps', he, hn, hs, ?_, (Chg.of_ext hx).trans hc (fun _ _ h => h.elim) (fun _ _ h => h)⟩
  rcases hf with e | ⟨j, e, hj⟩
  · exact .inl e
  · exact .inr ⟨j, e, by have := hx.size_le'; omega⟩
set_option maxHeartbeats 400000 in
theorem double_no {w : World} {S : Nat → Prop} {base g : Nat} {v : Value} {m : Nat} {ps : List Pk} (h : NetP w S base g v m ps) (i : Int) (hi : inB i ps.length = false) : Calls Try.prog 10 #[.pointer (some ⟨g, 0, none⟩), .int .i64 i] w (RetS (.bool false) w) := by
  have h1 := has_any h i
  rw [hi] at h1
  clear h hi
  go_enter Try.func10, Try.ntmps10
  go_wp2_with fail
  refine h1.mono ?_; rintro e w1 ⟨rfl, rfl⟩
  go_wp2
  go_ret
  exact ⟨rfl, rfl⟩
/-- one packet in a new block, as a slice -/
theorem pslice_one {w : World} {S : Nat → Prop} {p : Pk} (hp : PkOk w S p) (hS : ∀ k, S k → k < w.heap.size) : PSlice (w.alloc (.cells p.cells.toArray 33)) S (some ⟨w.heap.size, 0, none⟩) [p] := fun _ => by
  refine ⟨w.heap.size, 0, rfl, fun h => Nat.lt_irrefl _ (hS _ h), fun j q hj => ?_⟩
  match j, hj with
  | 0, hj =>
    simp at hj
    subst hj
    have ho := heap_alloc_new w (.cells p.cells.toArray 33)
    refine ⟨⟨?_, ?_, ?_⟩, hp.ext ((Ext.refl w).alloc _)⟩ <;> (rw [cell_of_row _ _ _ _ _ _ ho]; rfl)
set_option maxHeartbeats 400000 in
theorem double_yes {w : World} {S : Nat → Prop} {base g : Nat} {v : Value} {m : Nat} {ps : List Pk} (h : NetP w S base g v m ps) (hb : base ≤ w.heap.size) (i : Nat) (p : Pk) (hp : ps[i]? = some p) (hfew : ps.length + 1 ≤ 1000) : Calls Try.prog 10 #[.pointer (some ⟨g, 0, none⟩), .int .i64 i] w (TurnedP w S base g v m (ps.map Pk.says ++ [p.says]) (.bool true)) := by
  have hi : i < ps.length := (List.getElem?_eq_some_iff.1 hp).1
  have h1 := has_any h i
  rw [show inB (i : Int) ps.length = true by unfold inB; simp [hi]] at h1
  obtain ⟨c0, c1, f0, f1⟩ := h.cells
  obtain ⟨A, c, hv, hlc, hcm, hnone⟩ := CRow.form h.row
  subst hv
  obtain ⟨r, rfl, p0, p1, p2⟩ := PRow.at h.row hp
  have hpk := h.ok p (List.mem_of_getElem? hp)
  have hsend := send_any (w := w.alloc (.cells p.cells.toArray 33)) (h.ext ((Ext.refl w).alloc _)) (by simp; omega) (some ⟨w.heap.size, 0, none⟩) 1 [p] (pslice_one hpk h.own_lt) (by simpa using hfew)
  have hii : (i : Int) < (ps.length : Int) := by omega
  have hin : ((i : Int) < 0) = False := by simp
  obtain ⟨pf, pt, pB, pn, pc, pxs⟩ := p
  simp only at p0 p1 p2
  clear hi hlc hcm hnone hp hpk
  go_enter Try.func10, Try.ntmps10
  go_wp2_with fail
  refine h1.mono ?_; rintro e w1 ⟨rfl, rfl⟩
  go_wp2_with fail
  refine hsend.mono ?_
  rintro e w2 ht
  have hT := TurnedP.of_ext ((Ext.refl w).alloc _) ht
  obtain ⟨v', ps', rfl, hn, hs, hf, hc⟩ := hT
  have HT := Lib.hid (And.intro hn (And.intro hs (And.intro hf hc)))
  clear hn hs hf hc ht
  go_wp2
  go_ret
  exact ⟨v', ps', rfl, HT.out⟩
end Go.Proofs.Ytbeoickdcbnjgaa
