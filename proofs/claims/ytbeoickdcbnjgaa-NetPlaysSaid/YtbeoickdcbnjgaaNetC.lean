/- The net: Part, Drop, Send, Double. -/
import Derived.Test.YtbeoickdcbnjgaaNetB
namespace Go.Proofs.Ytbeoickdcbnjgaa
open Go.RowKit
set_option linter.unusedVariables false
set_option linter.unusedSimpArgs false
attribute [local go_sem] stepR givesR fillE Ext.refl

/-- a call that turns the net -/
def TurnedP (w : World) (S : Nat → Prop) (base g : Nat) (v : Value) (m' : Nat) (L : List (Int × Int × List Int)) (r : Value) (e : Ending) (w' : World) : Prop :=
  ∃ v' ps', e = .returned r ∧ NetP w' S base g v' m' ps' ∧ ps'.map Pk.says = L ∧ Fresh w v v' ∧ Chg (fun k => k = g ∨ some k = v.ownBlock) w w'

theorem NetP.put_mask {w : World} {S : Nat → Prop} {base g : Nat} {v : Value} {m m' : Nat} {ps : List Pk} (h : NetP w S base g v m ps) (hm : m' < 18446744073709551616) : NetP (w.setCell ⟨g, 1, none⟩ (.int .u64 m')) S base g v m' ps := by
  have hc : Chg (fun k => k = g) w (w.setCell ⟨g, 1, none⟩ (.int .u64 m')) := (Chg.refl (fun k => k = g) w).setCell ⟨g, 1, none⟩ _ (fun _ => rfl)
  exact ⟨(put2 (v := undef) h.obj).2, h.low, h.mem, CRow.chg h.row hc (fun k hk e => h.ne (e ▸ hk)), fun p hp => (h.ok p hp).chg hc (fun k _ e => .inl (e ▸ h.mem)) (fun k _ hk => hk), h.few, hm, fun k hk => by simpa using h.sub k hk⟩
theorem part_any {w : World} {S : Nat → Prop} {base g : Nat} {v : Value} {m : Nat} {ps : List Pk} (h : NetP w S base g v m ps) (m' : Nat) (hm : m' < 18446744073709551616) : Calls Try.prog 11 #[.pointer (some ⟨g, 0, none⟩), .int .u64 m'] w (TurnedP w S base g v m' (ps.map Pk.says) (.tuple #[])) := by
  obtain ⟨c0, c1, f0, f1⟩ := h.cells
  have H := Lib.hid h
  clear h
  go_enter Try.func11, Try.ntmps11
  go_wp2
  go_end0
  exact ⟨v, ps, rfl, H.out.put_mask hm, rfl, .inl rfl, (Chg.refl (fun k => k = g ∨ some k = v.ownBlock) w).setCell ⟨g, 1, none⟩ _ (fun _ => .inl rfl)⟩

/-- the row put back into the net -/
theorem NetP.put_row {w w1 : World} {S : Nat → Prop} {base g : Nat} {v v1 : Value} {m : Nat} {ps ps1 : List Pk} (h : NetP w S base g v m ps) (hb : base ≤ w.heap.size) (hc : Chg (fun k => some k = v.ownBlock) w w1) (hr : PRow w1 base v1 ps1) (hf : Fresh w v v1)
    (hok : ∀ p ∈ ps1, PkOk w1 (With S v1) p) (hfew : ps1.length ≤ 1000) (hne : v1.ownBlock ≠ some g) :
    NetP (w1.setCell ⟨g, 0, none⟩ v1) S base g v1 m ps1 ∧ Chg (fun k => k = g ∨ some k = v.ownBlock) w (w1.setCell ⟨g, 0, none⟩ v1) := by
  have ho : w1.heap[g]? = some (.cells #[v, .int .u64 m] 47 (0, 0)) := hc.obj h.obj (fun e => h.ne e.symm)
  have hc1 : Chg (fun k => k = g) w1 (w1.setCell ⟨g, 0, none⟩ v1) := (Chg.refl (fun k => k = g) w1).setCell ⟨g, 0, none⟩ _ (fun _ => rfl)
  refine ⟨⟨(put2 (y := undef) ho).1, h.low, h.mem, CRow.chg hr hc1 (fun k hk e => hne (e ▸ hk)), fun p hp => (hok p hp).chg hc1 (fun k _ e => .inl (e ▸ h.mem)) (fun k _ hk => hk), hfew, h.mask, fun k hk => by have := h.sub k hk; have := hc.size; simp; omega⟩, ?_⟩
  exact (hc.mono (fun k _ hk => .inr hk)).setCell ⟨g, 0, none⟩ _ (fun _ => .inl rfl)
theorem erase_cells (ps : List Pk) (i : Nat) : (pcells ps).take (i * 3) ++ (pcells ps).drop ((i + 1) * 3) = pcells (ps.eraseIdx i) := by
  rw [pcells_take, pcells_drop, ← pcells_append, List.eraseIdx_eq_take_drop_succ]
theorem map_erase (ps : List Pk) (i : Nat) : (ps.eraseIdx i).map Pk.says = (ps.map Pk.says).eraseIdx i := by
  rw [List.eraseIdx_eq_take_drop_succ, List.eraseIdx_eq_take_drop_succ, List.map_append, List.map_take, List.map_drop]

set_option maxHeartbeats 400000 in
theorem drop_no {w : World} {S : Nat → Prop} {base g : Nat} {v : Value} {m : Nat} {ps : List Pk} (h : NetP w S base g v m ps) (i : Int) (hi : inB i ps.length = false) : Calls Try.prog 9 #[.pointer (some ⟨g, 0, none⟩), .int .i64 i] w (RetS (.bool false) w) := by
  have h1 := has_any h i
  rw [hi] at h1
  clear h hi
  go_enter Try.func9, Try.ntmps9
  go_wp2_with fail
  refine h1.mono ?_; rintro e w1 ⟨rfl, rfl⟩
  go_wp2
  go_ret
  exact ⟨rfl, rfl⟩
set_option maxHeartbeats 400000 in
theorem drop_yes {w : World} {S : Nat → Prop} {base g : Nat} {v : Value} {m : Nat} {ps : List Pk} (h : NetP w S base g v m ps) (hb : base ≤ w.heap.size) (i : Nat) (hi : i < ps.length) : Calls Try.prog 9 #[.pointer (some ⟨g, 0, none⟩), .int .i64 i] w (TurnedP w S base g v m ((ps.map Pk.says).eraseIdx i) (.bool true)) := by
  have h1 := has_any h i
  rw [show inB (i : Int) ps.length = true by unfold inB; simp [hi]] at h1
  obtain ⟨c0, c1, f0, f1⟩ := h.cells
  obtain ⟨A, c, hv, hlc, hcm, hnone⟩ := CRow.form h.row
  subst hv
  have hrow : CRow 33 3 w base (.slice A ps.length c) ps.length (pcells ps) := h.row
  obtain ⟨r, cur, rfl, _⟩ := CRow.block hrow (fun e => by have := (hnone e).1; omega)
  have hD := delete_any w r ps.length c i base (pcells ps) hrow (pcells_one ps) hi
  have H := Lib.hid h
  have hlt := h.lt
  have hil : (i : Int) + 1 ≤ 1000 := by have := h.few; omega
  clear h hrow
  go_enter Try.func9, Try.ntmps9
  go_wp2_with fail
  refine h1.mono ?_; rintro e w1 ⟨rfl, rfl⟩
  go_wp2_with fail
  refine hD.mono ?_; rintro e w1 ⟨rfl, h2, h3⟩
  have h3' : Chg (fun k => some k = (Value.slice (some ⟨r, 0, none⟩) ps.length c).ownBlock) w w1 := h3.mono (fun k _ e => by subst e; rfl)
  have ho : w1.heap[g]? = _ := h3'.obj H.out.obj (fun e => H.out.ne e.symm)
  have d0 : w1.cell? ⟨g, 0, none⟩ = some (.slice (some ⟨r, 0, none⟩) ps.length c) := (cell_of_row w1 g 0 _ _ _ ho).trans rfl
  have e0 : w1.frozen? ⟨g, 0, none⟩ = false := by simp [World.frozen?, ho]
  have H2 := Lib.hid (And.intro h2 h3')
  clear h2 h3 h3' ho hD h1
  go_wp2
  go_ret
  obtain ⟨h2, h3⟩ := H2.out
  rw [erase_cells] at h2
  have hlen : (ps.eraseIdx i).length = ps.length - 1 := by rw [List.length_eraseIdx, if_pos hi]
  obtain ⟨n1, n2⟩ := H.out.put_row hb h3 (v1 := .slice (some ⟨r, 0, none⟩) (ps.length - 1) c) (ps1 := ps.eraseIdx i) (by unfold PRow; rw [hlen]; exact h2) (.inl rfl)
    (fun p hp => (H.out.ok p (List.mem_of_mem_eraseIdx hp)).chg h3 (fun k _ e => .inr e) (fun k _ hk => hk)) (by rw [hlen]; have := H.out.few; omega) (fun e => H.out.ne e)
  exact ⟨_, _, rfl, n1, map_erase _ _, .inl rfl, n2⟩
end Go.Proofs.Ytbeoickdcbnjgaa
