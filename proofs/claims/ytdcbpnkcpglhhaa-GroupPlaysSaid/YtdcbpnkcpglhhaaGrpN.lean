/- Clones: of rows of groups, All, Clone; New. -/
import Derived.Test.YtdcbpnkcpglhhaaGrpM
namespace Go.Proofs.Ytdcbpnkcpglhhaa
open Go.RowKit
set_option linter.unusedVariables false
set_option linter.unusedSimpArgs false
set_option linter.unnecessarySimpa false
attribute [local go_sem] stepR givesR fillE Ext.refl run_store_float

theorem GRow.src {w : World} {base : Nat} {A : Option Addr} {n c : Nat} {L : List Gp} (h : GRow w base (.slice A n c) L) : n = L.length ∧ Src w 4 A n (gcells L) := by
  have hlen := gcells_length L
  rcases h with ⟨h', h0, hc⟩ | ⟨g, cap, cur, h', hb, hg, hl, hs, hm, hn, ht⟩
  · injection h' with h1 h2 h3
    subst h1 h2
    exact ⟨h0.symm, ⟨by rw [hc]; rfl, ⟨fun _ => rfl, ⟨fun ad e => (by cases e), gcells_one L⟩⟩⟩⟩
  · injection h' with h1 h2 h3
    subst h1 h2
    refine ⟨rfl, Src.at hlen (fun j u hu => ?_) (gcells_one L)⟩
    have hj := (List.getElem?_eq_some_iff.1 hu).1
    rw [Nat.zero_add, cell_of_row w g j cur _ _ hg, ← hu, ← ht, List.getElem?_take, if_pos (by omega)]
    simp
def GClonePost (w : World) (L : List Gp) (e : Ending) (w' : World) : Prop := ∃ v', e = .returned v' ∧ GRow w' w.heap.size v' L ∧ Ext w w'
set_option maxHeartbeats 400000 in
theorem gclone_any {w : World} {base : Nat} {A : Option Addr} {n c : Nat} {L : List Gp} (h : GRow w base (.slice A n c) L) (hf : L.length ≤ 1000) : Calls Try.prog 24 #[.slice A n c] w (GClonePost w L) := by
  obtain ⟨hn, hs⟩ := h.src
  subst hn
  have hnil := fun wx : World => Lib.run_eql_slice_nil (P := Try.prog) wx 39 36 A L.length c 0 0 Try.underlying39
  rcases A with _ | a
  · have h0 : L.length = 0 := hs.2.1 rfl
    obtain rfl : L = [] := List.eq_nil_of_length_eq_zero h0
    have hc : c = 0 := by
      rcases h with ⟨h', _⟩ | ⟨_, _, _, h', _⟩
      · injection h' with h1 h2 h3
      · cases h'
    subst hc
    clear h hs
    simp only [List.length_nil] at hnil ⊢
    go_enter Try.func24, Try.ntmps24
    go_wp2
    go_ret
    exact ⟨_, rfl, CRow.nil _ _, Ext.refl _⟩
  · have HN : Hid (Src (w.alloc (.cells #[] 36)) 4 (some a) L.length (gcells L)) := Lib.hid (hs.ext ((Ext.refl w).alloc _))
    have hmm : maxLen > 2000 := by decide
    clear h hs
    go_enter Try.func24, Try.ntmps24
    go_wp2_with (at_builtin; refine wpList_append_crow rfl w.heap.size (.tmp 5) (.tmp 6) 39 rfl Try.underlying39 48 infoE (by omega) (.slice (some ⟨w.heap.size, 0, none⟩) 0 0) 0 [] (gcells L) (some a) L.length c rfl rfl ?row HN.out ?base ?len ?len2 ?next)
    case row => exact .inr ⟨w.heap.size, 0, #[], rfl, Nat.le_refl _, heap_alloc_new w _, Nat.le_refl _, Nat.le_refl _, Nat.zero_le _, rfl, rfl⟩
    case base => simp
    case len => omega
    case len2 => omega
    case next =>
      intro v1 w1 h1 h2 _
      have H1 := Lib.hid (And.intro h1 h2)
      clear h1 h2
      go_wp2
      go_ret
      obtain ⟨h1, h2⟩ := H1.out
      refine ⟨v1, rfl, ?_, ((Ext.refl w).alloc _).grown h2 (by simp) (by simp [Value.ownBlock])⟩
      simpa [GRow] using h1
theorem all_any {w : World} {base g : Nat} {v : Value} {L : List Gp} (h : Dr 57 w base g v L) : Calls Try.prog 10 #[.pointer (some ⟨g, 0, none⟩)] w (GClonePost w L) := by
  obtain ⟨c0, f0⟩ := h.cell
  obtain ⟨A, c, rfl, _⟩ := h.row.form
  have T1 := gclone_any h.row (Nat.le_trans h.few (by decide))
  clear h
  go_enter Try.func10, Try.ntmps10
  go_wp2_with fail
  refine T1.mono ?_
  rintro e w' ⟨v', rfl, hr, hx⟩
  have HR := Lib.hid (And.intro hr hx)
  clear hr hx
  go_wp2_with fail
  go_ret
  exact ⟨_, rfl, HR.out.1, HR.out.2⟩
def ClonePost (w : World) (L : List Gp) (e : Ending) (w' : World) : Prop := ∃ g' v', e = .returned (.pointer (some ⟨g', 0, none⟩)) ∧ Dr 57 w' w.heap.size g' v' L ∧ Ext w w'
theorem clone_any {w : World} {base g : Nat} {v : Value} {L : List Gp} (h : Dr 57 w base g v L) : Calls Try.prog 13 #[.pointer (some ⟨g, 0, none⟩)] w (ClonePost w L) := by
  obtain ⟨c0, f0⟩ := h.cell
  obtain ⟨A, c, rfl, _⟩ := h.row.form
  have T1 := gclone_any h.row (Nat.le_trans h.few (by decide))
  have H := Lib.hid h
  clear h
  go_enter Try.func13, Try.ntmps13
  go_wp2_with fail
  refine T1.mono ?_
  rintro e w' ⟨v', rfl, hr, hx⟩
  obtain ⟨A', c', rfl, _⟩ := hr.form
  have HR := Lib.hid (And.intro hr hx)
  clear hr hx
  go_wp2_with fail
  go_ret
  obtain ⟨hr, hx⟩ := HR.out
  have hx1 := (Ext.refl w').alloc (.cells #[.slice A' L.length c'] 57)
  exact ⟨_, _, rfl, ⟨heap_alloc_new w' _, hx.size_le', hr.ext hx1, H.out.few, H.out.srt, H.out.ok⟩, hx.trans hx1⟩
theorem new_any (w : World) : Calls Try.prog 6 #[] w (fun e w' => e = .returned (.pointer (some ⟨w.heap.size, 0, none⟩)) ∧ w' = w.alloc (.cells #[.slice none 0 0] 57)) := by
  go_enter Try.func6, Try.ntmps6
  go_wp2
  go_ret
  exact ⟨rfl, rfl⟩
theorem new_dir {T0 : TypeId} {w : World} {base g : Nat} (ho : w.heap[g]? = some (.cells #[.slice none 0 0] T0 (0, 0))) (hb : base ≤ g) : Dr T0 w base g (.slice none 0 0) [] :=
  ⟨ho, hb, CRow.nil _ _, by simp, List.Pairwise.nil, by simp⟩
end Go.Proofs.Ytdcbpnkcpglhhaa
