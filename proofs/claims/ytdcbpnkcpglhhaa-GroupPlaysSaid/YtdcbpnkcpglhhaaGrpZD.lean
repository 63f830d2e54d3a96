/- What an act calls. -/
import Derived.Test.YtdcbpnkcpglhhaaGrpZC
import Derived.Test.YtdcbpnkcpglhhaaGrpS
namespace Go.Proofs.Ytdcbpnkcpglhhaa
open Go.RowKit
set_option linter.unusedVariables false
set_option linter.unusedSimpArgs false
set_option linter.unnecessarySimpa false
attribute [local go_sem] stepR givesR fillE Ext.refl run_store_float

def l7 : List ByteArray := [⟨#[113, 117, 101, 117, 101]⟩, ⟨#[99, 111, 117, 110, 116, 101, 114]⟩, ⟨#[116, 97, 98, 108, 101]⟩, ⟨#[108, 101, 100, 103, 101, 114]⟩, ⟨#[114, 101, 103, 105, 115, 116, 101, 114]⟩, ⟨#[111, 114, 99, 104]⟩, ⟨#[110, 111, 112, 101]⟩]
def l4 : List ByteArray := [⟨#[97, 99, 116, 105, 118, 101]⟩, ⟨#[119, 97, 114, 109]⟩, ⟨#[99, 111, 108, 100]⟩, ⟨#[104, 111, 116]⟩]
def l5 : List ByteArray := [⟨#[99, 114, 101, 97, 116, 101]⟩, ⟨#[100, 101, 115, 116, 114, 111, 121]⟩, ⟨#[115, 116, 121, 108, 101]⟩, ⟨#[108, 105, 115, 116]⟩, ⟨#[110, 111, 112, 101]⟩]
theorem l_size (zs : List ByteArray) (h : ∀ z ∈ zs, z.size ≤ 1000) (j : Nat) : (zs.getD j ⟨#[]⟩).size ≤ 1000 := by
  rw [List.getD_eq_getElem?_getD]
  cases hz : zs[j]? with
  | none => exact Nat.zero_le _
  | some x => exact h x (List.mem_of_getElem? hz)
theorem newcell (w : World) (zs : List ByteArray) (T0 : TypeId) (j : Nat) (hj : j < zs.length) : (w.alloc (.cells (zs.map Value.string).toArray T0)).cell? ⟨w.heap.size, j, none⟩ = some (.string (zs.getD j ⟨#[]⟩)) := by
  rw [cell_of_row _ _ j _ _ _ (heap_alloc_new w _), List.getD_eq_getElem?_getD]
  simp [List.getElem?_eq_getElem hj]
theorem Rds.weak {w w' : World} {S S' : Nat → Prop} {n : Nat} {A : Option Addr} {c : Nat} {L : List T} (h : Rds w S n A c L) (hx : Ext w w') (hS : ∀ k, k < w.heap.size → S' k → S k) : Rds w' S' (n + 1) A c L :=
  ⟨h.1, h.2.1, h.2.2.chg (Chg.of_ext hx) (fun _ _ h => h.elim) hS (fun t A c _ hr => Rd.up n t A c (Rd.chg (Chg.of_ext hx) (fun _ _ h => h.elim) hS n t A c hr))⟩
theorem Rds.chg {T1 S S' : Nat → Prop} {w w' : World} {n : Nat} {A : Option Addr} {c : Nat} {L : List T} (h : Rds w S n A c L) (hc : Chg T1 w w') (hT : ∀ k, k < w.heap.size → T1 k → S k) (hS : ∀ k, k < w.heap.size → S' k → S k) : Rds w' S' n A c L :=
  ⟨h.1, h.2.1, h.2.2.chg hc hT hS (fun t A c _ hr => Rd.chg hc hT hS n t A c hr)⟩
theorem texts_rdn {w : World} {S : Nat → Prop} {q c n : Nat} {T0 : TypeId} (zs : List ByteArray) (hq : w.heap[q]? = some (.cells (zs.flatMap vtext).toArray T0 (0, 0))) (hS : ¬ S q) (hz : ∀ z ∈ zs, z.size ≤ 1000) (hc : zs.length ≤ c) (hc2 : c ≤ 1000) : Rds w S (n + 1) (some ⟨q, 0, none⟩) c (zs.map textT) := by
  have hm : 1000 ≤ maxLen := by decide
  refine ⟨by simpa using hc, by omega, fun h0 => ⟨q, 0, rfl, hS, fun j t ht => ?_⟩⟩
  rw [List.getElem?_map] at ht
  obtain ⟨z, hzj, rfl⟩ := Option.map_eq_some_iff.1 ht
  have hk : ∀ u, u < 5 → w.cell? ⟨q, 0 + j * 5 + u, none⟩ = (vtext z)[u]? := fun u hu => by
    rw [cell_of_row w q _ _ _ _ hq, Nat.zero_add, List.getElem?_toArray, vtexts_at zs j u z hzj hu]
  exact ⟨none, 0, ⟨hk 0 (by omega), hk 1 (by omega), hk 2 (by omega), hk 3 (by omega), hk 4 (by omega)⟩, Rd.leaf (by simp only [inI]; decide) (by simp only [inI]; decide) (Nat.le_trans (hz z (List.mem_of_getElem? hzj)) hm) n⟩
/-- a tree with where its row lies -/
abbrev TH := T × Option Addr × Nat
def hcells (hs : List TH) : List Value := hs.flatMap fun x => T.cells x.1 x.2.1 x.2.2
theorem T.cells_length (t : T) (A : Option Addr) (c : Nat) : (T.cells t A c).length = 5 := by obtain ⟨k, i, f, s, l⟩ := t; rfl
theorem hcells_length (hs : List TH) : (hcells hs).length = hs.length * 5 := by
  induction hs with
  | nil => rfl
  | cons x hs ih => simp only [hcells, List.flatMap_cons, List.length_append, List.length_cons] at *; rw [ih, T.cells_length]; omega
theorem hcells_at : ∀ (hs : List TH) (j u : Nat) (x : TH), hs[j]? = some x → u < 5 → (hcells hs)[j * 5 + u]? = (T.cells x.1 x.2.1 x.2.2)[u]?
  | [], j, u, x, h, _ => by simp at h
  | x' :: hs, 0, u, x, h, hu => by
    simp at h
    subst h
    simp only [hcells, List.flatMap_cons, Nat.zero_mul, Nat.zero_add]
    rw [List.getElem?_append_left (by rw [T.cells_length]; omega)]
  | x' :: hs, j + 1, u, x, h, hu => by
    have e : (j + 1) * 5 + u = 5 + (j * 5 + u) := by omega
    simp only [hcells, List.flatMap_cons]
    rw [e, List.getElem?_append_right (by rw [T.cells_length]; omega)]
    have e2 : 5 + (j * 5 + u) - (T.cells x'.1 x'.2.1 x'.2.2).length = j * 5 + u := by rw [T.cells_length]; omega
    rw [e2]
    exact hcells_at hs j u x (by simpa using h) hu
theorem TAt.of {w : World} {b o : Nat} {t : T} {A : Option Addr} {c : Nat} (h : ∀ u, u < 5 → w.cell? ⟨b, o + u, none⟩ = (T.cells t A c)[u]?) : TAt w b o t A c := by
  obtain ⟨k, i, f, s, l⟩ := t
  exact ⟨h 0 (by omega), h 1 (by omega), h 2 (by omega), h 3 (by omega), h 4 (by omega)⟩
theorem TAt.to {w : World} {b o : Nat} {t : T} {A : Option Addr} {c : Nat} (h : TAt w b o t A c) : ∀ u x, (T.cells t A c)[u]? = some x → w.cell? ⟨b, o + u, none⟩ = some x := by
  obtain ⟨k, i, f, s, l⟩ := t
  obtain ⟨h0, h1, h2, h3, h4⟩ := h
  intro u x hx
  match u, hx with
  | 0, hx => cases hx; exact h0
  | 1, hx => cases hx; exact h1
  | 2, hx => cases hx; exact h2
  | 3, hx => cases hx; exact h3
  | 4, hx => cases hx; exact h4
  | u + 5, hx => exact absurd hx (by simp [T.cells])
theorem T.cells_one (t : T) (A : Option Addr) (c : Nat) : ∀ u ∈ T.cells t A c, u.oneCell' = true := by
  obtain ⟨k, i, f, s, l⟩ := t
  intro u hu
  simp only [T.cells, List.mem_cons, List.not_mem_nil, or_false] at hu
  rcases hu with rfl | rfl | rfl | rfl | rfl <;> rfl
theorem hcells_one (hs : List TH) : ∀ u ∈ hcells hs, u.oneCell' = true := by
  intro u hu
  simp only [hcells, List.mem_flatMap] at hu
  obtain ⟨x, _, hu⟩ := hu
  exact T.cells_one _ _ _ u hu
theorem heads_of {P : Nat → TH → Prop} : ∀ (L : List T), (∀ (j : Nat) t, L[j]? = some t → ∃ A c, P j (t, A, c)) → ∃ hs : List TH, hs.map (·.1) = L ∧ ∀ (j : Nat) x, hs[j]? = some x → P j x
  | [], _ => ⟨[], rfl, fun j x hx => by simp at hx⟩
  | t :: L, h => by
    obtain ⟨A, c, h0⟩ := h 0 t rfl
    obtain ⟨hs, e, hh⟩ := heads_of (P := fun j => P (j + 1)) L (fun j t ht => h (j + 1) t (by simpa using ht))
    refine ⟨(t, A, c) :: hs, by simp [e], fun j x hx => ?_⟩
    cases j with
    | zero => simp at hx; subst hx; exact h0
    | succ j => exact hh j x (by simpa using hx)
/-- a row that came, as cells that may be appended -/
theorem Rds.heads {w : World} {S : Nat → Prop} {n : Nat} {A : Option Addr} {c : Nat} {L : List T} (h : Rds w S n A c L) : ∃ hs : List TH, hs.map (·.1) = L ∧ (∀ x ∈ hs, Rd w S n x.1 x.2.1 x.2.2) ∧ ((A = none → L.length = 0) ∧ (∀ ad, A = some ad → ∀ j u, (hcells hs)[j]? = some u → w.cell? (ad.add j) = some u)) := by
  by_cases h0 : 0 < L.length
  · obtain ⟨b, off, rfl, hb, hat⟩ := h.2.2 h0
    obtain ⟨hs, e, hh⟩ := heads_of (P := fun j x => TAt w b (off + j * 5) x.1 x.2.1 x.2.2 ∧ Rd w S n x.1 x.2.1 x.2.2) L (fun j t ht => by
      obtain ⟨A1, c1, h1, h2⟩ := hat j t ht
      exact ⟨A1, c1, h1, h2⟩)
    refine ⟨hs, e, fun x hx => ?_, (fun h => by cases h), fun ad e2 j u hu => ?_⟩
    · obtain ⟨j, hj, rfl⟩ := List.getElem_of_mem hx
      exact (hh j _ (List.getElem?_eq_getElem hj)).2
    · cases e2
      have hj : j < hs.length * 5 := by rw [← hcells_length]; exact (List.getElem?_eq_some_iff.1 hu).1
      obtain ⟨x, hx⟩ : ∃ x, hs[j / 5]? = some x := ⟨_, List.getElem?_eq_getElem (by omega)⟩
      have ej : j = j / 5 * 5 + j % 5 := by omega
      rw [ej, hcells_at hs (j / 5) (j % 5) x hx (by omega)] at hu
      have := (hh _ x hx).1.to (j % 5) u hu
      rw [Addr.add_lit]
      rw [show off + j = off + j / 5 * 5 + j % 5 by omega]
      exact this
  · have : L = [] := List.eq_nil_of_length_eq_zero (by omega)
    subst this
    exact ⟨[], rfl, by simp, fun _ => rfl, fun ad e j u hu => by simp [hcells] at hu⟩
theorem rds_of {w : World} {S : Nat → Prop} {n base : Nat} {A : Option Addr} {m c : Nat} {hs : List TH} (h : CRow 28 5 w base (.slice A m c) hs.length (hcells hs)) (hr : ∀ x ∈ hs, Rd w S n x.1 x.2.1 x.2.2) (hS : ∀ k, base ≤ k → ¬ S k) : m = (hs.map (·.1)).length ∧ Rds w S n A c (hs.map (·.1)) := by
  have hn : m = hs.length ∧ m ≤ c ∧ c ≤ maxLen := by
    rcases h with ⟨h', h0, _⟩ | ⟨_, _, _, h', _, _, hl, _, hm, _⟩
    · injection h' with e1 e2 e3
      exact ⟨by omega, by omega, by omega⟩
    · injection h' with e1 e2 e3
      exact ⟨by omega, by omega, by omega⟩
  obtain ⟨rfl, hnc, hcm⟩ := hn
  refine ⟨by simp, by simpa using hnc, hcm, fun h0 => ?_⟩
  rw [List.length_map] at h0
  obtain ⟨g, rfl, hb, _, _, hc⟩ := CRow.cell h h0
  refine ⟨g, 0, rfl, hS g hb, fun j t ht => ?_⟩
  rw [List.getElem?_map] at ht
  obtain ⟨x, hx, rfl⟩ := Option.map_eq_some_iff.1 ht
  have hj := (List.getElem?_eq_some_iff.1 hx).1
  exact ⟨x.2.1, x.2.2, TAt.of (fun u hu => by rw [Nat.zero_add, (hc (j * 5 + u) (by omega)).1, hcells_at hs j u x hx hu]), hr x (List.mem_of_getElem? hx)⟩
def CallPost (w : World) (S : Nat → Prop) (n : Nat) (e : Ending) (w' : World) : Prop := ∃ meth A' c' ts, e = .returned (.tuple #[.string meth, .slice A' ts.length c']) ∧ Rds w' (fun k => S k ∧ k < w.heap.size) (n + 1) A' c' ts ∧ Ext w w'
end Go.Proofs.Ytdcbpnkcpglhhaa
