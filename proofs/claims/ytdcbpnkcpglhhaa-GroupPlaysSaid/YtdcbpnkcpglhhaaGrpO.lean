/- The order of names; places in a sorted row (no program in sight). -/
import Derived.Test.YtdcbpnkcpglhhaaGrpA
import Derived.Lib.SlicesS
import Derived.Sort.Walk0
namespace Go.Proofs.Ytdcbpnkcpglhhaa
open Go.RowKit
set_option linter.unusedVariables false
set_option linter.unusedSimpArgs false

def ltN (a b : ByteArray) : Bool := Op.bytesLess a.toList b.toList
def eqN (a b : ByteArray) : Bool := a.toList == b.toList
theorem ltN_iff (a b : ByteArray) : ltN a b = true ↔ a.data.toList < b.data.toList := by
  rw [ltN, Proofs.bytesLess_eq, Lib.toList_data, Lib.toList_data, decide_eq_true_iff]
theorem ltN_trans {a b c : ByteArray} (h : ltN a b = true) (k : ltN b c = true) : ltN a c = true := by
  rw [ltN_iff] at *
  exact List.lt_trans h k
theorem ltN_irrefl (a : ByteArray) : ltN a a = false := by
  rw [← Bool.not_eq_true, ltN_iff]
  exact List.lt_irrefl _
theorem eqN_iff (a b : ByteArray) : eqN a b = true ↔ a = b := Lib.bytes_beq_iff a b
theorem compareBytes_zero : ∀ (a b : List UInt8), Lib.compareBytes a b = 0 ↔ a = b
  | [], [] => by simp [Lib.compareBytes]
  | [], _ :: _ => by simp [Lib.compareBytes]
  | _ :: _, [] => by simp [Lib.compareBytes]
  | x :: a, y :: b => by
    have ih := compareBytes_zero a b
    unfold Lib.compareBytes
    by_cases h1 : x < y
    · have : x ≠ y := fun e => UInt8.lt_irrefl x (by rw [e] at h1 ⊢; exact h1)
      simp [h1, this]
    · by_cases h2 : y < x
      · have : x ≠ y := fun e => UInt8.lt_irrefl x (by rw [e] at h2 ⊢; exact h2)
        simp [h1, h2, this]
      · have : x = y := UInt8.le_antisymm (UInt8.not_lt.1 h2) (UInt8.not_lt.1 h1)
        simp [h1, h2, ih, this]
theorem compareBytes_neg : ∀ (a b : List UInt8), Lib.compareBytes a b < 0 ↔ a < b
  | [], [] => by simp [Lib.compareBytes]
  | [], _ :: _ => by simp [Lib.compareBytes]
  | _ :: _, [] => by simp [Lib.compareBytes]
  | x :: a, y :: b => by
    have ih := compareBytes_neg a b
    unfold Lib.compareBytes
    by_cases h1 : x < y
    · simp [h1, List.cons_lt_cons_iff]
    · by_cases h2 : y < x
      · have : x ≠ y := fun e => UInt8.lt_irrefl x (by rw [e] at h2 ⊢; exact h2)
        simp [h1, h2, this, List.cons_lt_cons_iff]
      · have : x = y := UInt8.le_antisymm (UInt8.not_lt.1 h2) (UInt8.not_lt.1 h1)
        subst this
        simp [h1, ih, List.cons_lt_cons_iff]
theorem cmpS_neg (a b : ByteArray) : cmpS a b < 0 ↔ ltN a b = true := by rw [cmpS, compareBytes_neg, ltN_iff]
theorem cmpS_zero (a b : ByteArray) : cmpS a b = 0 ↔ eqN a b = true := by
  rw [cmpS, compareBytes_zero, eqN_iff]
  constructor
  · intro h
    obtain ⟨⟨la⟩⟩ := a
    obtain ⟨⟨lb⟩⟩ := b
    simp at h
    rw [h]
  · rintro rfl
    rfl

/-- a row in order of names -/
def Srt (L : List Gp) : Prop := L.Pairwise fun a b => ltN a.name b.name = true
/-- where a name would stand -/
def posN (L : List Gp) (k : ByteArray) : Nat := (L.takeWhile fun g => ltN g.name k).length
/-- is it there? -/
def hasN (L : List Gp) (k : ByteArray) : Bool := match L[posN L k]? with
  | some g => eqN g.name k
  | none => false
theorem posN_le (L : List Gp) (k : ByteArray) : posN L k ≤ L.length := (List.takeWhile_sublist _).length_le
theorem posN_of : ∀ (L : List Gp) (k : ByteArray) (i : Nat), i ≤ L.length → (∀ t g, t < i → L[t]? = some g → ltN g.name k = true) → (∀ g, L[i]? = some g → ltN g.name k = false) → posN L k = i
  | [], k, i, hi, _, _ => by
    have : i = 0 := by simpa using hi
    subst this
    rfl
  | g :: L, k, 0, hi, _, h2 => by
    have := h2 g rfl
    simp [posN, this]
  | g :: L, k, i + 1, hi, h1, h2 => by
    have h0 := h1 0 g (by omega) rfl
    have ih := posN_of L k i (by simpa using hi) (fun t g' ht hg => h1 (t + 1) g' (by omega) (by simpa using hg)) (fun g' hg => h2 g' (by simpa using hg))
    simp only [posN] at ih
    simp [posN, h0, ih]
theorem posN_lt (L : List Gp) (k : ByteArray) (t : Nat) (g : Gp) (ht : t < posN L k) (hg : L[t]? = some g) : ltN g.name k = true := by
  have h1 : L.takeWhile (fun g => ltN g.name k) <+: L := List.takeWhile_prefix _
  obtain ⟨r, hr⟩ := h1
  have h2 : (L.takeWhile fun g => ltN g.name k)[t]? = some g := by
    rw [← hg]
    conv => rhs; rw [← hr]
    rw [List.getElem?_append_left ht]
  have := List.mem_of_getElem? h2
  exact List.all_takeWhile (p := fun g => ltN g.name k) (l := L) |> fun h => by
    have := List.all_eq_true.1 h g this
    simpa using this
theorem posN_ge (L : List Gp) (k : ByteArray) (g : Gp) (hg : L[posN L k]? = some g) : ltN g.name k = false := by
  induction L with
  | nil => simp at hg
  | cons a L ih =>
    by_cases ha : ltN a.name k = true
    · have e : posN (a :: L) k = posN L k + 1 := by simp [posN, ha]
      rw [e] at hg
      exact ih (by simpa using hg)
    · have ha' : ltN a.name k = false := by simpa using ha
      have e : posN (a :: L) k = 0 := by simp [posN, ha']
      rw [e] at hg
      simp at hg
      rw [← hg]
      exact ha'
theorem Srt.at {L : List Gp} (h : Srt L) {i j : Nat} {a b : Gp} (hij : i < j) (ha : L[i]? = some a) (hb : L[j]? = some b) : ltN a.name b.name = true := by
  obtain ⟨hi, rfl⟩ := List.getElem?_eq_some_iff.1 ha
  obtain ⟨hj, rfl⟩ := List.getElem?_eq_some_iff.1 hb
  exact List.pairwise_iff_getElem.1 h i j hi hj hij
/-- what precedes a name stands ahead of what doesn't -/
theorem Srt.down {L : List Gp} (h : Srt L) {k : ByteArray} {i j : Nat} {a b : Gp} (hij : i ≤ j) (ha : L[i]? = some a) (hb : L[j]? = some b) (hl : ltN b.name k = true) : ltN a.name k = true := by
  rcases Nat.lt_or_eq_of_le hij with hlt | rfl
  · exact ltN_trans (h.at hlt ha hb) hl
  · rw [ha] at hb
    cases hb
    exact hl
theorem Srt.up {L : List Gp} (h : Srt L) {k : ByteArray} {i j : Nat} {a b : Gp} (hij : i ≤ j) (ha : L[i]? = some a) (hb : L[j]? = some b) (hl : ltN a.name k = false) : ltN b.name k = false := by
  rw [← Bool.not_eq_true]
  intro hb'
  rw [h.down hij ha hb hb'] at hl
  cases hl
theorem ltN_total {a b : ByteArray} (h1 : ltN a b = false) (h2 : eqN a b = false) : ltN b a = true := by
  rw [← Bool.not_eq_true, ltN_iff] at h1
  rw [← Bool.not_eq_true, eqN_iff] at h2
  rw [ltN_iff]
  rcases List.le_iff_lt_or_eq.1 (List.not_lt.1 h1) with h | h
  · exact h
  · exfalso
    apply h2
    obtain ⟨⟨la⟩⟩ := a
    obtain ⟨⟨lb⟩⟩ := b
    simp at h
    rw [h]

/-- the row with one more -/
def insG (L : List Gp) (g : Gp) : List Gp := L.take (posN L g.name) ++ g :: L.drop (posN L g.name)
def delG (L : List Gp) (i : Nat) : List Gp := L.take i ++ L.drop (i + 1)
def setG (L : List Gp) (i : Nat) (g : Gp) : List Gp := L.take i ++ g :: L.drop (i + 1)
theorem Srt.ins {L : List Gp} (h : Srt L) (g : Gp) (hn : hasN L g.name = false) : Srt (insG L g) := by
  unfold insG Srt
  rw [List.pairwise_append]
  refine ⟨h.sublist (List.take_sublist _ _), ?_, ?_⟩
  · rw [List.pairwise_cons]
    refine ⟨fun b hb => ?_, h.sublist (List.drop_sublist _ _)⟩
    obtain ⟨j, hj, rfl⟩ := List.getElem_of_mem hb
    rw [List.getElem_drop]
    have hlt : posN L g.name < L.length := by rw [List.length_drop] at hj; omega
    obtain ⟨p, hp⟩ : ∃ p, L[posN L g.name]? = some p := ⟨_, List.getElem?_eq_getElem hlt⟩
    have h1 := posN_ge L g.name p hp
    have h2 : eqN p.name g.name = false := by
      simp only [hasN, hp] at hn
      exact hn
    have h3 := ltN_total h1 h2
    rcases Nat.eq_zero_or_pos j with rfl | h0
    · have : L[posN L g.name + 0]'(by omega) = p := by
        have := List.getElem?_eq_some_iff.1 hp
        simpa using this.2
      rw [this]
      exact h3
    · refine ltN_trans h3 (h.at (i := posN L g.name) (j := posN L g.name + j) (by omega) hp (List.getElem?_eq_getElem _))
  · intro a ha b hb
    obtain ⟨i, hi, rfl⟩ := List.getElem_of_mem ha
    rw [List.getElem_take]
    rw [List.length_take] at hi
    have h1 : ltN (L[i]'(by omega)).name g.name = true := posN_lt L g.name i _ (by omega) (List.getElem?_eq_getElem _)
    rcases List.mem_cons.1 hb with rfl | hb
    · exact h1
    · obtain ⟨j, hj, rfl⟩ := List.getElem_of_mem hb
      rw [List.getElem_drop]
      rw [List.length_drop] at hj
      exact h.at (i := i) (j := posN L g.name + j) (by omega) (List.getElem?_eq_getElem _) (List.getElem?_eq_getElem _)
theorem Srt.del {L : List Gp} (h : Srt L) (i : Nat) : Srt (delG L i) := by
  unfold delG Srt
  have e : L.take i ++ L.drop (i + 1) = L.eraseIdx i := by rw [List.eraseIdx_eq_take_drop_succ]
  rw [e]
  exact h.sublist (List.eraseIdx_sublist _ _)
theorem Srt.set {L : List Gp} (h : Srt L) (i : Nat) (g p : Gp) (hp : L[i]? = some p) (he : g.name = p.name) : Srt (setG L i g) := by
  obtain ⟨hi, rfl⟩ := List.getElem?_eq_some_iff.1 hp
  have e : setG L i g = L.set i g := by rw [setG, List.set_eq_take_append_cons_drop, if_pos hi]
  rw [e]
  unfold Srt
  rw [List.pairwise_iff_getElem]
  intro x y hx hy hxy
  rw [List.length_set] at hx hy
  have h0 := List.pairwise_iff_getElem.1 h x y hx hy hxy
  rw [List.getElem_set, List.getElem_set]
  by_cases h1 : i = x
  · subst h1
    rw [if_pos rfl, if_neg (by omega), he]
    exact h0
  · rw [if_neg h1]
    by_cases h2 : i = y
    · subst h2
      rw [if_pos rfl, he]
      exact h0
    · rw [if_neg h2]
      exact h0
end Go.Proofs.Ytdcbpnkcpglhhaa
