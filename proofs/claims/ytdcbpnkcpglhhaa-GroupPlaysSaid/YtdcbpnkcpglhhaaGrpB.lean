/- Rows of groups, directories, as they lie. -/
import Derived.Test.YtdcbpnkcpglhhaaGrpO
namespace Go.Proofs.Ytdcbpnkcpglhhaa
open Go.RowKit
set_option linter.unusedVariables false
set_option linter.unusedSimpArgs false
attribute [local go_sem] stepR givesR fillE Ext.refl

def gcells (ps : List Gp) : List Value := ps.flatMap Gp.cells
theorem gcells_length (ps : List Gp) : (gcells ps).length = ps.length * 4 := by
  induction ps with
  | nil => rfl
  | cons p ps ih => simp only [gcells, List.flatMap_cons, List.length_append, List.length_cons] at *; rw [ih]; simp [Gp.cells]; omega
theorem gcells_append (ps qs : List Gp) : gcells (ps ++ qs) = gcells ps ++ gcells qs := by simp [gcells]
theorem gcells_take : ∀ (ps : List Gp) (k : Nat), (gcells ps).take (k * 4) = gcells (ps.take k)
  | [], k => by simp [gcells]
  | p :: ps, 0 => by simp [gcells]
  | p :: ps, k + 1 => by
    have e : (k + 1) * 4 = 4 + k * 4 := by omega
    have ih := gcells_take ps k
    simp only [gcells, List.flatMap_cons, List.take_succ_cons] at *
    rw [e, List.take_append, List.take_of_length_le (by simp [Gp.cells]), ← ih]
    congr 2
    simp [Gp.cells]
theorem gcells_drop (ps : List Gp) (k : Nat) : (gcells ps).drop (k * 4) = gcells (ps.drop k) := by
  have h := List.take_append_drop k ps
  have h2 : gcells ps = gcells (ps.take k) ++ gcells (ps.drop k) := by rw [← gcells_append, h]
  by_cases hk : k ≤ ps.length
  · rw [h2, List.drop_append, gcells_length, List.length_take, Nat.min_eq_left hk, Nat.sub_self]
    rw [List.drop_of_length_le (by rw [gcells_length, List.length_take, Nat.min_eq_left hk]; exact Nat.le_refl _)]
    simp
  · rw [List.drop_of_length_le (by rw [gcells_length]; omega), List.drop_of_length_le (by omega)]
    rfl
theorem gcells_at : ∀ (ps : List Gp) (j q : Nat) (p : Gp), ps[j]? = some p → q < 4 → (gcells ps)[j * 4 + q]? = p.cells[q]?
  | [], j, q, p, h, _ => by simp at h
  | p' :: ps, 0, q, p, h, hq => by
    simp at h
    subst h
    simp only [gcells, List.flatMap_cons, Nat.zero_mul, Nat.zero_add]
    rw [List.getElem?_append_left (by simp [Gp.cells]; omega)]
  | p' :: ps, j + 1, q, p, h, hq => by
    have e : (j + 1) * 4 + q = 4 + (j * 4 + q) := by omega
    simp only [gcells, List.flatMap_cons]
    rw [e, List.getElem?_append_right (by simp [Gp.cells])]
    have e2 : 4 + (j * 4 + q) - p'.cells.length = j * 4 + q := by simp [Gp.cells]
    rw [e2]
    exact gcells_at ps j q p (by simpa using h) hq
theorem gcells_one (ps : List Gp) : ∀ u ∈ gcells ps, u.oneCell' = true := by
  intro u hu
  simp only [gcells, List.mem_flatMap] at hu
  obtain ⟨p, _, hu⟩ := hu
  simp only [Gp.cells, List.mem_cons, List.not_mem_nil, or_false] at hu
  rcases hu with rfl | rfl | rfl | rfl <;> rfl

/-- a group's four cells -/
def GAt (w : World) (g o : Nat) (p : Gp) : Prop := w.cell? ⟨g, o, none⟩ = some (.string p.name) ∧ w.cell? ⟨g, o + 1, none⟩ = some (.string p.cls) ∧ w.cell? ⟨g, o + 2, none⟩ = some (.int .i64 p.sty) ∧ w.cell? ⟨g, o + 3, none⟩ = some (.int .u32 p.ver)
theorem GAt.ext {w w' : World} {g o : Nat} {p : Gp} (h : GAt w g o p) (hx : Ext w w') : GAt w' g o p := ⟨hx.cell h.1, hx.cell h.2.1, hx.cell h.2.2.1, hx.cell h.2.2.2⟩
/-- a row of groups of one's own -/
def GRow (w : World) (base : Nat) (v : Value) (ps : List Gp) : Prop := CRow 36 4 w base v ps.length (gcells ps)
theorem GRow.ext {w w' : World} {base : Nat} {v : Value} {ps : List Gp} (h : GRow w base v ps) (hx : Ext w w') : GRow w' base v ps := CRow.ext h hx
theorem GRow.form {w : World} {base : Nat} {v : Value} {ps : List Gp} (h : GRow w base v ps) : ∃ A c, v = .slice A ps.length c ∧ ps.length ≤ c ∧ c ≤ maxLen ∧ (A = none → ps.length = 0 ∧ c = 0) := CRow.form h
/-- a row of groups that is read -/
def GRd (w : World) (A : Option Addr) (ps : List Gp) : Prop := 0 < ps.length → ∃ g, A = some ⟨g, 0, none⟩ ∧ ∀ (j : Nat) p, ps[j]? = some p → GAt w g (j * 4) p
theorem GRd.ext {w w' : World} {A : Option Addr} {ps : List Gp} (h : GRd w A ps) (hx : Ext w w') : GRd w' A ps := fun h0 => by
  obtain ⟨g, e, hj⟩ := h h0
  exact ⟨g, e, fun j p hp => (hj j p hp).ext hx⟩
theorem GRow.rd {w : World} {base : Nat} {A : Option Addr} {n c : Nat} {ps : List Gp} (h : GRow w base (.slice A n c) ps) : GRd w A ps := by
  intro h0
  have hn : n = ps.length := by
    rcases h with ⟨h', h0', _⟩ | ⟨_, _, _, h', _⟩
    · omega
    · injection h' with h1 h2 h3
  obtain ⟨g, rfl, _, _, _, hc⟩ := CRow.cell h (by omega)
  refine ⟨g, rfl, fun j p hj => ?_⟩
  have hlt := (List.getElem?_eq_some_iff.1 hj).1
  have hk : ∀ q, q < 4 → j * 4 + q < n * 4 := fun q hq => by rw [hn]; omega
  refine ⟨?_, ?_, ?_, ?_⟩
  · have := (hc (j * 4 + 0) (hk 0 (by omega))).1
    rw [gcells_at ps j 0 p hj (by omega)] at this
    simpa [Gp.cells] using this
  · have := (hc (j * 4 + 1) (hk 1 (by omega))).1
    rw [gcells_at ps j 1 p hj (by omega)] at this
    simpa [Gp.cells] using this
  · have := (hc (j * 4 + 2) (hk 2 (by omega))).1
    rw [gcells_at ps j 2 p hj (by omega)] at this
    simpa [Gp.cells] using this
  · have := (hc (j * 4 + 3) (hk 3 (by omega))).1
    rw [gcells_at ps j 3 p hj (by omega)] at this
    simpa [Gp.cells] using this
set_option maxHeartbeats 1000000 in
set_option maxRecDepth 100000 in
theorem search_any (w : World) (A : Option Addr) (c : Nat) (L : List Gp) (k : ByteArray) (h : GRd w A L) (hs : Srt L) (hl : L.length ≤ 1000) :
    Calls Try.prog 46 #[.slice A L.length c, .string k, .func (.func 47) #[] #[]] w (RetX (.tuple #[.int .i64 (posN L k), .bool (hasN L k)]) w) := by
  have H := Lib.hid h
  have HS := Lib.hid hs
  have HL := Lib.hid hl
  have T0 := fun p w' => order_any p k w'
  clear h hs hl
  have HP : Hid (∀ i, i ≤ L.length → (∀ t g, t < i → L[t]? = some g → ltN g.name k = true) → (∀ g, L[i]? = some g → ltN g.name k = false) → posN L k = i) := Lib.hid (posN_of L k)
  have HH : Hid (∀ i, posN L k = i → hasN L k = (match L[i]? with | some g => eqN g.name k | none => false)) := Lib.hid (fun i e => by subst e; rfl)
  generalize posN L k = pos at *
  generalize hasN L k = has at *
  go_enter Try.func46, Try.ntmps46
  go_wp2_with fail
  go_loopg [9, 10] L.length (fun kx s9 s10 wr => ∃ lo hi : Nat, s9 = .int .i64 lo ∧ s10 = .int .i64 hi ∧ lo ≤ hi ∧ hi ≤ L.length ∧ hi - lo ≤ kx ∧ Ext w wr ∧
    Hid ((∀ t g, t < lo → L[t]? = some g → ltN g.name k = true) ∧ (∀ t g, hi ≤ t → L[t]? = some g → ltN g.name k = false)))
  case atStart => exact ⟨0, L.length, rfl, rfl, Nat.zero_le _, Nat.le_refl _, by omega, Ext.refl _, Lib.hid ⟨fun t g ht => absurd ht (Nat.not_lt_zero _), fun t g h1 h2 => by rw [List.getElem?_eq_none h1] at h2; cases h2⟩⟩
  case round =>
    obtain ⟨lo, hi, rfl, rfl, hlh, hin, hg, hx, I⟩ := hrel
    have HLo := HL.out
    by_cases hlt : lo < hi
    · obtain ⟨b, rfl, hat⟩ := H.out (by omega)
      obtain ⟨p, hp⟩ : ∃ p, L[(lo + hi) / 2]? = some p := ⟨_, List.getElem?_eq_getElem (by omega)⟩
      obtain ⟨a0, a1, a2, a3⟩ := hat _ p hp
      have b0 := hx.cell a0
      have b1 := hx.cell a1
      have b2 := hx.cell a2
      have b3 := hx.cell a3
      have T1 := T0 p wr
      have HX := Lib.hid (And.intro hx (And.intro hp I))
      have HN := Lib.hid (And.intro hlh (And.intro hin hg))
      have hmid : ((lo + hi) / 2 : Nat) < L.length := by omega
      clear a0 a1 a2 a3 hat hx hp I
      have hcz := Lib.hid (cmpS_neg p.name k)
      simp only [Gp.val] at T1
      by_cases hyx : cmpS p.name k < 0
      · go_wp2_with fail
        refine T1.mono ?_
        rintro e w1 ⟨rfl, hx1⟩
        go_wp2_with fail
        go_roundg (hi - ((lo + hi) / 2 + 1))
        case measure => omega
        case rel =>
          refine ⟨(lo + hi) / 2 + 1, hi, by rw [show ((lo : Int) + (hi : Int)) / 2 + 1 = (((lo + hi) / 2 + 1 : Nat) : Int) by omega], rfl, by omega, hin, Nat.le_refl _, HX.out.1.trans hx1, Lib.hid ⟨fun t g ht hg => HS.out.down (j := (lo + hi) / 2) (by omega) hg HX.out.2.1 (hcz.out.1 hyx), HX.out.2.2.out.2⟩⟩
      · have hne := hyx
        have hyf : decide (cmpS p.name k < 0) = false := decide_eq_false hyx
        have hf : ltN p.name k = false := by rw [← Bool.not_eq_true, ← hcz.out]; exact hne
        have HF := Lib.hid hf
        clear hne hf
        go_wp2_with fail
        refine T1.mono ?_
        rintro e w1 ⟨rfl, hx1⟩
        go_wp2_with fail
        go_roundg ((lo + hi) / 2 - lo)
        case measure => omega
        case rel =>
          exact ⟨lo, (lo + hi) / 2, rfl, by rw [show ((lo : Int) + (hi : Int)) / 2 = (((lo + hi) / 2 : Nat) : Int) by omega], by omega, by omega, Nat.le_refl _, HX.out.1.trans hx1, Lib.hid ⟨HX.out.2.2.out.1, fun t g ht hg => HS.out.up ht HX.out.2.1 hg HF.out⟩⟩
    · obtain rfl : hi = lo := by omega
      obtain rfl : pos = hi := HP.out hi hin I.out.1 (fun g hg => I.out.2 hi g (Nat.le_refl _) hg)
      have hh := HH.out pos rfl
      by_cases hn : pos < L.length
      · obtain ⟨b, rfl, hat⟩ := H.out (by omega)
        obtain ⟨p, hp⟩ : ∃ p, L[pos]? = some p := ⟨_, List.getElem?_eq_getElem (by omega)⟩
        obtain ⟨a0, a1, a2, a3⟩ := hat _ p hp
        have b0 := hx.cell a0
        have b1 := hx.cell a1
        have b2 := hx.cell a2
        have b3 := hx.cell a3
        have T1 := T0 p wr
        have HX := Lib.hid hx
        rw [hp] at hh
        have hcz := Lib.hid (cmpS_zero p.name k)
        simp only at hh
        subst hh
        clear a0 a1 a2 a3 hat hx hp I
        simp only [Gp.val] at T1
        by_cases hyx : cmpS p.name k = 0
        · have HE := Lib.hid (hcz.out.1 hyx)
          rw [hyx] at T1
          clear hcz hyx
          go_wp2_with fail
          refine T1.mono ?_
          rintro e w1 ⟨rfl, hx1⟩
          go_wp2_with fail
          go_ret2
          exact ⟨by rw [HE.out]; rfl, HX.out.trans hx1⟩
        · have hne := hyx
          have hyf : (cmpS p.name k == 0) = false := by simpa using hyx
          have hf : eqN p.name k = false := by rw [← Bool.not_eq_true, ← hcz.out]; exact hne
          have HE := Lib.hid hf
          clear hcz hyx hf hne
          go_wp2_with fail
          refine T1.mono ?_
          rintro e w1 ⟨rfl, hx1⟩
          go_wp2_with fail
          go_ret2
          exact ⟨by rw [HE.out]; rfl, HX.out.trans hx1⟩
      · obtain rfl : pos = L.length := by omega
        rw [List.getElem?_eq_none (Nat.le_refl _)] at hh
        simp only at hh
        subst hh
        have HX := Lib.hid hx
        have hnn : decide ((L.length : Int) < (L.length : Int)) = false := by simp
        clear hx I
        go_wp2_with fail
        go_ret2
        exact ⟨rfl, HX.out⟩
end Go.Proofs.Ytdcbpnkcpglhhaa
