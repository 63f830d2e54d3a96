/- Rows of strings; names, classes, styles as the program tells them. -/
import Derived.Test.YtdcbpnkcpglhhaaGrpD
namespace Go.Proofs.Ytdcbpnkcpglhhaa
open Go.RowKit
set_option linter.unusedVariables false
set_option linter.unusedSimpArgs false
set_option linter.unnecessarySimpa false
attribute [local go_sem] stepR givesR fillE Ext.refl run_store_float

/-- a row of strings that is read -/
def SAt (w : World) (A : Option Addr) (zs : List ByteArray) : Prop := 0 < zs.length → ∃ b off, A = some ⟨b, off, none⟩ ∧ ∀ (j : Nat) s, zs[j]? = some s → w.cell? ⟨b, off + j, none⟩ = some (.string s)
theorem SAt.ext {w w' : World} {A : Option Addr} {zs : List ByteArray} (h : SAt w A zs) (hx : Ext w w') : SAt w' A zs := fun h0 => by
  obtain ⟨b, off, e, hj⟩ := h h0
  exact ⟨b, off, e, fun j s hs => hx.cell (hj j s hs)⟩
def idxS (zs : List ByteArray) (k : ByteArray) : Int := match zs.findIdx? (fun z => eqN k z) with
  | some j => (j : Int)
  | none => -1
theorem idxS_some {zs : List ByteArray} {k : ByteArray} {j : Nat} {z : ByteArray} (hz : zs[j]? = some z) (he : eqN k z = true) (hn : ∀ q u, q < j → zs[q]? = some u → eqN k u = false) : idxS zs k = j := by
  obtain ⟨hj, rfl⟩ := List.getElem?_eq_some_iff.1 hz
  have : zs.findIdx? (fun z => eqN k z) = some j := by
    rw [List.findIdx?_eq_some_iff_getElem]
    exact ⟨hj, he, fun q hq => by rw [hn q _ hq (List.getElem?_eq_getElem (by omega))]; simp⟩
  unfold idxS
  rw [this]
theorem idxS_none {zs : List ByteArray} {k : ByteArray} (hn : ∀ q u, q < zs.length → zs[q]? = some u → eqN k u = false) : idxS zs k = -1 := by
  have : zs.findIdx? (fun z => eqN k z) = none := by
    rw [List.findIdx?_eq_none_iff]
    intro x hx
    obtain ⟨q, hq, rfl⟩ := List.getElem_of_mem hx
    exact hn q _ hq (List.getElem?_eq_getElem hq)
  unfold idxS
  rw [this]
theorem index_any (w : World) (A : Option Addr) (c : Nat) (zs : List ByteArray) (k : ByteArray) (h : SAt w A zs) (hl : zs.length ≤ 1000) :
    Calls Try.prog 61 #[.slice A zs.length c, .string k] w (RetS (.int .i64 (idxS zs k)) w) := by
  have H := Lib.hid h
  have HL := Lib.hid hl
  have HY : Hid (∀ (j : Nat) z, zs[j]? = some z → eqN k z = true → (∀ (q : Nat) u, q < j → zs[q]? = some u → eqN k u = false) → idxS zs k = j) := Lib.hid (fun j z h1 h2 h3 => idxS_some h1 h2 h3)
  have HN : Hid ((∀ (q : Nat) u, q < zs.length → zs[q]? = some u → eqN k u = false) → idxS zs k = -1) := Lib.hid (fun h => idxS_none h)
  generalize idxS zs k = z at *
  clear h hl
  go_enter Try.func61, Try.ntmps61
  go_wp2_with fail
  go_loopw [8] (fun i wr => ∃ j : Nat, j ≤ zs.length ∧ i = .int .i64 j ∧ w = wr ∧ Hid (∀ (q : Nat) u, q < j → zs[q]? = some u → eqN k u = false)) (fun i _ => zs.length - (intOf i).toNat)
  case atStart => exact ⟨0, Nat.zero_le _, rfl, by first | rfl | trivial, Lib.hid fun q u hq => by omega⟩
  case round =>
    obtain ⟨j, hj, rfl, rfl, I⟩ := hrel
    have HLo := HL.out
    have hjn : ((j : Int) < 0) = False := by simp
    by_cases hlt : j < zs.length
    · obtain ⟨b, off, rfl, hat⟩ := H.out (by omega)
      obtain ⟨s, hs⟩ : ∃ s, zs[j]? = some s := ⟨_, List.getElem?_eq_getElem hlt⟩
      have b0 := hat j s hs
      have hji : (j : Int) < (zs.length : Int) := by omega
      have hw1 : IntKind.i64.wrap ((j : Int) + 1) = (j : Int) + 1 := IntWalk.i64_in _ (by omega)
      have HS := Lib.hid hs
      clear hat hs
      cases he : eqN k s with
      | true =>
        have he' : (k.toList == s.toList) = true := he
        obtain rfl : z = (j : Int) := HY.out j s HS.out he I.out
        clear he
        go_wp2_with fail
        go_ret
        exact ⟨rfl, rfl⟩
      | false =>
        have he' : (k.toList == s.toList) = false := he
        have HE := Lib.hid he
        clear he
        go_wp2_with fail
        go_roundw
        case rel =>
          refine ⟨j + 1, by omega, by go_num, by first | rfl | trivial, Lib.hid fun q u hq hu => ?_⟩
          rcases Nat.lt_succ_iff_lt_or_eq.1 hq with hq | rfl
          · exact I.out q u hq hu
          · rw [HS.out] at hu
            cases hu
            exact HE.out
        case measure => simp [intOf]; omega
    · obtain rfl : j = zs.length := by omega
      obtain rfl : z = -1 := HN.out I.out
      have hnl : decide ((zs.length : Int) < (zs.length : Int)) = false := by simp
      go_wp2_with fail
      go_ret
      exact ⟨rfl, rfl⟩
theorem contains_any (w : World) (A : Option Addr) (c : Nat) (zs : List ByteArray) (k : ByteArray) (h : SAt w A zs) (hl : zs.length ≤ 1000) :
    Calls Try.prog 59 #[.slice A zs.length c, .string k] w (RetS (.bool (decide (0 ≤ idxS zs k))) w) := by
  have T1 := index_any w A c zs k h hl
  generalize idxS zs k = z at *
  clear h hl
  go_enter Try.func59, Try.ntmps59
  go_wp2_with fail
  refine T1.mono ?_
  rintro e w1 ⟨rfl, rfl⟩
  go_wp2_with fail
  go_ret
  exact ⟨rfl, rfl⟩

def bActive : ByteArray := ⟨#[97, 99, 116, 105, 118, 101]⟩
def bWarm : ByteArray := ⟨#[119, 97, 114, 109]⟩
def bCold : ByteArray := ⟨#[99, 111, 108, 100]⟩
def stylesL : List ByteArray := [bActive, bWarm, bCold]
def bGroups : ByteArray := ⟨#[103, 114, 111, 117, 112, 115]⟩
def classesL : List ByteArray := [⟨#[99, 111, 117, 110, 116, 101, 114]⟩, ⟨#[108, 101, 100, 103, 101, 114]⟩, ⟨#[111, 114, 99, 104]⟩, ⟨#[113, 117, 101, 117, 101]⟩, ⟨#[114, 101, 103, 105, 115, 116, 101, 114]⟩, ⟨#[116, 97, 98, 108, 101]⟩]
/-- a new row of strings -/
def IsRow (zs : List ByteArray) (v : Value) (w : World) : Prop := ∃ A, v = .slice A zs.length zs.length ∧ SAt w A zs
theorem IsRow.later (zs : List ByteArray) : ∀ v w w', IsRow zs v w → Ext w w' → IsRow zs v w' := fun v w w' ⟨A, e, h⟩ hx => ⟨A, e, h.ext hx⟩
def RowPost (w : World) (zs : List ByteArray) (e : Ending) (w' : World) : Prop := ∃ v, e = .returned v ∧ IsRow zs v w' ∧ Ext w w'
theorem newrow (w : World) (zs : List ByteArray) (T : TypeId) : SAt (w.alloc (.cells (zs.map Value.string).toArray T)) (some ⟨w.heap.size, 0, none⟩) zs := fun h0 => by
  refine ⟨_, 0, rfl, fun j s hs => ?_⟩
  rw [Nat.zero_add, cell_of_row _ _ j _ _ _ (heap_alloc_new w _)]
  simp [hs]
theorem styles_any (w : World) : Calls Try.prog 45 #[] w (RowPost w stylesL) := by
  have h := newrow w stylesL 9
  have hx := (Ext.refl w).alloc (.cells (stylesL.map Value.string).toArray 9)
  have H := Lib.hid (And.intro h hx)
  clear h hx
  go_enter Try.func45, Try.ntmps45
  go_wp2_with fail
  go_ret
  exact ⟨_, rfl, ⟨_, rfl, H.out.1⟩, H.out.2⟩
theorem classes_any (w : World) : Calls Try.prog 60 #[] w (RowPost w classesL) := by
  have h := newrow w classesL 9
  have hx := (Ext.refl w).alloc (.cells (classesL.map Value.string).toArray 9)
  have H := Lib.hid (And.intro h hx)
  clear h hx
  go_enter Try.func60, Try.ntmps60
  go_wp2_with fail
  go_ret
  exact ⟨_, rfl, ⟨_, rfl, H.out.1⟩, H.out.2⟩
/-- may it be a group's name? -/
def gnameT : T → Bool
  | .mk k i f s l => nameT (.mk k i f s l) && !(eqN s bGroups)
theorem gname_any {w : World} {t : T} {A : Option Addr} {c : Nat} : Calls Try.prog 38 #[t.val A c] w (RetX (.bool (gnameT t)) w) := by
  have T1 := fun w' => name_any (w := w') (t := t) (A := A) (c := c)
  obtain ⟨k, i, f, s, l⟩ := t
  show Calls _ _ #[.agg #[.int .i64 k, .int .i64 i, .float .f64 f, .string s, .slice A l.length c]] _ _
  simp only [T.val] at T1
  rw [gnameT]
  generalize nameT (.mk k i f s l) = z at *
  have HX := Lib.hid ((Ext.refl w).alloc (.cells #[.int .i64 k, .int .i64 i, .float .f64 f, .string s, .slice A l.length c] 28))
  have HO := Lib.hid (heap_alloc_new w (.cells #[.int .i64 k, .int .i64 i, .float .f64 f, .string s, .slice A l.length c] 28))
  generalize hq : eqN s bGroups = q
  have hq' : (s.toList == [103, 114, 111, 117, 112, 115]) = q := by rw [← hq, eqN, show bGroups.toList = [103, 114, 111, 117, 112, 115] by rw [Lib.toList_data]; rfl]
  clear hq
  cases z with
  | true =>
    rw [Bool.true_and]
    generalize hr : (!q) = r
    obtain rfl : q = !r := by rw [← hr, Bool.not_not]
    clear hr
    go_enter Try.func38, Try.ntmps38
    go_wp2_with fail
    have ha := HX.out
    have ho := HO.out
    revert ha ho
    generalize World.alloc _ _ = w0
    generalize w.heap.size = bx
    intro ha ho
    have HA := Lib.hid ha
    have HB := Lib.hid ho
    have T2 := T1 w0
    clear ha ho T1
    refine T2.mono ?_
    rintro e w1 ⟨rfl, hx⟩
    have o1 := hx.obj HB.out
    have d0 : w1.cell? ⟨bx, 3, none⟩ = some (.string s) := (cell_of_row w1 bx 3 _ _ _ o1).trans rfl
    have HH := Lib.hid hx
    clear hx o1
    go_wp2_with fail
    go_ret
    exact ⟨rfl, HA.out.trans HH.out⟩
  | false =>
    rw [Bool.false_and]
    go_enter Try.func38, Try.ntmps38
    go_wp2_with fail
    have ha := HX.out
    revert ha
    generalize World.alloc _ _ = w0
    generalize w.heap.size = bx
    intro ha
    have HA := Lib.hid ha
    have T2 := T1 w0
    clear ha T1
    refine T2.mono ?_
    rintro e w1 ⟨rfl, hx⟩
    have HH := Lib.hid hx
    clear hx
    go_wp2_with fail
    go_ret
    exact ⟨rfl, HA.out.trans HH.out⟩
end Go.Proofs.Ytdcbpnkcpglhhaa
