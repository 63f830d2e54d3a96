/- Directories: find, Get, at. -/
import Derived.Test.YtdcbpnkcpglhhaaGrpB
namespace Go.Proofs.Ytdcbpnkcpglhhaa
open Go.RowKit
set_option linter.unusedVariables false
set_option linter.unusedSimpArgs false
attribute [local go_sem] stepR givesR fillE Ext.refl

theorem Ext.put {w w' : World} (h : Ext w w') {b i : Nat} {u : Value} (hb : w.heap.size ≤ b) : Ext w (w'.setCell ⟨b, i, none⟩ u) :=
  Below.trans h (((Chg.refl (fun k => k = b) w').setCell ⟨b, i, none⟩ u (fun _ => rfl)).below h.size_le' (fun k hk => by subst hk; exact hb))
theorem put2' {T : TypeId} {w : World} {g i : Nat} {x : Value} {cs : Array Value} (h : w.heap[g]? = some (.cells cs T (0, 0))) : (w.setCell ⟨g, i, none⟩ x).heap[g]? = some (.cells (cs.setIfInBounds i x) T (0, 0)) := heap_setCell_same w g i cs T x h
def Gp.ok (p : Gp) : Prop := (p.sty = 0 ∨ p.sty = 1 ∨ p.sty = 2) ∧ 0 ≤ p.ver ∧ p.ver < 4294967296 ∧ p.name.size ≤ 32 ∧ p.cls.size ≤ 32
/-- a directory behind a pointer -/
structure Dr (T : TypeId) (w : World) (base g : Nat) (v : Value) (L : List Gp) : Prop where
  obj : w.heap[g]? = some (.cells #[v] T (0, 0))
  low : base ≤ g
  row : GRow w base v L
  few : L.length ≤ 16
  srt : Srt L
  ok : ∀ p ∈ L, p.ok
theorem Dr.cell {T : TypeId} {w : World} {base g : Nat} {v : Value} {L : List Gp} (h : Dr T w base g v L) : w.cell? ⟨g, 0, none⟩ = some v ∧ w.frozen? ⟨g, 0, none⟩ = false := by
  refine ⟨?_, ?_⟩
  · rw [cell_of_row w g 0 _ _ (0, 0) h.obj]; rfl
  · simp [World.frozen?, h.obj]
theorem Dr.lt {T : TypeId} {w : World} {base g : Nat} {v : Value} {L : List Gp} (h : Dr T w base g v L) : g < w.heap.size := (Array.getElem?_eq_some_iff.1 h.obj).1
theorem Dr.ne {T : TypeId} {w : World} {base g : Nat} {v : Value} {L : List Gp} (h : Dr T w base g v L) (hT : T ≠ 36) : v.ownBlock ≠ some g := CRow.ne h.row h.obj hT
theorem Dr.ext {T : TypeId} {w w' : World} {base g : Nat} {v : Value} {L : List Gp} (h : Dr T w base g v L) (hx : Ext w w') : Dr T w' base g v L := ⟨hx.obj h.obj, h.low, h.row.ext hx, h.few, h.srt, h.ok⟩
theorem Dr.chg {T : TypeId} {S : Nat → Prop} {w w' : World} {base g : Nat} {v : Value} {L : List Gp} (h : Dr T w base g v L) (hc : Chg S w w') (h1 : ¬ S g) (h2 : ∀ k, v.ownBlock = some k → ¬ S k) : Dr T w' base g v L := ⟨hc.obj h.obj h1, h.low, CRow.chg h.row hc h2, h.few, h.srt, h.ok⟩

theorem find_any {w : World} {base g : Nat} {v : Value} {L : List Gp} (h : Dr 57 w base g v L) (k : ByteArray) :
    Calls Try.prog 23 #[.pointer (some ⟨g, 0, none⟩), .string k] w (RetX (.tuple #[.int .i64 (posN L k), .bool (hasN L k)]) w) := by
  obtain ⟨c0, f0⟩ := h.cell
  obtain ⟨A, c, rfl, _⟩ := h.row.form
  have T1 := fun w' (hx : Ext w w') => search_any w' A c L k (h.row.rd.ext hx) h.srt (Nat.le_trans h.few (by decide))
  generalize posN L k = pos at *
  generalize hasN L k = has at *
  clear h
  go_enter Try.func23, Try.ntmps23
  go_wp2_with fail
  refine (T1 _ (Ext.refl _)).mono ?_
  rintro e w' ⟨rfl, hx⟩
  go_wp2_with fail
  go_ret2
  exact ⟨rfl, hx⟩
/-- what Get tells -/
def gp0 : Gp := ⟨⟨#[]⟩, ⟨#[]⟩, 0, 0⟩
def getG (L : List Gp) (k : ByteArray) : Gp := if hasN L k then L.getD (posN L k) gp0 else gp0
theorem hasN_at {L : List Gp} {k : ByteArray} (h : hasN L k = true) : ∃ p, L[posN L k]? = some p ∧ p.name = k := by
  unfold hasN at h
  cases hp : L[posN L k]? with
  | none => rw [hp] at h; cases h
  | some p => rw [hp] at h; exact ⟨p, rfl, (eqN_iff _ _).1 h⟩
set_option maxRecDepth 100000 in
set_option maxHeartbeats 1000000 in
theorem get_any {w : World} {base g : Nat} {v : Value} {L : List Gp} (h : Dr 57 w base g v L) (k : ByteArray) :
    Calls Try.prog 9 #[.pointer (some ⟨g, 0, none⟩), .string k] w (RetX (.tuple #[(getG L k).val, .bool (hasN L k)]) w) := by
  obtain ⟨c0, f0⟩ := h.cell
  have T1 := fun w' (hx : Ext w w') => find_any (h.ext hx) k
  have HX := Lib.hid ((Ext.refl w).alloc (.cells #[.string ⟨#[]⟩, .string ⟨#[]⟩, .int .i64 0, .int .u32 0] 36))
  have HO := Lib.hid (heap_alloc_new w (.cells #[.string ⟨#[]⟩, .string ⟨#[]⟩, .int .i64 0, .int .u32 0] 36))
  cases hh : hasN L k with
  | false =>
    have e : getG L k = gp0 := by unfold getG; rw [hh]; rfl
    rw [e]
    rw [hh] at T1
    clear e hh
    obtain ⟨A, c, rfl, _⟩ := h.row.form
    clear h
    show Calls _ _ _ _ (RetX (.tuple #[.agg #[.string ⟨#[]⟩, .string ⟨#[]⟩, .int .i64 0, .int .u32 0], .bool false]) w)
    generalize posN L k = pos at *
    go_enter Try.func9, Try.ntmps9
    go_wp2_with fail
    have ha := HX.out
    have ho := HO.out
    revert ha ho
    generalize World.alloc _ _ = w0
    generalize hbx : w.heap.size = bx
    intro ha ho
    have HB := Lib.hid (And.intro ha (And.intro ho (Nat.le_of_eq hbx)))
    have T2 := T1 w0 ha
    clear hbx ha ho T1
    refine T2.mono ?_
    rintro e w1 ⟨rfl, hx⟩
    have HY := Lib.hid hx
    have o1 := hx.obj HB.out.2.1
    have d0 : w1.cell? ⟨bx, 0, none⟩ = some (.string ⟨#[]⟩) := (cell_of_row w1 bx 0 _ _ _ o1).trans rfl
    have d1 : w1.cell? ⟨bx, 1, none⟩ = some (.string ⟨#[]⟩) := (cell_of_row w1 bx 1 _ _ _ o1).trans rfl
    have d2 : w1.cell? ⟨bx, 2, none⟩ = some (.int .i64 0) := (cell_of_row w1 bx 2 _ _ _ o1).trans rfl
    have d3 : w1.cell? ⟨bx, 3, none⟩ = some (.int .u32 0) := (cell_of_row w1 bx 3 _ _ _ o1).trans rfl
    have e0 : w1.frozen? ⟨bx, 0, none⟩ = false := by simp [World.frozen?, o1]
    have e1 : w1.frozen? ⟨bx, 1, none⟩ = false := by simp [World.frozen?, o1]
    have e2 : w1.frozen? ⟨bx, 2, none⟩ = false := by simp [World.frozen?, o1]
    have e3 : w1.frozen? ⟨bx, 3, none⟩ = false := by simp [World.frozen?, o1]
    have HO1 := Lib.hid o1
    clear hx o1
    go_wp2_with fail
    have q1 := (put2' (i := 0) (x := .string ⟨#[]⟩) HO1.out)
    have q2 := (put2' (i := 1) (x := .string ⟨#[]⟩) q1)
    have q3 := (put2' (i := 2) (x := .int .i64 0) q2)
    have q4 := (put2' (i := 3) (x := .int .u32 0) q3)
    have z0 := (cell_of_row _ bx 0 _ _ _ q4)
    have z1 := (cell_of_row _ bx 1 _ _ _ q4)
    have z2 := (cell_of_row _ bx 2 _ _ _ q4)
    have z3 := (cell_of_row _ bx 3 _ _ _ q4)
    refine bodyPost_ret (v := .tuple #[.agg #[.string ⟨#[]⟩, .string ⟨#[]⟩, .int .i64 0, .int .u32 0], .bool false]) (by simp [results, Try.results9, go_sem, z0, z1, z2, z3]; try rfl) rfl ⟨rfl, ?_⟩
    exact ((((HB.out.1.trans HY.out).put HB.out.2.2).put HB.out.2.2).put HB.out.2.2).put HB.out.2.2
  | true =>
    obtain ⟨p, hp, hpk⟩ := hasN_at hh
    have e : getG L k = p := by unfold getG; rw [hh, List.getD_eq_getElem?_getD, hp]; rfl
    rw [e]
    rw [hh] at T1
    clear e hh
    obtain ⟨A, c, rfl, _⟩ := h.row.form
    have hlt := (List.getElem?_eq_some_iff.1 hp).1
    obtain ⟨b, rfl, hat⟩ := h.row.rd (by omega)
    obtain ⟨a0, a1, a2, a3⟩ := hat _ p hp
    have HA := Lib.hid (And.intro a0 (And.intro a1 (And.intro a2 (And.intro a3 c0))))
    obtain ⟨nm, cl, st, ve⟩ := p
    clear h hat hp hpk a0 a1 a2 a3
    show Calls _ _ _ _ (RetX (.tuple #[.agg #[.string nm, .string cl, .int .i64 st, .int .u32 ve], .bool true]) w)
    generalize posN L k = pos at *
    go_enter Try.func9, Try.ntmps9
    go_wp2_with fail
    have ha := HX.out
    have ho := HO.out
    revert ha ho
    generalize World.alloc _ _ = w0
    generalize hbx : w.heap.size = bx
    intro ha ho
    have HB := Lib.hid (And.intro ha (And.intro ho (Nat.le_of_eq hbx)))
    have T2 := T1 w0 ha
    clear hbx ha ho T1
    refine T2.mono ?_
    rintro e w1 ⟨rfl, hx⟩
    have HY := Lib.hid hx
    have o1 := hx.obj HB.out.2.1
    have d0 : w1.cell? ⟨bx, 0, none⟩ = some (.string ⟨#[]⟩) := (cell_of_row w1 bx 0 _ _ _ o1).trans rfl
    have d1 : w1.cell? ⟨bx, 1, none⟩ = some (.string ⟨#[]⟩) := (cell_of_row w1 bx 1 _ _ _ o1).trans rfl
    have d2 : w1.cell? ⟨bx, 2, none⟩ = some (.int .i64 0) := (cell_of_row w1 bx 2 _ _ _ o1).trans rfl
    have d3 : w1.cell? ⟨bx, 3, none⟩ = some (.int .u32 0) := (cell_of_row w1 bx 3 _ _ _ o1).trans rfl
    have e0 : w1.frozen? ⟨bx, 0, none⟩ = false := by simp [World.frozen?, o1]
    have e1 : w1.frozen? ⟨bx, 1, none⟩ = false := by simp [World.frozen?, o1]
    have e2 : w1.frozen? ⟨bx, 2, none⟩ = false := by simp [World.frozen?, o1]
    have e3 : w1.frozen? ⟨bx, 3, none⟩ = false := by simp [World.frozen?, o1]
    have hx2 := HB.out.1.trans hx
    obtain ⟨a0, a1, a2, a3, c0'⟩ := HA.out
    have b0 := hx2.cell a0
    have b1 := hx2.cell a1
    have b2 := hx2.cell a2
    have b3 := hx2.cell a3
    have b4 := hx2.cell c0'
    have HO1 := Lib.hid o1
    clear hx o1 hx2 a0 a1 a2 a3 c0'
    go_wp2_with fail
    have q1 := (put2' (i := 0) (x := .string nm) HO1.out)
    have q2 := (put2' (i := 1) (x := .string cl) q1)
    have q3 := (put2' (i := 2) (x := .int .i64 st) q2)
    have q4 := (put2' (i := 3) (x := .int .u32 ve) q3)
    have z0 := (cell_of_row _ bx 0 _ _ _ q4)
    have z1 := (cell_of_row _ bx 1 _ _ _ q4)
    have z2 := (cell_of_row _ bx 2 _ _ _ q4)
    have z3 := (cell_of_row _ bx 3 _ _ _ q4)
    refine bodyPost_ret (v := .tuple #[.agg #[.string nm, .string cl, .int .i64 st, .int .u32 ve], .bool true]) (by simp [results, Try.results9, go_sem, z0, z1, z2, z3]; try rfl) rfl ⟨rfl, ?_⟩
    exact ((((HB.out.1.trans HY.out).put HB.out.2.2).put HB.out.2.2).put HB.out.2.2).put HB.out.2.2
end Go.Proofs.Ytdcbpnkcpglhhaa
