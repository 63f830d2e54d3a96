/- The net: packets, rows of packets, what the small calls come to. -/
import Derived.Test.YtbeoickdcbnjgaaNetDel
import Derived.Handy
import Derived.Deep.RegionWith
import Derived.Deep.QuietTactic
import Derived.BigQuiet
namespace Go.Proofs.Ytbeoickdcbnjgaa
open Go.RowKit
set_option linter.unusedVariables false
set_option linter.unusedSimpArgs false
attribute [local go_sem] stepR givesR fillE Ext.refl

/-- a packet as it lies, and what its bytes are -/
structure Pk where
  f : Int
  t : Int
  B : Option Addr
  n : Nat
  c : Nat
  xs : List Int
def Pk.cells (p : Pk) : List Value := [.int .i64 p.f, .int .i64 p.t, .slice p.B p.n p.c]
def Pk.val (p : Pk) : Value := .agg #[.int .i64 p.f, .int .i64 p.t, .slice p.B p.n p.c]
/-- what it says -/
def Pk.says (p : Pk) : Int × Int × List Int := (p.f, p.t, p.xs)
def pcells (ps : List Pk) : List Value := ps.flatMap Pk.cells
theorem pcells_length (ps : List Pk) : (pcells ps).length = ps.length * 3 := by
  induction ps with
  | nil => rfl
  | cons p ps ih => simp only [pcells, List.flatMap_cons, List.length_append, List.length_cons] at *; rw [ih]; simp [Pk.cells]; omega
theorem pcells_append (ps qs : List Pk) : pcells (ps ++ qs) = pcells ps ++ pcells qs := by simp [pcells]
theorem pcells_take : ∀ (ps : List Pk) (k : Nat), (pcells ps).take (k * 3) = pcells (ps.take k)
  | [], k => by simp [pcells]
  | p :: ps, 0 => by simp [pcells]
  | p :: ps, k + 1 => by
    have e : (k + 1) * 3 = 3 + k * 3 := by omega
    have ih := pcells_take ps k
    simp only [pcells, List.flatMap_cons, List.take_succ_cons] at *
    rw [e, List.take_append, List.take_of_length_le (by simp [Pk.cells]), ← ih]
    congr 2
    simp [Pk.cells]
theorem pcells_drop (ps : List Pk) (k : Nat) : (pcells ps).drop (k * 3) = pcells (ps.drop k) := by
  have h := List.take_append_drop k ps
  have h2 : pcells ps = pcells (ps.take k) ++ pcells (ps.drop k) := by rw [← pcells_append, h]
  by_cases hk : k ≤ ps.length
  · rw [h2, List.drop_append, pcells_length, List.length_take, Nat.min_eq_left hk, Nat.sub_self]
    rw [List.drop_of_length_le (by rw [pcells_length, List.length_take, Nat.min_eq_left hk]; exact Nat.le_refl _)]
    simp
  · rw [List.drop_of_length_le (by rw [pcells_length]; omega), List.drop_of_length_le (by omega)]
    rfl
theorem pcells_at : ∀ (ps : List Pk) (j q : Nat) (p : Pk), ps[j]? = some p → q < 3 → (pcells ps)[j * 3 + q]? = p.cells[q]?
  | [], j, q, p, h, _ => by simp at h
  | p' :: ps, 0, q, p, h, hq => by
    simp at h
    subst h
    simp only [pcells, List.flatMap_cons, Nat.zero_mul, Nat.zero_add]
    rw [List.getElem?_append_left (by simp [Pk.cells]; omega)]
  | p' :: ps, j + 1, q, p, h, hq => by
    have e : (j + 1) * 3 + q = 3 + (j * 3 + q) := by omega
    simp only [pcells, List.flatMap_cons]
    rw [e, List.getElem?_append_right (by simp [Pk.cells])]
    have e2 : 3 + (j * 3 + q) - p'.cells.length = j * 3 + q := by simp [Pk.cells]
    rw [e2]
    exact pcells_at ps j q p (by simpa using h) hq
theorem pcells_one (ps : List Pk) : ∀ u ∈ pcells ps, u.oneCell' = true := by
  intro u hu
  simp only [pcells, List.mem_flatMap] at hu
  obtain ⟨p, _, hu⟩ := hu
  simp only [Pk.cells, List.mem_cons, List.not_mem_nil, or_false] at hu
  rcases hu with rfl | rfl | rfl <;> rfl

/-- a packet that is read -/
def PkOk (w : World) (S : Nat → Prop) (p : Pk) : Prop := Bt w S p.B p.n p.xs ∧ p.n ≤ p.c ∧ p.n ≤ 1000
theorem PkOk.chg {T S S' : Nat → Prop} {w w' : World} {p : Pk} (h : PkOk w S p) (hc : Chg T w w') (hT : ∀ k, k < w.heap.size → T k → S k) (hS : ∀ k, k < w.heap.size → S' k → S k) : PkOk w' S' p := ⟨h.1.chg hc hT hS, h.2⟩
theorem PkOk.ext {S : Nat → Prop} {w w' : World} {p : Pk} (h : PkOk w S p) (hx : Ext w w') : PkOk w' S p := ⟨h.1.ext hx, h.2⟩
/-- a packet's three cells -/
def PAt (w : World) (g o : Nat) (p : Pk) : Prop := w.cell? ⟨g, o, none⟩ = some (.int .i64 p.f) ∧ w.cell? ⟨g, o + 1, none⟩ = some (.int .i64 p.t) ∧ w.cell? ⟨g, o + 2, none⟩ = some (.slice p.B p.n p.c)
theorem PAt.ext {w w' : World} {g o : Nat} {p : Pk} (h : PAt w g o p) (hx : Ext w w') : PAt w' g o p := ⟨hx.cell h.1, hx.cell h.2.1, hx.cell h.2.2⟩
/-- a row of packets of one's own -/
def PRow (w : World) (base : Nat) (v : Value) (ps : List Pk) : Prop := CRow 33 3 w base v ps.length (pcells ps)
theorem PRow.at {w : World} {base : Nat} {A : Option Addr} {n c : Nat} {ps : List Pk} (h : PRow w base (.slice A n c) ps) {j : Nat} {p : Pk} (hj : ps[j]? = some p) : ∃ g, A = some ⟨g, 0, none⟩ ∧ PAt w g (j * 3) p := by
  have hlt := (List.getElem?_eq_some_iff.1 hj).1
  have hn : n = ps.length := by
    rcases h with ⟨h', h0, _⟩ | ⟨_, _, _, h', _⟩
    · omega
    · injection h' with h1 h2 h3
  obtain ⟨g, rfl, _, _, _, hc⟩ := CRow.cell h (by omega)
  have hk : ∀ q, q < 3 → j * 3 + q < n * 3 := fun q hq => by rw [hn]; omega
  refine ⟨g, rfl, ?_, ?_, ?_⟩
  · have := (hc (j * 3 + 0) (hk 0 (by omega))).1
    rw [pcells_at ps j 0 p hj (by omega)] at this
    simpa [Pk.cells] using this
  · have := (hc (j * 3 + 1) (hk 1 (by omega))).1
    rw [pcells_at ps j 1 p hj (by omega)] at this
    simpa [Pk.cells] using this
  · have := (hc (j * 3 + 2) (hk 2 (by omega))).1
    rw [pcells_at ps j 2 p hj (by omega)] at this
    simpa [Pk.cells] using this

/-- the blocks that may be written: those of S, and v's own -/
def With (S : Nat → Prop) (v : Value) (k : Nat) : Prop := S k ∨ some k = v.ownBlock
/-- the net of the program behind a pointer -/
structure NetP (w : World) (S : Nat → Prop) (base g : Nat) (v : Value) (m : Nat) (ps : List Pk) : Prop where
  obj : w.heap[g]? = some (.cells #[v, .int .u64 m] 47 (0, 0))
  low : base ≤ g
  mem : S g
  row : PRow w base v ps
  ok : ∀ p ∈ ps, PkOk w (With S v) p
  few : ps.length ≤ 1000
  mask : m < 18446744073709551616
  sub : ∀ k, S k → k < w.heap.size
theorem NetP.cells {w : World} {S : Nat → Prop} {base g : Nat} {v : Value} {m : Nat} {ps : List Pk} (h : NetP w S base g v m ps) :
    w.cell? ⟨g, 0, none⟩ = some v ∧ w.cell? ⟨g, 1, none⟩ = some (.int .u64 m) ∧ w.frozen? ⟨g, 0, none⟩ = false ∧ w.frozen? ⟨g, 1, none⟩ = false := by
  refine ⟨?_, ?_, ?_, ?_⟩
  · rw [cell_of_row w g 0 _ _ (0, 0) h.obj]; rfl
  · rw [cell_of_row w g 1 _ _ (0, 0) h.obj]; rfl
  · simp [World.frozen?, h.obj]
  · simp [World.frozen?, h.obj]
theorem NetP.lt {w : World} {S : Nat → Prop} {base g : Nat} {v : Value} {m : Nat} {ps : List Pk} (h : NetP w S base g v m ps) : g < w.heap.size := (Array.getElem?_eq_some_iff.1 h.obj).1
theorem NetP.ne {w : World} {S : Nat → Prop} {base g : Nat} {v : Value} {m : Nat} {ps : List Pk} (h : NetP w S base g v m ps) : v.ownBlock ≠ some g := CRow.ne h.row h.obj (by decide)
theorem NetP.ext {w w' : World} {S : Nat → Prop} {base g : Nat} {v : Value} {m : Nat} {ps : List Pk} (h : NetP w S base g v m ps) (hx : Ext w w') : NetP w' S base g v m ps :=
  ⟨hx.obj h.obj, h.low, h.mem, CRow.ext h.row hx, fun p hp => (h.ok p hp).ext hx, h.few, h.mask, fun k hk => Nat.lt_of_lt_of_le (h.sub k hk) hx.size_le'⟩
theorem put2 {T : TypeId} {w : World} {g : Nat} {u v x y : Value} (h : w.heap[g]? = some (.cells #[u, x] T (0, 0))) : (w.setCell ⟨g, 0, none⟩ v).heap[g]? = some (.cells #[v, x] T (0, 0)) ∧ (w.setCell ⟨g, 1, none⟩ y).heap[g]? = some (.cells #[u, y] T (0, 0)) := by
  constructor <;> (simp only [World.setCell, Array.getElem?_modify, if_true, h]; rfl)

def RetS (v : Value) (w : World) (e : Ending) (w' : World) : Prop := e = .returned v ∧ w = w'
def RetX (v : Value) (w : World) (e : Ending) (w' : World) : Prop := e = .returned v ∧ Ext w w'

theorem new_any (w : World) : Calls Try.prog 5 #[] w (fun e w' => e = .returned (.pointer (some ⟨w.heap.size, 0, none⟩)) ∧ w' = w.alloc (.cells #[.slice none 0 0, .int .u64 0] 47)) := by
  go_enter Try.func5, Try.ntmps5
  go_wp2
  go_ret
  exact ⟨rfl, rfl⟩
theorem new_net {w : World} {S : Nat → Prop} {base g : Nat} (ho : w.heap[g]? = some (.cells #[.slice none 0 0, .int .u64 0] 47 (0, 0))) (hb : base ≤ g) (hS : S g) (hs : ∀ k, S k → k < w.heap.size) : NetP w S base g (.slice none 0 0) 0 [] :=
  ⟨ho, hb, hS, CRow.nil _ _, by simp, by simp, by decide, hs⟩

/-- is there an i-th? -/
def inB (i : Int) (n : Nat) : Bool := decide (0 ≤ i) && decide (i < n)
theorem has_any {w : World} {S : Nat → Prop} {base g : Nat} {v : Value} {m : Nat} {ps : List Pk} (h : NetP w S base g v m ps) (i : Int) : Calls Try.prog 17 #[.pointer (some ⟨g, 0, none⟩), .int .i64 i] w (RetS (.bool (inB i ps.length)) w) := by
  obtain ⟨c0, c1, f0, f1⟩ := h.cells
  obtain ⟨A, c, rfl, _⟩ := CRow.form h.row
  have H := Lib.hid h
  clear h
  rcases Int.lt_or_le i 0 with hi | hi
  · have e : inB i ps.length = false := by unfold inB; simp; omega
    rw [e]
    go_enter Try.func17, Try.ntmps17
    go_wp2
    go_ret
    exact ⟨rfl, rfl⟩
  · have e : inB i ps.length = decide (i < (ps.length : Int)) := by unfold inB; simp [hi]
    rw [e]
    clear e
    go_enter Try.func17, Try.ntmps17
    go_wp2
    go_ret
    exact ⟨rfl, rfl⟩
theorem len_any {w : World} {S : Nat → Prop} {base g : Nat} {v : Value} {m : Nat} {ps : List Pk} (h : NetP w S base g v m ps) : Calls Try.prog 14 #[.pointer (some ⟨g, 0, none⟩)] w (RetS (.int .i64 ps.length) w) := by
  obtain ⟨c0, c1, f0, f1⟩ := h.cells
  obtain ⟨A, c, rfl, _⟩ := CRow.form h.row
  have H := Lib.hid h
  clear h
  go_enter Try.func14, Try.ntmps14
  go_wp2
  go_ret
  exact ⟨rfl, rfl⟩
/-- a bit of the mask -/
def bitB (m : Nat) (i : Nat) : Bool := bits BinOp.and IntKind.u64 ((m : Int) / 2 ^ i) 1 == 1
def sideB (m : Nat) (a : Int) : Bool := if 100 ≤ a ∧ a < 132 then bitB m (a - 68).toNat else if 0 ≤ a ∧ a < 32 then bitB m a.toNat else false
theorem side_any {w : World} {S : Nat → Prop} {base g : Nat} {v : Value} {m : Nat} {ps : List Pk} (h : NetP w S base g v m ps) (a : Int) (ha : IntKind.i64.min ≤ a ∧ a ≤ IntKind.i64.max) : Calls Try.prog 21 #[.pointer (some ⟨g, 0, none⟩), .int .i64 a] w (RetS (.bool (sideB m a)) w) := by
  obtain ⟨c0, c1, f0, f1⟩ := h.cells
  have H := Lib.hid h
  clear h
  by_cases h1 : 100 ≤ a ∧ a < 132
  · obtain ⟨i, hi⟩ : ∃ i : Nat, a - 68 = (i : Int) := ⟨(a - 68).toNat, by omega⟩
    have e : sideB m a = bitB m i := by unfold sideB; rw [if_pos h1, hi]; rfl
    rw [e]
    obtain rfl : a = (i : Int) + 68 := by omega
    have e2 : (32 : Int) + ((i : Int) + 68) - 100 = (i : Int) := by omega
    clear hi e
    obtain ⟨h1, h2⟩ := h1
    go_enter Try.func21, Try.ntmps21
    go_wp2
    go_ret
    exact ⟨rfl, rfl⟩
  · by_cases h2 : 0 ≤ a ∧ a < 32
    · obtain ⟨i, rfl⟩ := Int.eq_ofNat_of_zero_le h2.1
      have e : sideB m (i : Int) = bitB m i := by unfold sideB; rw [if_neg h1, if_pos h2]; rfl
      rw [e]
      have h3 : decide (100 ≤ (i : Int)) = false := by simp; omega
      have h4 : ((i : Int) < 0) = False := by simp
      clear h1 e
      go_enter Try.func21, Try.ntmps21
      go_wp2
      go_ret
      exact ⟨rfl, rfl⟩
    · have e : sideB m a = false := by unfold sideB; rw [if_neg h1, if_neg h2]
      rw [e]
      by_cases h3 : a < 0
      · have h4 : decide (100 ≤ a) = false := by simp; omega
        go_enter Try.func21, Try.ntmps21
        go_wp2
        all_goals
          go_ret
          exact ⟨rfl, rfl⟩
      · have h5 : decide (a < 0) = false := by simp; omega
        have h6 : 32 ≤ a := by omega
        by_cases h4 : a < 100
        · have h7 : decide (100 ≤ a) = false := by simp; omega
          go_enter Try.func21, Try.ntmps21
          go_wp2
          all_goals
            go_ret
            exact ⟨rfl, rfl⟩
        · have h7 : decide (a < 132) = false := by simp; omega
          have h8 : 100 ≤ a := by omega
          go_enter Try.func21, Try.ntmps21
          go_wp2
          all_goals
            go_ret
            exact ⟨rfl, rfl⟩
def joinB (m : Nat) (a b : Int) : Bool := sideB m a == sideB m b
theorem joined_any {w : World} {S : Nat → Prop} {base g : Nat} {v : Value} {m : Nat} {ps : List Pk} (h : NetP w S base g v m ps) (a b : Int) (ha : IntKind.i64.min ≤ a ∧ a ≤ IntKind.i64.max) (hb : IntKind.i64.min ≤ b ∧ b ≤ IntKind.i64.max) : Calls Try.prog 15 #[.pointer (some ⟨g, 0, none⟩), .int .i64 a, .int .i64 b] w (RetS (.bool (joinB m a b)) w) := by
  obtain ⟨x, hx⟩ : ∃ x, sideB m a = x := ⟨_, rfl⟩
  obtain ⟨y, hy⟩ : ∃ y, sideB m b = y := ⟨_, rfl⟩
  have A1 := side_any h a ha
  have A2 := side_any h b hb
  unfold joinB
  rw [hx] at A1 ⊢
  rw [hy] at A2 ⊢
  clear hx hy h ha hb
  go_enter Try.func15, Try.ntmps15
  go_wp2_with fail
  refine A1.mono ?_; rintro e w1 ⟨rfl, rfl⟩
  go_wp2_with fail
  refine A2.mono ?_; rintro e w1 ⟨rfl, rfl⟩
  go_wp2_with fail
  go_ret
  exact ⟨rfl, rfl⟩
end Go.Proofs.Ytbeoickdcbnjgaa
