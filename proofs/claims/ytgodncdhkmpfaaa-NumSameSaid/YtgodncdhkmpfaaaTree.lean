/- Values that came in: trees; Deep, Size, Light, Lights come back with something. -/
import Derived.Test.YtgodncdhkmpfaaaNumC
import Derived.Lib.SmallJoins
import Derived.Deep.Slices
import Derived.Deep.Strs
namespace Go.Proofs.Ytgodncdhkmpfaaa
open Go.ChangeShapes Go.WideShapes Go.ChangeAt Go.RowKit Go.Deep
set_option linter.unusedVariables false
set_option linter.unusedSimpArgs false

structure Val where
  k : Int
  i : Int
  f : Nat
  s : ByteArray
  A : Option Addr
  l : Nat
  c : Nat
/-- a value's five cells -/
structure At (w : World) (b o : Nat) (x : Val) : Prop where
  c0 : w.cell? ⟨b, o, none⟩ = some (.int .i64 x.k)
  c1 : w.cell? ⟨b, o + 1, none⟩ = some (.int .i64 x.i)
  c2 : w.cell? ⟨b, o + 2, none⟩ = some (.float .f64 x.f)
  c3 : w.cell? ⟨b, o + 3, none⟩ = some (.string x.s)
  c4 : w.cell? ⟨b, o + 4, none⟩ = some (.slice x.A x.l x.c)
theorem At.ext {w w' : World} {b o : Nat} {x : Val} (h : At w b o x) (hx : Ext w w') : At w' b o x := ⟨hx.cell h.c0, hx.cell h.c1, hx.cell h.c2, hx.cell h.c3, hx.cell h.c4⟩
def Tree (w : World) : Nat → Val → Prop
  | 0, _ => False
  | n + 1, x => inR x.k ∧ inR x.i ∧ x.f < 18446744073709551616 ∧ x.s.size ≤ maxLen ∧ x.l ≤ x.c ∧ x.c ≤ maxLen ∧
      (0 < x.l → ∃ b off, x.A = some ⟨b, off, none⟩ ∧ ∀ j, j < x.l → ∃ y, At w b (off + j * 5) y ∧ Tree w n y)
theorem Tree.ext {w w' : World} (hx : Ext w w') : ∀ n x, Tree w n x → Tree w' n x
  | 0, _, h => h
  | n + 1, x, ⟨h1, h2, h3, h4, h5, h6, h⟩ => ⟨h1, h2, h3, h4, h5, h6, fun h0 => by
      obtain ⟨b, off, e, hj⟩ := h h0
      exact ⟨b, off, e, fun j hl => by
        obtain ⟨y, a, t⟩ := hj j hl
        exact ⟨y, a.ext hx, Tree.ext hx n y t⟩⟩⟩
/-- a row of values -/
def Vals (w : World) (n : Nat) (A : Option Addr) (l c : Nat) : Prop := l ≤ c ∧ c ≤ maxLen ∧ (0 < l → ∃ b off, A = some ⟨b, off, none⟩ ∧ ∀ j, j < l → ∃ y, At w b (off + j * 5) y ∧ Tree w n y)

theorem tcells31 : Try.prog.cellsOf 31 = 5 := by kernel_rfl
theorem tcells3 : Try.prog.cellsOf 3 = 1 := by kernel_rfl
theorem tcells2 : Try.prog.cellsOf 2 = 1 := by kernel_rfl
theorem tcells22 : Try.prog.cellsOf 22 = 1 := by kernel_rfl
theorem tcells9 : Try.prog.cellsOf 9 = 1 := by kernel_rfl
theorem tcells28 : Try.prog.cellsOf 28 = 1 := by kernel_rfl

section
variable {H : Type} {enc : TypeId × Value → H} {w : World} {base : Nat} {held : Bool}

theorem trod_struct5 {P : Program} {spare : Nat → Bool} {t : TypeId} {f0 f1 f2 f3 f4 : Field} {fuel : Nat} {cs : List Value} {x : DataW H × List MemPlace} (ht : P.underlying t = some (.struct #[f0, f1, f2, f3, f4])) (h : DataW.trod enc P w base spare held fuel t cs = some x) :
    ∃ y0 y1 y2 y3 y4 n, fuel = n + 1 ∧ cs.length = P.cellsOf t ∧ DataW.trod enc P w base spare held n f0.type ((cs.drop f0.offset).take (P.cellsOf f0.type)) = some y0 ∧
      DataW.trod enc P w base spare held n f1.type ((cs.drop f1.offset).take (P.cellsOf f1.type)) = some y1 ∧ DataW.trod enc P w base spare held n f2.type ((cs.drop f2.offset).take (P.cellsOf f2.type)) = some y2 ∧
      DataW.trod enc P w base spare held n f3.type ((cs.drop f3.offset).take (P.cellsOf f3.type)) = some y3 ∧ DataW.trod enc P w base spare held n f4.type ((cs.drop f4.offset).take (P.cellsOf f4.type)) = some y4 := by
  obtain ⟨xs, n, e, rfl, hl, hlen, hf⟩ := DataW.trod_struct ht h
  match xs, hlen with
  | [y0, y1, y2, y3, y4], _ => exact ⟨y0, y1, y2, y3, y4, n, e, hl, by simpa using hf 0 f0 rfl, by simpa using hf 1 f1 rfl, by simpa using hf 2 f2 rfl, by simpa using hf 3 f3 rfl, by simpa using hf 4 f4 rfl⟩
end
theorem Tree.up {w : World} : ∀ n x, Tree w n x → Tree w (n + 1) x
  | 0, _, h => h.elim
  | n + 1, x, ⟨h1, h2, h3, h4, h5, h6, h⟩ => ⟨h1, h2, h3, h4, h5, h6, fun h0 => by
      obtain ⟨b, off, e, hj⟩ := h h0
      exact ⟨b, off, e, fun j hl => by
        obtain ⟨y, a, t⟩ := hj j hl
        exact ⟨y, a, Tree.up n y t⟩⟩⟩
theorem wf_inR' {n : Int} (h : (Lit.int .i64 n).wf = true) : inR n := by
  simp only [Lit.wf, IntKind.min, IntKind.max, IntKind.signed, IntKind.bits, Bool.and_eq_true, decide_eq_true_eq, if_true] at h
  unfold inR
  omega
def Val.cells (x : Val) : List Value := [.int .i64 x.k, .int .i64 x.i, .float .f64 x.f, .string x.s, .slice x.A x.l x.c]
section
variable {H : Type} {enc : TypeId × Value → H} {w : World} {base : Nat} {held : Bool}
/-- a row of values that came, from what each element is -/
theorem row_came {m : Nat} (ih : ∀ cs x, DataW.trod enc Try.prog w base (fun _ => true) held m 31 cs = some x → ∃ y : Val, cs = y.cells ∧ Tree w m y) {cs : List Value} {x : DataW H × List MemPlace} (h : DataW.trod enc Try.prog w base (fun _ => true) held (m + 1) 28 cs = some x) :
    ∃ A l c, cs = [.slice A l c] ∧ Vals w m A l c := by
  rcases DataW.trod_slice Try.underlying28 h with ⟨hcs, _⟩ | ⟨a, len, cap, elems, rest, n, en, rfl, _, _, hl, hm, hlen, hel, _⟩
  · subst hcs
    exact ⟨none, 0, 0, rfl, Nat.le_refl _, Nat.zero_le _, fun h => absurd h (Nat.lt_irrefl 0)⟩
  · simp only [Nat.add_right_cancel_iff] at en
    subst en
    refine ⟨some a, len, cap, rfl, hl, hm, fun h0 => ?_⟩
    obtain ⟨b, off, spot⟩ := a
    have hs : spot = none := by
      have hb := hel 0 h0
      rw [List.getElem?_eq_getElem (by omega)] at hb
      rw [tcells31] at hb
      obtain ⟨cs', hc, _⟩ := Option.bind_eq_some_iff.1 hb
      obtain ⟨_, hlen', hcell⟩ := World.cells?_some hc
      have g0 := hcell 0 (by omega)
      rw [List.getElem?_eq_getElem (by omega)] at g0
      have := World.cell?_spot g0
      simpa [Addr.add] using this
    subst hs
    have key : ∀ j, j < len → ∃ y, At w b (off + j * 5) y ∧ Tree w m y := by
      intro j hj
      have hb := hel j hj
      rw [List.getElem?_eq_getElem (by omega)] at hb
      rw [tcells31] at hb
      obtain ⟨cs', hc, ht⟩ := Option.bind_eq_some_iff.1 hb
      obtain ⟨y, rfl, hy⟩ := ih _ _ ht
      obtain ⟨_, hlen', hcell⟩ := World.cells?_some hc
      have ea : ∀ q : Nat, ((⟨b, off, none⟩ : Addr).add (j * 5)).add q = ⟨b, off + j * 5 + q, none⟩ := fun q => by rw [Addr.add_lit, Addr.add_lit]
      have g0 := hcell 0 (by omega)
      have g1 := hcell 1 (by omega)
      have g2 := hcell 2 (by omega)
      have g3 := hcell 3 (by omega)
      have g4 := hcell 4 (by omega)
      rw [ea] at g0 g1 g2 g3 g4
      exact ⟨y, ⟨by simpa [Val.cells] using g0, by simpa [Val.cells] using g1, by simpa [Val.cells] using g2, by simpa [Val.cells] using g3, by simpa [Val.cells] using g4⟩, hy⟩
    exact ⟨b, off, rfl, key⟩
theorem tree_came : ∀ (fuel : Nat) (cs : List Value) (x : DataW H × List MemPlace), DataW.trod enc Try.prog w base (fun _ => true) held fuel 31 cs = some x → ∃ y : Val, cs = y.cells ∧ Tree w fuel y
  | 0, _, _, h => by
    obtain ⟨_, _, _, _, _, n, e, _⟩ := trod_struct5 Try.underlying31 h
    cases e
  | 1, _, _, h => by
    obtain ⟨_, _, _, _, _, n, e, _, _, _, _, _, h4⟩ := trod_struct5 Try.underlying31 h
    obtain rfl : n = 0 := by omega
    rcases DataW.trod_slice Try.underlying28 h4 with ⟨_, _⟩ | ⟨_, _, _, _, _, n, en, _⟩
    · simp [DataW.trod] at h4
    · cases en
  | m + 2, cs, _, h => by
    obtain ⟨_, _, _, _, _, n, e, hl, h0, h1, h2, h3, h4⟩ := trod_struct5 Try.underlying31 h
    obtain rfl : n = m + 1 := by omega
    rw [tcells31] at hl
    match cs, hl with
    | [v0, v1, v2, v3, v4], _ =>
      simp only [tcells3, tcells2, tcells22, tcells9, tcells28, List.drop_zero, List.drop_succ_cons, List.take_succ_cons, List.take_zero] at h0 h1 h2 h3 h4
      obtain ⟨k, e0, _, k0⟩ := DataW.trod_int Try.underlying3 h0
      obtain ⟨i, e1, _, k1⟩ := DataW.trod_int Try.underlying2 h1
      obtain ⟨f, e2, k2⟩ : ∃ f, v2 = .float .f64 f ∧ f < 18446744073709551616 := by
        clear h0 h1 h3 h4 tree_came
        cases v2 <;> simp [DataW.trod, Try.underlying22] at h2
        rename_i kk f _ _
        obtain ⟨⟨rfl, hw⟩, _⟩ := h2
        exact ⟨_, rfl, by simpa [Lit.wf] using hw⟩
      obtain ⟨s, e3, _, k3⟩ := DataW.trod_string Try.underlying9 h3
      obtain ⟨A, l, c, e4, hv⟩ := row_came (fun cs x h => tree_came m cs x h) h4
      simp only [List.cons.injEq, and_true] at e0 e1 e3 e4
      subst e0 e1 e2 e3 e4
      refine ⟨⟨k, i, f, s, A, l, c⟩, rfl, wf_inR' k0, wf_inR' k1, k2, k3, hv.1, hv.2.1, fun h0 => ?_⟩
      obtain ⟨b, off, e, hj⟩ := hv.2.2 h0
      exact ⟨b, off, e, fun j hj' => by
        obtain ⟨y, a, t⟩ := hj j hj'
        exact ⟨y, a, t.up⟩⟩
theorem value_came {r : Reach} {b0 : Nat} {v : Value} {d : DataW H} {p : List MemPlace} (hv : Value.okWide Try.prog w r b0 31 v) (h : DataW.Trod enc Try.prog w base (fun _ => true) held 31 v d p) :
    ∃ y : Val, v = .agg #[.int .i64 y.k, .int .i64 y.i, .float .f64 y.f, .string y.s, .slice y.A y.l y.c] ∧ ∃ n, Tree w n y := by
  obtain ⟨cs, rfl, _⟩ := okWide_struct Try.underlying31 hv
  obtain ⟨fuel, hf⟩ := h
  obtain ⟨y, hy, ht⟩ := tree_came _ _ _ hf
  refine ⟨y, ?_, _, ht⟩
  obtain ⟨l⟩ := cs
  simp only [Value.cells] at hy
  subst hy
  rfl
theorem values_came {A : Option Addr} {l c : Nat} {d : DataW H} {p : List MemPlace} (h : DataW.Trod enc Try.prog w base (fun _ => true) held 28 (.slice A l c) d p) : ∃ n, Vals w n A l c := by
  obtain ⟨fuel, hf⟩ := h
  cases fuel with
  | zero => simp [DataW.trod] at hf
  | succ m =>
    obtain ⟨A', l', c', hcs, hv⟩ := row_came (fun cs x h => tree_came m cs x h) hf
    simp [Value.cells] at hcs
    obtain ⟨rfl, rfl, rfl⟩ := hcs
    exact ⟨_, hv⟩
end
end Go.Proofs.Ytgodncdhkmpfaaa
