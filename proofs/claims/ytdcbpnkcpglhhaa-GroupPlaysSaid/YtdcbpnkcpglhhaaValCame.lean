/- Trees that came in. -/
import Derived.Test.YtdcbpnkcpglhhaaVal
import Derived.Lib.SmallJoins
import Derived.Deep.Slices
import Derived.Deep.Strs
import Derived.ProofKit
import Derived.OpenShut
import Derived.ShutString
import Derived.ChangeSlices
import Derived.ChangeArms
namespace Go.Proofs.Ytdcbpnkcpglhhaa
open Go.ChangeShapes Go.WideShapes Go.ChangeAt Go.RowKit Go.Deep
set_option linter.unusedVariables false
set_option linter.unusedSimpArgs false
theorem choose_list {P : Nat → T → Prop} : ∀ (l : Nat), (∀ j, j < l → ∃ t, P j t) → ∃ L : List T, L.length = l ∧ ∀ (j : Nat) (t : T), L[j]? = some t → P j t
  | 0, _ => ⟨[], rfl, fun j t h => by simp at h⟩
  | l + 1, h => by
    obtain ⟨L, hl, hL⟩ := choose_list l (fun j hj => h j (by omega))
    obtain ⟨t, ht⟩ := h l (by omega)
    refine ⟨L ++ [t], by simp [hl], fun j u hu => ?_⟩
    rcases Nat.lt_or_ge j l with hj | hj
    · rw [List.getElem?_append_left (by omega)] at hu
      exact hL j u hu
    · rw [List.getElem?_append_right (by omega)] at hu
      have : j - L.length = 0 := by
        rcases Nat.eq_zero_or_pos (j - L.length) with h0 | h0
        · exact h0
        · rw [List.getElem?_eq_none (by simp; omega)] at hu
          cases hu
      rw [this] at hu
      simp at hu
      subst hu
      obtain rfl : j = l := by omega
      exact ht
theorem vcells : Try.prog.cellsOf 28 = 5 := by kernel_rfl
theorem vcells_int : Try.prog.cellsOf 3 = 1 := by kernel_rfl
theorem vcells_i64 : Try.prog.cellsOf 2 = 1 := by kernel_rfl
theorem vcells_f64 : Try.prog.cellsOf 25 = 1 := by kernel_rfl
theorem vcells_str : Try.prog.cellsOf 9 = 1 := by kernel_rfl
theorem vcells_vs : Try.prog.cellsOf 26 = 1 := by kernel_rfl
section
variable {H : Type} {enc : TypeId × Value → H} {w : World} {base : Nat} {held : Bool}
theorem trod_struct5 {P : Program} {spare : Nat → Bool} {t : TypeId} {f0 f1 f2 f3 f4 : Field} {fuel : Nat} {cs : List Value} {x : DataW H × List MemPlace} (ht : P.underlying t = some (.struct #[f0, f1, f2, f3, f4])) (h : DataW.trod enc P w base spare held fuel t cs = some x) :
    ∃ y0 y1 y2 y3 y4 n, fuel = n + 1 ∧ cs.length = P.cellsOf t ∧ DataW.trod enc P w base spare held n f0.type ((cs.drop f0.offset).take (P.cellsOf f0.type)) = some y0 ∧
      DataW.trod enc P w base spare held n f1.type ((cs.drop f1.offset).take (P.cellsOf f1.type)) = some y1 ∧ DataW.trod enc P w base spare held n f2.type ((cs.drop f2.offset).take (P.cellsOf f2.type)) = some y2 ∧
      DataW.trod enc P w base spare held n f3.type ((cs.drop f3.offset).take (P.cellsOf f3.type)) = some y3 ∧ DataW.trod enc P w base spare held n f4.type ((cs.drop f4.offset).take (P.cellsOf f4.type)) = some y4 := by
  obtain ⟨xs, n, e, rfl, hl, hlen, hf⟩ := DataW.trod_struct ht h
  match xs, hlen with
  | [y0, y1, y2, y3, y4], _ => exact ⟨y0, y1, y2, y3, y4, n, e, hl, by simpa using hf 0 f0 rfl, by simpa using hf 1 f1 rfl, by simpa using hf 2 f2 rfl, by simpa using hf 3 f3 rfl, by simpa using hf 4 f4 rfl⟩
theorem wf_inI {n : Int} (h : (Lit.int .i64 n).wf = true) : inI n := by
  unfold inI
  simpa [Lit.wf] using h
/-- a row of trees that came, from what each element is -/
theorem row_came {m : Nat} (ih : ∀ cs x, DataW.trod enc Try.prog w base (fun _ => true) held m 28 cs = some x → ∃ t A c, cs = T.cells t A c ∧ Rd w (fun _ => False) m t A c) {cs : List Value} {x : DataW H × List MemPlace} (h : DataW.trod enc Try.prog w base (fun _ => true) held (m + 1) 26 cs = some x) :
    ∃ A L c, cs = [.slice A (List.length L) c] ∧ Rds w (fun _ => False) m A c L := by
  rcases DataW.trod_slice Try.underlying26 h with ⟨hcs, _⟩ | ⟨a, len, cap, elems, rest, n, en, rfl, _, _, hl, hm, hlen, hel, _⟩
  · exact ⟨none, [], 0, hcs, Nat.le_refl _, Nat.zero_le _, fun h => absurd h (Nat.lt_irrefl 0)⟩
  · simp only [Nat.add_right_cancel_iff] at en
    subst en
    obtain ⟨b, off, spot⟩ := a
    have hs : 0 < len → spot = none := by
      intro h0
      have hb := hel 0 h0
      rw [List.getElem?_eq_getElem (by omega)] at hb
      rw [vcells] at hb
      obtain ⟨cs', hc, _⟩ := Option.bind_eq_some_iff.1 hb
      obtain ⟨_, hlen', hcell⟩ := World.cells?_some hc
      have g0 := hcell 0 (by omega)
      rw [List.getElem?_eq_getElem (by omega)] at g0
      have := World.cell?_spot g0
      simpa [Addr.add] using this
    have key : ∀ j, j < len → ∃ t, ∃ A1 c1, TAt w b (off + j * 5) t A1 c1 ∧ Rd w (fun _ => False) m t A1 c1 := by
      intro j hj
      have hsp := hs (by omega)
      subst hsp
      have hb := hel j hj
      rw [List.getElem?_eq_getElem (by omega)] at hb
      rw [vcells] at hb
      obtain ⟨cs', hc, ht⟩ := Option.bind_eq_some_iff.1 hb
      obtain ⟨t, A1, c1, rfl, hy⟩ := ih _ _ ht
      obtain ⟨_, hlen', hcell⟩ := World.cells?_some hc
      have ea : ∀ q : Nat, ((⟨b, off, none⟩ : Addr).add (j * 5)).add q = ⟨b, off + j * 5 + q, none⟩ := fun q => by rw [Addr.add_lit, Addr.add_lit]
      have g0 := hcell 0 (by omega)
      have g1 := hcell 1 (by omega)
      have g2 := hcell 2 (by omega)
      have g3 := hcell 3 (by omega)
      have g4 := hcell 4 (by omega)
      rw [ea] at g0 g1 g2 g3 g4
      obtain ⟨k, i, f, s, l⟩ := t
      exact ⟨.mk k i f s l, A1, c1, ⟨by simpa [T.cells] using g0, by simpa [T.cells] using g1, by simpa [T.cells] using g2, by simpa [T.cells] using g3, by simpa [T.cells] using g4⟩, hy⟩
    obtain ⟨L, hL, hP⟩ := choose_list len key
    subst hL
    exact ⟨some ⟨b, off, spot⟩, L, cap, rfl, hl, hm, fun h0 => ⟨b, off, by rw [hs h0], fun h => h, fun j t ht => hP j t ht⟩⟩
theorem tree_came : ∀ (fuel : Nat) (cs : List Value) (x : DataW H × List MemPlace), DataW.trod enc Try.prog w base (fun _ => true) held fuel 28 cs = some x → ∃ t A c, cs = T.cells t A c ∧ Rd w (fun _ => False) fuel t A c
  | 0, _, _, h => by
    obtain ⟨_, _, _, _, _, n, e, _⟩ := trod_struct5 Try.underlying28 h
    cases e
  | 1, _, _, h => by
    obtain ⟨_, _, _, _, _, n, e, _, _, _, _, _, h4⟩ := trod_struct5 Try.underlying28 h
    obtain rfl : n = 0 := by omega
    simp [DataW.trod] at h4
  | m + 2, cs, _, h => by
    obtain ⟨_, _, _, _, _, n, e, hl, h0, h1, h2, h3, h4⟩ := trod_struct5 Try.underlying28 h
    obtain rfl : n = m + 1 := by omega
    rw [vcells] at hl
    match cs, hl with
    | [v0, v1, v2, v3, v4], _ =>
      simp only [vcells_int, vcells_i64, vcells_f64, vcells_str, vcells_vs, List.drop_zero, List.drop_succ_cons, List.take_succ_cons, List.take_zero] at h0 h1 h2 h3 h4
      obtain ⟨k, e0, _, k0⟩ := DataW.trod_int Try.underlying3 h0
      obtain ⟨i, e1, _, k1⟩ := DataW.trod_int Try.underlying2 h1
      obtain ⟨f, e2, k2⟩ : ∃ f, v2 = .float .f64 f ∧ f < 18446744073709551616 := by
        clear h0 h1 h3 h4 tree_came
        cases v2 <;> simp [DataW.trod, Try.underlying25] at h2
        rename_i kk f _ _
        obtain ⟨⟨rfl, hw⟩, _⟩ := h2
        exact ⟨_, rfl, by simpa [Lit.wf] using hw⟩
      obtain ⟨s, e3, _, k3⟩ := DataW.trod_string Try.underlying9 h3
      obtain ⟨A, L, c, e4, hv⟩ := row_came (fun cs x h => tree_came m cs x h) h4
      simp only [List.cons.injEq, and_true] at e0 e1 e3 e4
      subst e0 e1 e2 e3 e4
      exact ⟨.mk k i f s L, A, c, rfl, wf_inI k0, wf_inI k1, k2, k3, hv.1, hv.2.1, hv.2.2.chg (Chg.refl (fun _ => False) w) (fun _ _ h => h.elim) (fun _ _ h => h) (fun t A c _ h => Rd.up m t A c h)⟩
theorem values_came {A : Option Addr} {l c : Nat} {d : DataW H} {p : List MemPlace} (h : DataW.Trod enc Try.prog w base (fun _ => true) held 26 (.slice A l c) d p) : ∃ L : List T, L.length = l ∧ ∃ n, Rds w (fun _ => False) n A c L := by
  obtain ⟨fuel, hf⟩ := h
  cases fuel with
  | zero => simp [DataW.trod] at hf
  | succ m =>
    obtain ⟨A1, L, c1, hcs, hv⟩ := row_came (fun cs x h => tree_came m cs x h) hf
    simp [Value.cells] at hcs
    obtain ⟨rfl, rfl, rfl⟩ := hcs
    exact ⟨L, rfl, m, hv⟩
theorem value_came {r : Reach} {b0 : Nat} {v : Value} {d : DataW H} {p : List MemPlace} (hv : Value.okWide Try.prog w r b0 28 v) (h : DataW.Trod enc Try.prog w base (fun _ => true) held 28 v d p) :
    ∃ t A c n, v = T.val t A c ∧ Rd w (fun _ => False) n t A c := by
  obtain ⟨cs, rfl, _⟩ := okWide_struct Try.underlying28 hv
  obtain ⟨fuel, hf⟩ := h
  obtain ⟨t, A, c, hy, ht⟩ := tree_came _ _ _ hf
  refine ⟨t, A, c, _, ?_, ht⟩
  obtain ⟨l⟩ := cs
  obtain ⟨k, i, f, s, L⟩ := t
  simp only [Value.cells] at hy
  subst hy
  rfl
end
end Go.Proofs.Ytdcbpnkcpglhhaa
