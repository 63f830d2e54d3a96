/- Acts of a script that came in. -/
import Derived.Test.YtdcbpnkcpglhhaaValCame
import Derived.Test.YtdcbpnkcpglhhaaGrpZE
import Derived.ProofKit
import Derived.OpenShut
import Derived.ShutString
import Derived.ChangeSlices
import Derived.ChangeArms
namespace Go.Proofs.Ytdcbpnkcpglhhaa
open Go.ChangeShapes Go.WideShapes Go.ChangeAt Go.RowKit
set_option linter.unusedVariables false
set_option linter.unusedSimpArgs false
structure ActV where
  M : Nat
  Nm : Nat
  K : Nat
  A : Option Addr
  c : Nat
  L : List T
def ActV.cells (x : ActV) : List Value := [.int .u8 x.M, .int .u8 x.Nm, .int .u8 x.K, .slice x.A x.L.length x.c]
def ActOk (w : World) (x : ActV) : Prop := x.M ≤ 255 ∧ x.Nm ≤ 255 ∧ x.K ≤ 255 ∧ ∃ N, Rds w (fun _ => False) N x.A x.c x.L
def Acts (w : World) (A : Option Addr) (n : Nat) (f : Nat → ActV) : Prop := 0 < n → ∃ b off, A = some ⟨b, off, none⟩ ∧ ∀ j, j < n → (∀ q u, (f j).cells[q]? = some u → w.cell? ⟨b, off + j * 4 + q, none⟩ = some u) ∧ ActOk w (f j)
section
variable {H : Type} {enc : TypeId × Value → H} {w : World} {base : Nat} {held : Bool}
theorem cells_act : Try.prog.cellsOf 48 = 4 := by kernel_rfl
theorem cells_u8 : Try.prog.cellsOf 5 = 1 := by kernel_rfl
theorem trod_struct4 {P : Program} {spare : Nat → Bool} {t : TypeId} {f0 f1 f2 f3 : Field} {fuel : Nat} {cs : List Value} {x : DataW H × List MemPlace} (ht : P.underlying t = some (.struct #[f0, f1, f2, f3])) (h : DataW.trod enc P w base spare held fuel t cs = some x) :
    ∃ y0 y1 y2 y3 n, fuel = n + 1 ∧ cs.length = P.cellsOf t ∧ DataW.trod enc P w base spare held n f0.type ((cs.drop f0.offset).take (P.cellsOf f0.type)) = some y0 ∧ DataW.trod enc P w base spare held n f1.type ((cs.drop f1.offset).take (P.cellsOf f1.type)) = some y1 ∧
      DataW.trod enc P w base spare held n f2.type ((cs.drop f2.offset).take (P.cellsOf f2.type)) = some y2 ∧ DataW.trod enc P w base spare held n f3.type ((cs.drop f3.offset).take (P.cellsOf f3.type)) = some y3 := by
  obtain ⟨xs, n, e, rfl, hl, hlen, hf⟩ := DataW.trod_struct ht h
  match xs, hlen with
  | [y0, y1, y2, y3], _ => exact ⟨y0, y1, y2, y3, n, e, hl, by simpa using hf 0 f0 rfl, by simpa using hf 1 f1 rfl, by simpa using hf 2 f2 rfl, by simpa using hf 3 f3 rfl⟩
theorem u8_nat {n : Int} (h : (Lit.int .u8 n).wf = true) : ∃ k : Nat, n = (k : Int) ∧ k ≤ 255 := by
  obtain ⟨h1, h2⟩ := wf_u8 h
  exact ⟨n.toNat, by omega, by omega⟩
theorem act_came {fuel : Nat} {cs : List Value} {x : DataW H × List MemPlace} (h : DataW.trod enc Try.prog w base (fun _ => true) held fuel 48 cs = some x) : ∃ y : ActV, cs = y.cells ∧ ActOk w y := by
  obtain ⟨_, _, _, _, n, e, hl, h0, h1, h2, h3⟩ := trod_struct4 Try.underlying48 h
  rw [cells_act] at hl
  match cs, hl with
  | [v0, v1, v2, v3], _ =>
    simp only [cells_u8, vcells_vs, List.drop_zero, List.drop_succ_cons, List.take_succ_cons, List.take_zero] at h0 h1 h2 h3
    obtain ⟨a, e0, _, k0⟩ := DataW.trod_int Try.underlying5 h0
    obtain ⟨b, e1, _, k1⟩ := DataW.trod_int Try.underlying5 h1
    obtain ⟨c, e2, _, k2⟩ := DataW.trod_int Try.underlying5 h2
    cases n with
    | zero => simp [DataW.trod] at h3
    | succ m =>
      obtain ⟨A, L, c3, e3, hv⟩ := row_came (fun cs x h => tree_came m cs x h) h3
      simp only [List.cons.injEq, and_true] at e0 e1 e2 e3
      obtain ⟨a, rfl, ha⟩ := u8_nat k0
      obtain ⟨b, rfl, hb⟩ := u8_nat k1
      obtain ⟨c, rfl, hc⟩ := u8_nat k2
      subst e0 e1 e2 e3
      exact ⟨⟨a, b, c, A, c3, L⟩, rfl, ha, hb, hc, m, hv⟩
theorem acts_came {A : Option Addr} {l c : Nat} {d : DataW H} {p : List MemPlace} (h : DataW.Trod enc Try.prog w base (fun _ => true) held 42 (.slice A l c) d p) : ∃ f, Acts w A l f ∧ l ≤ c ∧ c ≤ maxLen := by
  obtain ⟨fuel, hf⟩ := h
  rcases DataW.trod_slice Try.underlying42 hf with ⟨hcs, _⟩ | ⟨a, len, cap, elems, rest, n, en, hcs, _, _, hl, hm, hlen, hel, _⟩
  · simp [Value.cells] at hcs
    obtain ⟨rfl, rfl, rfl⟩ := hcs
    exact ⟨fun _ => ⟨0, 0, 0, none, 0, []⟩, fun h => absurd h (Nat.lt_irrefl 0), Nat.le_refl _, Nat.zero_le _⟩
  · simp [Value.cells] at hcs
    obtain ⟨rfl, rfl, rfl⟩ := hcs
    obtain ⟨b, off, spot⟩ := a
    have hspot : 0 < l → spot = none := by
      intro h0
      have hb := hel 0 h0
      rw [List.getElem?_eq_getElem (by omega)] at hb
      rw [cells_act] at hb
      obtain ⟨cs', hc, _⟩ := Option.bind_eq_some_iff.1 hb
      obtain ⟨_, hlen', hcell⟩ := World.cells?_some hc
      have g0 := hcell 0 (by omega)
      rw [List.getElem?_eq_getElem (by omega)] at g0
      have := World.cell?_spot g0
      simpa [Addr.add] using this
    have key : ∀ j, ∃ y : ActV, j < l → spot = none ∧ (∀ q u, y.cells[q]? = some u → w.cell? ⟨b, off + j * 4 + q, none⟩ = some u) ∧ ActOk w y := by
      intro j
      by_cases hj : j < l
      · have hb := hel j hj
        rw [List.getElem?_eq_getElem (by omega)] at hb
        rw [cells_act] at hb
        obtain ⟨cs', hc, ht⟩ := Option.bind_eq_some_iff.1 hb
        obtain ⟨y, rfl, hy⟩ := act_came ht
        obtain ⟨_, hlen', hcell⟩ := World.cells?_some hc
        have hs := hspot (by omega)
        subst hs
        have ea : ∀ q : Nat, ((⟨b, off, none⟩ : Addr).add (j * 4)).add q = ⟨b, off + j * 4 + q, none⟩ := fun q => by rw [Addr.add_lit, Addr.add_lit]
        refine ⟨y, fun _ => ⟨rfl, fun q u hu => ?_, hy⟩⟩
        have hq : q < 4 := by
          have := (List.getElem?_eq_some_iff.1 hu).1
          simpa [ActV.cells] using this
        have g := hcell q hq
        rw [ea, hu] at g
        exact g
      · exact ⟨⟨0, 0, 0, none, 0, []⟩, fun h => absurd h hj⟩
    obtain ⟨f, hf⟩ := Classical.axiomOfChoice key
    refine ⟨f, fun h0 => ⟨b, off, ?_, fun j hj => (hf j hj).2⟩, hl, hm⟩
    rw [(hf 0 h0).1]
end
end Go.Proofs.Ytdcbpnkcpglhhaa
