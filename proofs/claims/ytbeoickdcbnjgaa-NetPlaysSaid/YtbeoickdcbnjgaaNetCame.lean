/- Acts of a script that came in. -/
import Derived.Test.YtbeoickdcbnjgaaNetW
import Derived.ProofKit
import Derived.OpenShut
import Derived.ShutString
import Derived.ChangeSlices
import Derived.ChangeArms
namespace Go.Proofs.Ytbeoickdcbnjgaa
open Go.ChangeShapes Go.WideShapes Go.ChangeAt Go.RowKit
set_option linter.unusedVariables false
set_option linter.unusedSimpArgs false
section
variable {H : Type} {enc : TypeId × Value → H} {w : World} {base : Nat} {held : Bool}
theorem cells_act : Try.prog.cellsOf 35 = 6 := by kernel_rfl
theorem cells_pk : Try.prog.cellsOf 33 = 3 := by kernel_rfl
theorem cells_int : Try.prog.cellsOf 3 = 1 := by kernel_rfl
theorem cells_u8 : Try.prog.cellsOf 5 = 1 := by kernel_rfl
theorem cells_u64 : Try.prog.cellsOf 28 = 1 := by kernel_rfl
theorem cells_bs : Try.prog.cellsOf 31 = 1 := by kernel_rfl
theorem bytes_came {fuel : Nat} {cs : List Value} {x : DataW H × List MemPlace} (hf : DataW.trod enc Try.prog w base (fun _ => true) held fuel 31 cs = some x) : ∃ A l c xs, cs = [.slice A l c] ∧ Bt w (fun _ => False) A l xs ∧ l ≤ c ∧ c ≤ maxLen := by
  rcases open_ints Try.underlying31 Try.underlying5 cells_u8 hf with ⟨hcs, _⟩ | ⟨a, len, cap, zs, hcs, _, hl, hm, hz, _, hcell, hwz⟩
  · exact ⟨none, 0, 0, [], hcs, Bt.nil _ _ _, Nat.le_refl _, Nat.zero_le _⟩
  · have hzl : len ≤ zs.length := by rw [hz]; simpa using hl
    refine ⟨_, len, cap, zs.take len, hcs, ⟨by rw [List.length_take]; omega, fun h0 => ?_⟩, hl, hm⟩
    obtain ⟨b, off, rfl, hc⟩ := ints_at hcell (by omega)
    refine ⟨b, off, rfl, fun h => h, fun j hj => ?_⟩
    rw [hc j (by omega)]
    simp [List.getD_eq_getElem?_getD, hj]
theorem trod_struct3 {P : Program} {spare : Nat → Bool} {t : TypeId} {f0 f1 f2 : Field} {fuel : Nat} {cs : List Value} {x : DataW H × List MemPlace} (ht : P.underlying t = some (.struct #[f0, f1, f2])) (h : DataW.trod enc P w base spare held fuel t cs = some x) :
    ∃ y0 y1 y2 n, fuel = n + 1 ∧ cs.length = P.cellsOf t ∧ DataW.trod enc P w base spare held n f0.type ((cs.drop f0.offset).take (P.cellsOf f0.type)) = some y0 ∧ DataW.trod enc P w base spare held n f1.type ((cs.drop f1.offset).take (P.cellsOf f1.type)) = some y1 ∧ DataW.trod enc P w base spare held n f2.type ((cs.drop f2.offset).take (P.cellsOf f2.type)) = some y2 := by
  obtain ⟨xs, n, e, rfl, hl, hlen, hf⟩ := DataW.trod_struct ht h
  match xs, hlen with
  | [y0, y1, y2], _ => exact ⟨y0, y1, y2, n, e, hl, by simpa using hf 0 f0 rfl, by simpa using hf 1 f1 rfl, by simpa using hf 2 f2 rfl⟩
theorem trod_struct4 {P : Program} {spare : Nat → Bool} {t : TypeId} {f0 f1 f2 f3 : Field} {fuel : Nat} {cs : List Value} {x : DataW H × List MemPlace} (ht : P.underlying t = some (.struct #[f0, f1, f2, f3])) (h : DataW.trod enc P w base spare held fuel t cs = some x) :
    ∃ y0 y1 y2 y3 n, fuel = n + 1 ∧ cs.length = P.cellsOf t ∧ DataW.trod enc P w base spare held n f0.type ((cs.drop f0.offset).take (P.cellsOf f0.type)) = some y0 ∧ DataW.trod enc P w base spare held n f1.type ((cs.drop f1.offset).take (P.cellsOf f1.type)) = some y1 ∧ DataW.trod enc P w base spare held n f2.type ((cs.drop f2.offset).take (P.cellsOf f2.type)) = some y2 ∧ DataW.trod enc P w base spare held n f3.type ((cs.drop f3.offset).take (P.cellsOf f3.type)) = some y3 := by
  obtain ⟨xs, n, e, rfl, hl, hlen, hf⟩ := DataW.trod_struct ht h
  match xs, hlen with
  | [y0, y1, y2, y3], _ => exact ⟨y0, y1, y2, y3, n, e, hl, by simpa using hf 0 f0 rfl, by simpa using hf 1 f1 rfl, by simpa using hf 2 f2 rfl, by simpa using hf 3 f3 rfl⟩
theorem wf_range {n : Int} (h : (Lit.int .i64 n).wf = true) : IntKind.i64.min ≤ n ∧ n ≤ IntKind.i64.max := by simpa [Lit.wf] using h
theorem packet_came {fuel : Nat} {cs : List Value} {x : DataW H × List MemPlace} (h : DataW.trod enc Try.prog w base (fun _ => true) held fuel 33 cs = some x) : ∃ p : Pk, cs = p.cells ∧ Wf p.says ∧ Bt w (fun _ => False) p.B p.n p.xs ∧ p.n ≤ p.c ∧ p.c ≤ maxLen := by
  obtain ⟨_, _, _, n, e, hl, h0, h1, h2⟩ := trod_struct3 Try.underlying33 h
  rw [cells_pk] at hl
  match cs, hl with
  | [v0, v1, v2], _ =>
    simp only [cells_int, cells_bs, List.drop_zero, List.drop_succ_cons, List.take_succ_cons, List.take_zero] at h0 h1 h2
    obtain ⟨f, e0, _, k0⟩ := DataW.trod_int Try.underlying3 h0
    obtain ⟨t, e1, _, k1⟩ := DataW.trod_int Try.underlying3 h1
    obtain ⟨A, l, c, xs, e2, hb, hl, hm⟩ := bytes_came h2
    simp only [List.cons.injEq, and_true] at e0 e1 e2
    subst e0 e1 e2
    exact ⟨⟨f, t, A, l, c, xs⟩, rfl, ⟨wf_range k0, wf_range k1⟩, hb, hl, hm⟩
theorem act_came {fuel : Nat} {cs : List Value} {x : DataW H × List MemPlace} (h : DataW.trod enc Try.prog w base (fun _ => true) held fuel 35 cs = some x) : ∃ y : ActV, cs = y.cells ∧ ActOk w y := by
  obtain ⟨_, _, _, _, n, e, hl, h0, h1, h2, h3⟩ := trod_struct4 Try.underlying35 h
  rw [cells_act] at hl
  match cs, hl with
  | [v0, v1, v2, v3, v4, v5], _ =>
    simp only [cells_int, cells_u8, cells_u64, cells_pk, List.drop_zero, List.drop_succ_cons, List.take_succ_cons, List.take_zero] at h0 h1 h2 h3
    obtain ⟨a, e0, _, k0⟩ := DataW.trod_int Try.underlying5 h0
    obtain ⟨b, e1, _, k1⟩ := DataW.trod_int Try.underlying3 h1
    obtain ⟨c, e2, _, k2⟩ := DataW.trod_int Try.underlying28 h2
    obtain ⟨p, e3, hw, hb, hl, hm⟩ := packet_came h3
    simp only [List.cons.injEq, and_true] at e0 e1 e2
    have k0' : 0 ≤ a ∧ a ≤ 255 := by simpa [Lit.wf, IntKind.min, IntKind.max, IntKind.signed, IntKind.bits] using k0
    have k2' : 0 ≤ c ∧ c ≤ 18446744073709551615 := by simpa [Lit.wf, IntKind.min, IntKind.max, IntKind.signed, IntKind.bits] using k2
    obtain ⟨m, rfl⟩ := Int.eq_ofNat_of_zero_le k2'.1
    subst e0 e1 e2
    refine ⟨⟨a, b, m, p⟩, ?_, k0'.1, k0'.2, wf_range k1, by show m < _; omega, hw, hb, hl, hm⟩
    simp only [Pk.cells, List.cons.injEq, and_true] at e3
    obtain ⟨rfl, rfl, rfl⟩ := e3
    rfl
theorem acts_came {A : Option Addr} {l c : Nat} {d : DataW H} {p : List MemPlace} (h : DataW.Trod enc Try.prog w base (fun _ => true) held 22 (.slice A l c) d p) : ∃ f, Acts w A l f ∧ l ≤ c ∧ c ≤ maxLen := by
  obtain ⟨fuel, hf⟩ := h
  rcases DataW.trod_slice Try.underlying22 hf with ⟨hcs, _⟩ | ⟨a, len, cap, elems, rest, n, en, hcs, _, _, hl, hm, hlen, hel, _⟩
  · simp [Value.cells] at hcs
    obtain ⟨rfl, rfl, rfl⟩ := hcs
    exact ⟨fun _ => ⟨0, 0, 0, ⟨0, 0, none, 0, 0, []⟩⟩, fun h => absurd h (Nat.lt_irrefl 0), Nat.le_refl _, Nat.zero_le _⟩
  · simp [Value.cells] at hcs
    obtain ⟨rfl, rfl, rfl⟩ := hcs
    obtain ⟨b, off, spot⟩ := a
    have hspot : 0 < l → spot = none := by
      intro h0
      have hb := hel 0 h0
      rw [List.getElem?_eq_getElem (by omega)] at hb
      rw [cells_act] at hb
      obtain ⟨cs', hc, _⟩ := Option.bind_eq_some_iff.1 hb
      obtain ⟨_, hlen', hcell⟩ := World.cells?_some hc
      have g0 := hcell 0 (by omega)
      rw [List.getElem?_eq_getElem (by omega)] at g0
      have := World.cell?_spot g0
      simpa [Addr.add] using this
    have key : ∀ j, ∃ y : ActV, j < l → spot = none ∧ (∀ q u, y.cells[q]? = some u → w.cell? ⟨b, off + j * 6 + q, none⟩ = some u) ∧ ActOk w y := by
      intro j
      by_cases hj : j < l
      · have hb := hel j hj
        rw [List.getElem?_eq_getElem (by omega)] at hb
        rw [cells_act] at hb
        obtain ⟨cs', hc, ht⟩ := Option.bind_eq_some_iff.1 hb
        obtain ⟨y, rfl, hy⟩ := act_came ht
        obtain ⟨_, hlen', hcell⟩ := World.cells?_some hc
        have hs := hspot (by omega)
        subst hs
        have ea : ∀ q : Nat, ((⟨b, off, none⟩ : Addr).add (j * 6)).add q = ⟨b, off + j * 6 + q, none⟩ := fun q => by rw [Addr.add_lit, Addr.add_lit]
        refine ⟨y, fun _ => ⟨rfl, fun q u hu => ?_, hy⟩⟩
        have hq : q < 6 := by
          have := (List.getElem?_eq_some_iff.1 hu).1
          simpa [ActV.cells] using this
        have g := hcell q hq
        rw [ea, hu] at g
        exact g
      · exact ⟨⟨0, 0, 0, ⟨0, 0, none, 0, 0, []⟩⟩, fun h => absurd h hj⟩
    obtain ⟨f, hf⟩ := Classical.axiomOfChoice key
    refine ⟨f, fun h0 => ⟨b, off, ?_, fun j hj => (hf j hj).2⟩, hl, hm⟩
    rw [(hf 0 h0).1]
end
end Go.Proofs.Ytbeoickdcbnjgaa
