/- Proved: for every input the law DiskPlays returns true, and its argument reads behind the call as before it. No condition. -/
import Derived.Test.YtnlfjjafamkmeaaRows
import Derived.Test.YtnlfjjafamkmeaaLaw3
import Derived.WalkKit
import Derived.ProofKit
import Derived.OpenShut
import Derived.ShutString
import Derived.ChangeOld
import Derived.Below
import Derived.Deep.Slices
import Derived.Deep.Strs
namespace Go.Proofs.Ytnlfjjafamkmeaa.diskPlays
open Go.ChangeShapes Go.WideShapes Go.ChangeAt Go.RowKit Go.Deep
set_option linter.unusedVariables false

theorem own : ownKnob Try.prog.godebug = none := by kernel_rfl
theorem laidOut : laidOutB Try.prog = true := by kernel_rfl
theorem cells36 : Try.prog.cellsOf 36 = 3 := by kernel_rfl
theorem cells5 : Try.prog.cellsOf 5 = 1 := by kernel_rfl
theorem cells3 : Try.prog.cellsOf 3 = 1 := by kernel_rfl
theorem cells22 : Try.prog.cellsOf 22 = 1 := by kernel_rfl

/-- what came in: acts -/
theorem acts_came {H : Type} {enc : TypeId × Value → H} {w : World} {base : Nat} {held : Bool} {a : Option Addr} {len cap : Nat} {d : DataW H} {p : List MemPlace} (h : DataW.Trod enc Try.prog w base (fun _ => true) held 31 (.slice a len cap) d p) :
    ∃ f, Acts w a len f ∧ len ≤ cap := by
  obtain ⟨fuel, hf⟩ := h
  rcases open_slice Try.underlying31 hf with ⟨hcs, _⟩ | ⟨a', len', cap', m, n, D, Pl, hcs, _, hl, _, hm, _, hi⟩
  · simp [Value.cells] at hcs
    obtain ⟨rfl, rfl, rfl⟩ := hcs
    exact ⟨fun _ => ⟨0, 0, none, 0, 0, []⟩, fun h => absurd h (Nat.lt_irrefl 0), Nat.le_refl _⟩
  · simp [Value.cells] at hcs
    obtain ⟨rfl, rfl, rfl⟩ := hcs
    have hlm : len ≤ m := by rw [hm]; split <;> omega
    obtain ⟨b, off, spot⟩ := a'
    have hsp : 0 < len → spot = none := fun h0 => by
      obtain ⟨cs', hc, _⟩ := hi 0 (by omega)
      rw [cells36] at hc
      obtain ⟨_, hlen, hcell⟩ := World.cells?_some hc
      have g0 := hcell 0 (by omega)
      rw [List.getElem?_eq_getElem (by omega)] at g0
      have := World.cell?_spot g0
      simpa [Addr.add] using this
    have key : ∀ i, i < len → spot = none ∧ ∃ x, ActAt w b (off + i * 3) x := by
      intro i hil
      obtain ⟨cs', hc, ht⟩ := hi i (by omega)
      rw [cells36] at hc
      obtain ⟨_, hlen, hcell⟩ := World.cells?_some hc
      obtain ⟨y0, y1, y2, n', _, _, h0, h1, h2⟩ := trod_struct3 Try.underlying36 ht
      match cs', hlen with
      | [v0, v1, v2], _ =>
        have g0 := hcell 0 (by omega)
        have g1 := hcell 1 (by omega)
        have g2 := hcell 2 (by omega)
        have hspot : spot = none := hsp (by omega)
        subst hspot
        refine ⟨rfl, ?_⟩
        simp only [cells5, cells3, cells22, List.drop_zero, List.drop_succ_cons, List.take_succ_cons, List.take_zero] at h0 h1 h2
        obtain ⟨what, e0, _, k0⟩ := DataW.trod_int Try.underlying5 h0
        obtain ⟨num, e1, _, k1⟩ := DataW.trod_int Try.underlying3 h1
        simp only [List.cons.injEq, and_true] at e0 e1
        subst e0 e1
        have kw : 0 ≤ what ∧ what ≤ 255 := by simpa [Lit.wf, IntKind.min, IntKind.max, IntKind.signed, IntKind.bits] using k0
        have ea : ∀ q : Nat, ((⟨b, off, none⟩ : Addr).add (i * 3)).add q = ⟨b, off + i * 3 + q, none⟩ := fun q => by rw [Addr.add_lit, Addr.add_lit]
        rw [ea] at g0 g1 g2
        have hrd : ∃ A l c xs, v2 = .slice A l c ∧ Rd w A l xs ∧ l ≤ c := by
          rcases open_ints Try.underlying22 Try.underlying5 cells5 h2 with ⟨hcs, _⟩ | ⟨x, l, c, zs, hcs, _, hl', hm', hz, _, hcell', hwz⟩
          · simp at hcs
            exact ⟨none, 0, 0, [], hcs, ⟨rfl, fun h => absurd h (Nat.lt_irrefl 0)⟩, Nat.le_refl _⟩
          · simp at hcs
            obtain ⟨r, hlc⟩ := rd_came (w := w) (a := some x) (len := l) (cap := c) (zs := zs) (.inr ⟨x, rfl, hl', hm', by simpa using hz, hcell', hwz⟩)
            exact ⟨some x, l, c, _, hcs, r, hlc⟩
        obtain ⟨A, l, c, xs, rfl, hr, hlc⟩ := hrd
        exact ⟨⟨what, num, A, l, c, xs⟩, by simpa using g0, by simpa using g1, by simpa using g2, hr, hlc, kw.1, kw.2⟩
    have key' : ∀ i, ∃ x, i < len → ActAt w b (off + i * 3) x := fun i => by
      by_cases h : i < len
      · obtain ⟨_, x, hx⟩ := key i h
        exact ⟨x, fun _ => hx⟩
      · exact ⟨⟨0, 0, none, 0, 0, []⟩, fun h' => absurd h' h⟩
    refine ⟨fun i => Classical.choose (key' i), fun h0 => ?_, hl⟩
    have hs := (key 0 h0).1
    subst hs
    exact ⟨b, off, rfl, fun j hj => Classical.choose_spec (key' j) hj⟩

set_option maxRecDepth 100000 in
theorem lifted (os : Os) (started : os.Started) (H : Type) (enc : TypeId × Value → H) :
    ReturnsInHanded {} Try.checked os 4 .any (Rows.diskPlaysSpec.pre6 enc Try.prog Try.f4 Rows.diskPlaysRow.domain false) (Rows.diskPlaysSpec.post enc Try.prog Try.f4 false true false false) := by
  refine returnsInHanded_of_change (C := Try.checked) own started (by kernel_rfl) Try.func4
    (ChangeSpec.witness6 (enc := enc) (C := Try.checked) false ⟨#[], #[.slice none 0 0], []⟩ 8 (by kernel_rfl) (by kernel_rfl) (by kernel_rfl) (by kernel_rfl)) ?_
  intro W base args ds gs before hval0 hW hcnd _
  have hval : ∀ (j : Nat) t v, Try.f4.params[j]? = some t → args[j]? = some v → Value.okWide Try.prog W .any base t v := hval0
  have hW' := hW
  obtain ⟨p, q, hA0, hV, rfl, hfz, hnd⟩ := hW
  have hA : DataW.TrodAll enc Try.prog W 0 (fun _ => true) true Try.f4.params.toList args.toList ds p := hA0
  rw [Try.params4] at hA hval
  obtain ⟨v0, vs0, d0, ds0, p0, q0, hargs, rfl, rfl, h0, r0⟩ := trodAll_cons hA
  obtain ⟨rfl, rfl, rfl⟩ := trodAll_nil r0
  obtain rfl : args = #[v0] := by cases args; simp_all
  obtain ⟨rfl, rfl⟩ := trodVars_none hV
  obtain ⟨a0, len0, cap0, rfl⟩ := okWide_slice Try.underlying31 (hval 0 31 v0 rfl rfl)
  have k0 := h0
  have lt0 : ∀ x ∈ p0, x.block < W.heap.size := by obtain ⟨m, hm⟩ := k0; exact DataW.trod_lt m _ _ _ hm
  obtain ⟨f, ha, hlc⟩ := acts_came h0
  clear hA0 hval0
  refine (plays_law a0 len0 cap0 f W ha hlc).mono fun e W' ⟨he, bel⟩ => ?_
  subst he
  exact ⟨_, rfl, _, _, _, [], _, [], hW', trodAll_mk1 (shut_bool Try.underlying4 _), (trodAll_cons_mk (Below.trod laidOut (by kernel_rfl) (of_decide_eq_true (by kernel_rfl)) k0 bel lt0) trodAll_mk0), rfl, bel.frame _, fun h => by cases h⟩

theorem over : Rows.diskPlaysRow.holds Try.pinned (OpenSpec.ofChange Rows.diskPlaysSpec) :=
  OpenClaim.holds_of_wide 4 Try.f4 rfl rfl rfl rfl rfl rfl rfl ⟨rfl, rfl, rfl, rfl, rfl⟩ rfl rfl rfl rfl rfl (by kernel_rfl) Try.func4 (by kernel_rfl)
    (of_decide_eq_true (by kernel_rfl)) (by unfold Func.isWrapper; first | (rw [if_pos (by decide +kernel)]; kernel_rfl) | (rw [if_neg (by decide +kernel)]; exact ⟨rfl, rfl⟩))
    (fun os started H enc _ => lifted os started H enc)

/-- the statement -/
theorem proved : Rows.DiskPlaysSaid := over
#print axioms proved
end Go.Proofs.Ytnlfjjafamkmeaa.diskPlays
