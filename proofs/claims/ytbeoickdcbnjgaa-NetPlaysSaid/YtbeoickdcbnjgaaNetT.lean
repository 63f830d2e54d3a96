/- The law NetPlays: behind the switch: what both nets hold, and who is joined. -/
import Derived.Test.YtbeoickdcbnjgaaNetO
namespace Go.Proofs.Ytbeoickdcbnjgaa
open Go.RowKit
set_option linter.unusedVariables false
set_option linter.unusedSimpArgs false
attribute [local go_sem] stepR givesR fillE Ext.refl

theorem seq_norm {P : Program} {c d : Code} {K1 K : Act → World → Prop} {a : Act} {w : World} (h1 : c.wp P (Norm K1) a w) (h2 : ∀ a w, K1 a w → d.wp P (Norm K) a w) : (Code.seq c d).wp P (Norm K) a w := by
  refine wp_seq (wp_mono h1 ?_)
  intro e a' w' h
  cases e with
  | normal => exact h2 _ _ h
  | _ => exact h.elim
theorem norm_mono {P : Program} {c : Code} {K1 K : Act → World → Prop} {a : Act} {w : World} (h1 : c.wp P (Norm K1) a w) (h2 : ∀ a w, K1 a w → K a w) : c.wp P (Norm K) a w := by
  refine wp_mono h1 ?_
  intro e a' w' h
  cases e with
  | normal => exact h2 _ _ h
  | _ => exact h.elim

/-- what the tail goes by -/
structure TP where
  A : Option Addr
  n : Nat
  c : Nat
  x : Int
  y : Int
  W : World
  g : Nat
  h : Nat
  j : Nat
  gx : Nat
  v : ActV
  m : Nat
  L : List Says
  nv : Value
  nu : Value
  ps : List Pk
  qs : List Pk
  qs4 : List Pk
  A4 : Option Addr
  c4 : Nat
  b4 : Nat
  S4 : Nat → Prop
structure TS (t : TP) (a : Act) (w : World) : Prop where
  k : Kn t.A t.n t.c t.x t.y t.g t.h t.j a
  h10 : G a 10 = .pointer (some ⟨t.gx, 0, none⟩)
  h20 : G a 20 = .slice t.A4 t.L.length t.c4
  d : DuoAt (GH t.g t.h) t.W w t.g t.h (some (t.gx, t.v.arr)) t.m t.m t.L t.L [t.v.p] t.nv t.nu t.ps t.qs
  row : PRow w t.b4 (.slice t.A4 t.L.length t.c4) t.qs4
  ok : ∀ q ∈ t.qs4, PkOk w t.S4 q
  says : t.qs4.map Pk.says = t.L
  few : t.L.length ≤ 61
theorem TS.ext {t : TP} {a a' : Act} {w w' : World} (h : TS t a w) (hx : Ext w w') (hk : Kn t.A t.n t.c t.x t.y t.g t.h t.j a') (h10 : G a' 10 = .pointer (some ⟨t.gx, 0, none⟩)) (h20 : G a' 20 = .slice t.A4 t.L.length t.c4) : TS t a' w' :=
  ⟨hk, h10, h20, h.d.ext hx, CRow.ext h.row hx, fun q hq => (h.ok q hq).ext hx, h.says, h.few⟩

set_option maxRecDepth 1000000 in
set_option maxHeartbeats 4000000 in
/-- All -/
theorem tl_all {A : Option Addr} {n c : Nat} {x y : Int} {W : World} {g h j gx : Nat} {v : ActV} {m : Nat} {L : List Says} {nv nu : Value} {ps qs : List Pk} {a : Act} {w : World}
    (hk : Kn A n c x y g h j a) (h10 : G a 10 = .pointer (some ⟨gx, 0, none⟩)) (hd : DuoAt (GH g h) W w g h (some (gx, v.arr)) m m L L [v.p] nv nu ps qs) (hl : L.length ≤ 61) :
    Code.wp Try.prog (nav [1,1,1,1,0,1,2,3,1,0,2,1,1,1,1,1,1,0] theBody) (Norm fun a w => ∃ qs4 A4 c4 b4 S4, TS ⟨A, n, c, x, y, W, g, h, j, gx, v, m, L, nv, nu, ps, qs, qs4, A4, c4, b4, S4⟩ a w) a w := by
  have T1 := all_any hd.1
  rw [hd.2.2.1] at T1
  have HH := Lib.hid (And.intro hk (And.intro h10 (And.intro hd hl)))
  rw [act_281 a hk.d hk.s, hk.h7]
  clear hk h10 hd hl
  conv => arg 2; whnf
  go_wp2_with fail
  refine T1.mono ?_
  rintro e w1 ⟨v4, qs4, rfl, hrow, hok, hs, hx⟩
  obtain ⟨A4, c4, rfl, hlc, hcm, hnone⟩ := CRow.form hrow
  have hlen : qs4.length = L.length := by rw [← hs, List.length_map]
  rw [hlen] at hrow hlc
  have HR := Lib.hid (And.intro hrow (And.intro hok (And.intro hs hx)))
  clear T1 hrow hok hs hx hlc hcm hnone
  go_wp2_with fail
  exact ⟨qs4, A4, c4, _, _, ⟨rfl, rfl, HH.out.1.h0, HH.out.1.h1, HH.out.1.h2, rfl, HH.out.1.h8, HH.out.1.h9⟩, HH.out.2.1, rfl, HH.out.2.2.1.ext HR.out.2.2.2, HR.out.1, HR.out.2.1, HR.out.2.2.1, HH.out.2.2.2⟩
set_option maxRecDepth 1000000 in
set_option maxHeartbeats 4000000 in
/-- the lengths -/
theorem tl_len {t : TP} {a : Act} {w : World} (hT : TS t a w) : Code.wp Try.prog (nav [1,1,1,1,0,1,2,3,1,0,2,1,1,1,1,1,1,1,0] theBody) (Norm (TS t)) a w := by
  have HT := Lib.hid hT
  obtain ⟨A, n, c, x, y, W, g, h, j, gx, v, m, L, nv, nu, ps, qs, qs4, A4, c4, b4, S4⟩ := t
  have T1 := fun w' (hx : Ext w w') => len_any (hT.d.ext hx).1
  obtain ⟨k, h10, h20, d, row, ok, says, few⟩ := hT
  simp only at k h10 h20 d row ok says few T1
  obtain ⟨A1, cap, hv, hlc, hcm, hnone⟩ := CRow.form d.2.1.row
  have hlp : ps.length = L.length := by rw [← d.2.2.1, List.length_map]
  have hlq : qs.length = L.length := by rw [← d.2.2.2.1, List.length_map]
  obtain ⟨c0, c1, f0, f1⟩ := d.2.1.cells
  rw [hv, hlq] at c0
  rw [hlp] at T1
  have hne : decide ((L.length : Int) ≠ (L.length : Int)) = false := by simp
  rw [act_281 a k.d k.s, k.h7, k.h8, h20]
  clear k h10 h20 d row ok says few hlp hlq hv hlc hcm hnone
  conv => arg 2; whnf
  go_wp2_with fail
  go_quiet ((go_at_call 14; refine Calls.quiet_of_same ((T1 _ (by first | exact (Ext.refl w).drew | exact (Ext.refl w).drewN _)).mono fun e w' h => ⟨h.1, h.2.symm⟩)))
  go_wp2_with fail
  exact HT.out.ext ((Ext.refl w).drewN nq) ⟨rfl, rfl, HT.out.k.h0, HT.out.k.h1, HT.out.k.h2, rfl, rfl, HT.out.k.h9⟩ HT.out.h10 rfl
def LS (t : TP) (i : Nat) (a : Act) (w : World) : Prop := TS t a w ∧ i ≤ t.L.length ∧ G a 21 = .int .i64 i
set_option maxRecDepth 1000000 in
set_option maxHeartbeats 4000000 in
theorem tl_zero {t : TP} {a : Act} {w : World} (hT : TS t a w) : Code.wp Try.prog (nav [1,1,1,1,0,1,2,3,1,0,2,1,1,1,1,1,1,1,1,0,0] theBody) (Norm (LS t 0)) a w := by
  have HT := Lib.hid hT
  rw [act_281 a hT.k.d hT.k.s]
  conv => arg 2; whnf
  clear hT
  go_wp2_with fail
  exact ⟨HT.out.ext (Ext.refl w) ⟨rfl, rfl, HT.out.k.h0, HT.out.k.h1, HT.out.k.h2, HT.out.k.h7, HT.out.k.h8, HT.out.k.h9⟩ HT.out.h10 HT.out.h20, Nat.zero_le _, rfl⟩
/-- a round's end: the exit, or the next -/
def Rnd (id : Nat) (N K : Act → World → Prop) : Exit → Act → World → Prop
  | .normal, a, w => N a w
  | .exit i, a, w => i = id ∧ K a w
  | _, _, _ => False
set_option maxRecDepth 1000000 in
set_option maxHeartbeats 4000000 in
theorem tl_round {t : TP} {i : Nat} {a : Act} {w : World} (hT : LS t i a w) : Code.wp Try.prog (nav [1,1,1,1,0,1,2,3,1,0,2,1,1,1,1,1,1,1,1,0,1,2,3] theBody) (Rnd 5 (fun a w => LS t (i + 1) a w) (TS t)) a w := by
  obtain ⟨hT, hi, h21⟩ := hT
  have HT := Lib.hid hT
  by_cases hlt : i < t.L.length
  · obtain ⟨A, n, c, x, y, W, g, h, j, gx, v, m, L, nv, nu, ps, qs, qs4, A4, c4, b4, S4⟩ := t
    obtain ⟨k, h10, h20, d, row, ok, says, few⟩ := hT
    simp only at k h10 h20 d row ok says few hlt hi
    obtain ⟨A1, cap, hv, hlc, hcm, hnone⟩ := CRow.form d.2.1.row
    subst hv
    obtain ⟨p, hp, hps⟩ : ∃ p, qs4[i]? = some p ∧ some p.says = L[i]? := by
      have : i < qs4.length := by rw [← says, List.length_map] at hlt; exact hlt
      refine ⟨_, List.getElem?_eq_getElem this, ?_⟩
      rw [← says, List.getElem?_map, List.getElem?_eq_getElem this]
      rfl
    obtain ⟨q, hq, hqs⟩ : ∃ q, qs[i]? = some q ∧ some q.says = L[i]? := by
      have : i < qs.length := by rw [← d.2.2.2.1, List.length_map] at hlt; exact hlt
      refine ⟨_, List.getElem?_eq_getElem this, ?_⟩
      rw [← d.2.2.2.1, List.getElem?_map, List.getElem?_eq_getElem this]
      rfl
    have hlq : qs.length = L.length := by rw [← d.2.2.2.1, List.length_map]
    obtain ⟨r4, rfl, a0, a1, a2⟩ := PRow.at row hp
    obtain ⟨r1, rfl, b0, b1, b2⟩ := PRow.at d.2.1.row hq
    obtain ⟨c0, c1, f0, f1⟩ := d.2.1.cells
    rw [hlq] at c0
    have T1 := fun w' (hx : Ext w w') => packet_same ((ok p (List.mem_of_getElem? hp)).ext hx) ((d.2.1.ok q (List.mem_of_getElem? hq)).ext hx) (by have := hps.trans hqs.symm; simpa using this)
    have hlt' : i + 1 ≤ L.length := hlt
    have HLT := Lib.hid hlt'
    clear hlt'
    have hii : (i : Int) < (L.length : Int) := by omega
    have hin : ((i : Int) < 0) = False := by simp
    have hw1 : IntKind.i64.wrap ((i : Int) + 1) = (i : Int) + 1 := IntWalk.i64_in _ (by omega)
    obtain ⟨pf, pt, pB, pn, pc, pxs⟩ := p
    obtain ⟨qf, qt, qB, qn, qc, qxs⟩ := q
    simp only at a0 a1 a2 b0 b1 b2
    simp only [Pk.val] at T1
    rw [act_281 a k.d k.s, k.h7, k.h8, h20, h21]
    clear k h10 h20 d row ok says few hlt hlc hcm hnone hp hps hq hqs hi h21
    conv => arg 2; whnf
    go_wp2_with fail
    go_region_law (go_simp; go_at_call 8; refine (T1 _ (Ext.refl w).drew).mono ?_; rintro e w1 ⟨rfl, hx⟩; have hx1 : Ext w w1 := ((Ext.refl w).drew).trans hx; clear hx)
    all_goals
      go_wp2_with fail
      exact ⟨HT.out.ext hx1 ⟨rfl, rfl, HT.out.k.h0, HT.out.k.h1, HT.out.k.h2, rfl, rfl, HT.out.k.h9⟩ HT.out.h10 rfl, HLT.out, rfl⟩
  · obtain rfl : i = t.L.length := by omega
    have hnl : decide ((t.L.length : Int) < (t.L.length : Int)) = false := by simp
    rw [act_281 a hT.k.d hT.k.s, hT.h20, h21]
    conv => arg 2; whnf
    clear hT hi hlt h21
    go_wp2_with fail
    exact ⟨rfl, HT.out.ext (Ext.refl w) ⟨rfl, rfl, HT.out.k.h0, HT.out.k.h1, HT.out.k.h2, HT.out.k.h7, HT.out.k.h8, HT.out.k.h9⟩ HT.out.h10 rfl⟩
end Go.Proofs.Ytbeoickdcbnjgaa
