/- The document's Do: destroy, style. -/
import Derived.Test.YtdcbpnkcpglhhaaGrpW
import Derived.Test.YtdcbpnkcpglhhaaGrpWB
import Derived.Test.YtdcbpnkcpglhhaaGrpY
namespace Go.Proofs.Ytdcbpnkcpglhhaa
open Go.RowKit
set_option linter.unusedVariables false
set_option linter.unusedSimpArgs false
set_option linter.unnecessarySimpa false
attribute [local go_sem] stepR givesR fillE Ext.refl run_store_float

set_option maxRecDepth 1000000 in
set_option maxHeartbeats 4000000 in
theorem zend_destroy {w : World} {base g bx : Nat} {v v' : Value} {L L' : List Gp} {S : Nat → Prop} {n : Nat} {A : Option Addr} {c : Nat} {ts : List T} {m : ByteArray} {wr w' : World} {a : Act} (hk : RK g bx m A ts.length c a) (hR : RW w base g bx v L S n A c ts wr) (hd : Dr RD w' base g v' L') (hc : Chg (fun k => k = g ∨ some k = v.ownBlock) wr w') (hf : Fresh wr v v') (ho : w'.heap[bx]? = some zeroV) :
    Code.wp Try.prog (nav [1,1,1,0,2,1,5,1,4,1,1,1] doBody) (RF w base g bx v (L', nilT, 0)) a w' := by
  have H := Lib.hid (And.intro hR (And.intro hd (And.intro hc (And.intro hf ho))))
  obtain ⟨m0, m1, m2, m3, m4, f0, f1, f2, f3, f4⟩ := cells5 ho
  clear hR hd hc hf ho
  rw [act_292 a hk.d hk.s, hk.h6]
  clear hk
  conv => arg 2; whnf
  go_wp2_with fail
  obtain ⟨hR, hd, hc, hf, ho⟩ := H.out
  obtain ⟨o4, hch⟩ := put5 (v0 := .int .i64 0) (v1 := .int .i64 0) (v2 := .float .f64 0) (v3 := .string ⟨#[]⟩) (v4 := .slice none 0 0) ho
  have key := fun (a : Act) ha hs h6 h7 => RF.nil (a := a) hR hd hc hf 0 hch o4 ha hs h6 h7
  exact key _ rfl rfl rfl rfl
set_option maxRecDepth 1000000 in
set_option maxHeartbeats 8000000 in
theorem destroy_piece {w : World} {base g bx : Nat} {v : Value} {L : List Gp} {S : Nat → Prop} {n : Nat} {A : Option Addr} {c : Nat} {t : T} {m : ByteArray} {wr : World} {a : Act} (hk : RK g bx m A 1 c a) (hR : RW w base g bx v L S n A c [t] wr) (hn : nameT t = true) :
    Code.wp Try.prog (nav [1,1,1,0,2,1,5,1,4] doBody) (RF w base g bx v ((destroyG L [t]).1, nilT, (destroyG L [t]).2)) a wr := by
  rw [destroyG, if_pos hn]
  obtain ⟨_, _, hrow⟩ := hR.rd
  obtain ⟨b, off, rfl, hb, hat⟩ := hrow (by simp)
  obtain ⟨A1, c1, ha, _⟩ := hat 0 t rfl
  rw [Nat.zero_mul, Nat.add_zero] at ha
  obtain ⟨k, i, f, s, l⟩ := t
  obtain ⟨a0, a1, a2, a3, a4⟩ := ha
  rw [T.s_mk]
  have F1 := at_any hR.dr s
  have HK := Lib.hid (And.intro hk hR)
  have HO := Lib.hid hR.ob
  obtain ⟨r, hr⟩ : ∃ r, r = (if hasN L s = true then (delG L (posN L s), (0 : Int)) else (L, 30)) := ⟨_, rfl⟩
  rw [← hr]
  have HE := Lib.hid hr
  have HP : Hid (hasN L s = true → posN L s < L.length) := Lib.hid (fun e => by
    obtain ⟨p, hp, _⟩ := hasN_at e
    exact (List.getElem?_eq_some_iff.1 hp).1)
  generalize posN L s = pos at *
  generalize hasN L s = has at *
  rw [act_292 a hk.d hk.s, hk.h0, hk.h2, hk.h6]
  clear hk hR hrow hat hb hr
  obtain ⟨D, hD⟩ : ∃ D, nav [1,1,1,0,2,1,5,1,4,1,1] doBody = D := ⟨_, rfl⟩
  have hD2 := hD
  conv at hD2 => lhs; whnf
  conv => arg 2; whnf
  rw [hD2]
  clear hD2
  go_wp2_with fail
  refine F1.mono ?_
  rintro e w1 ⟨rfl, x1⟩
  have X := Lib.hid x1
  clear x1
  cases has with
  | false =>
    have er : r = (L, 30) := by rw [HE.out]; simp
    obtain ⟨m0, m1, m2, m3, m4, f0, f1', f2', f3, f4⟩ := cells5 (X.out.obj HO.out)
    go_wp2_with fail
    obtain ⟨o4, hch⟩ := put5 (v0 := .int .i64 0) (v1 := .int .i64 0) (v2 := .float .f64 0) (v3 := .string ⟨#[]⟩) (v4 := .slice none 0 0) (X.out.obj HO.out)
    have key := fun (a : Act) ha hs h6 h7 => RF.fail (a := a) HK.out.2 X.out 30 hch o4 ha hs h6 h7
    rw [er]
    exact key _ rfl rfl rfl rfl
  | true =>
    have er : r = (delG L pos, 0) := by rw [HE.out]; simp
    have hlt : pos < L.length := HP.out (by first | rfl | trivial)
    go_wp2_with fail
    rw [er, ← hD]
    obtain ⟨hk, hR⟩ := HK.out
    show Code.wp Try.prog (Code.seq (nav [1,1,1,0,2,1,5,1,4,1,1,0] doBody) (nav [1,1,1,0,2,1,5,1,4,1,1,1] doBody)) _ _ _
    refine wp_seq (wp_mono (del_piece (ts := [T.mk k i f s l]) (c := c) (m := m) (pos := pos) ⟨rfl, rfl, rfl, hk.h1, rfl, rfl, hk.h10⟩ rfl (hR.ext X.out) hlt) ?_)
    intro e a8 w8 hr
    cases e with
    | normal =>
      obtain ⟨hk8, v8, hd8, hc8, hf8, ho8⟩ := hr
      exact zend_destroy (ts := [T.mk k i f s l]) hk8 hR hd8 ((Chg.of_ext X.out).trans hc8 (fun _ _ h => h.elim) (fun _ _ h => h)) (hf8.low X.out.size_le') ho8
    | _ => exact hr.elim
set_option maxRecDepth 1000000 in
set_option maxHeartbeats 8000000 in
theorem style_piece {w : World} {base g bx : Nat} {v : Value} {L : List Gp} {S : Nat → Prop} {n : Nat} {A : Option Addr} {c : Nat} {t u : T} {m : ByteArray} {wr : World} {a : Act} (hk : RK g bx m A 2 c a) (hR : RW w base g bx v L S n A c [t, u] wr) (hn : nameT t = true) :
    Code.wp Try.prog (nav [1,1,1,0,2,1,5,1,5,1,4] doBody) (RF w base g bx v ((restyleG L [t, u]).1, nilT, (restyleG L [t, u]).2)) a wr := by
  rw [restyleG, if_pos hn]
  obtain ⟨_, _, hrow⟩ := hR.rd
  obtain ⟨b, off, rfl, hb, hat⟩ := hrow (by simp)
  obtain ⟨A1, c1, ha, _⟩ := hat 0 t rfl
  obtain ⟨A2, c2, hu, _⟩ := hat 1 u rfl
  rw [Nat.zero_mul, Nat.add_zero] at ha
  rw [Nat.one_mul] at hu
  obtain ⟨k, i, f, s, l⟩ := t
  obtain ⟨k', i', f', s', l'⟩ := u
  obtain ⟨a0, a1, a2, a3, a4⟩ := ha
  obtain ⟨u0, u1, u2, u3, u4⟩ := hu
  rw [T.s_mk, T.s_mk]
  have S1 := styleOf_any (w := wr) (k := k') (i := i') (f := f') (s := s') (n := l'.length) (A := A2) (c := c2)
  have es : styleT (.mk k' i' f' s' l') = (decide (0 ≤ styS s') && decide (k' = 3)) := by rw [styleT]
  rw [← es] at S1
  have F1 := fun w' (hx : Ext wr w') => at_any (hR.dr.ext hx) s
  have HK := Lib.hid (And.intro hk hR)
  have HO := Lib.hid hR.ob
  obtain ⟨r, hr⟩ : ∃ r, r = (if styleT (.mk k' i' f' s' l') = true then (if hasN L s = true then (setG L (posN L s) (bump (L.getD (posN L s) gp0) (styS s')), (0 : Int)) else (L, 30)) else (L, 31)) := ⟨_, rfl⟩
  rw [← hr]
  have HE := Lib.hid hr
  have HP : Hid (hasN L s = true → ∃ p, L[posN L s]? = some p ∧ L.getD (posN L s) gp0 = p) := Lib.hid (fun e => by
    obtain ⟨p, hp, _⟩ := hasN_at e
    exact ⟨p, hp, by rw [List.getD_eq_getElem?_getD, hp]; rfl⟩)
  have HZ : Hid (styleT (.mk k' i' f' s' l') = true → styS s' = 0 ∨ styS s' = 1 ∨ styS s' = 2) := Lib.hid (fun e => by rw [es] at e; simp only [Bool.and_eq_true, decide_eq_true_eq] at e; exact styS_range e.1)
  generalize posN L s = pos at *
  generalize hasN L s = has at *
  generalize styleT (.mk k' i' f' s' l') = st at *
  generalize styS s' = z at *
  rw [act_292 a hk.d hk.s, hk.h0, hk.h2, hk.h6, hk.h10]
  clear hk hR hrow hat hb hr es
  obtain ⟨D, hD⟩ : ∃ D, nav [1,1,1,0,2,1,5,1,5,1,4,1,1,1,1] doBody = D := ⟨_, rfl⟩
  have hD2 := hD
  conv at hD2 => lhs; whnf
  conv => arg 2; whnf
  rw [hD2]
  clear hD2
  go_wp2_with fail
  refine S1.mono ?_
  rintro e w1 ⟨rfl, x1⟩
  cases st with
  | false =>
    have X := Lib.hid x1
    clear x1
    have er : r = (L, 31) := by rw [HE.out]; simp
    obtain ⟨m0, m1, m2, m3, m4, f0, f1', f2', f3, f4⟩ := cells5 (X.out.obj HO.out)
    go_wp2_with fail
    obtain ⟨o4, hch⟩ := put5 (v0 := .int .i64 0) (v1 := .int .i64 0) (v2 := .float .f64 0) (v3 := .string ⟨#[]⟩) (v4 := .slice none 0 0) (X.out.obj HO.out)
    have key := fun (a : Act) ha hs h6 h7 => RF.fail (a := a) HK.out.2 X.out 31 hch o4 ha hs h6 h7
    rw [er]
    exact key _ rfl rfl rfl rfl
  | true =>
    rw [show styR true z = z from rfl]
    have b3 := x1.cell a3
    have F2 := F1 w1 x1
    have X1 := Lib.hid x1
    clear x1 F1
    go_wp2_with fail
    refine F2.mono ?_
    rintro e w2 ⟨rfl, x2⟩
    have X := Lib.hid (X1.out.trans x2)
    clear x2
    cases has with
    | false =>
      have er : r = (L, 30) := by rw [HE.out]; simp
      obtain ⟨m0, m1, m2, m3, m4, f0, f1', f2', f3, f4⟩ := cells5 (X.out.obj HO.out)
      go_wp2_with fail
      obtain ⟨o4, hch⟩ := put5 (v0 := .int .i64 0) (v1 := .int .i64 0) (v2 := .float .f64 0) (v3 := .string ⟨#[]⟩) (v4 := .slice none 0 0) (X.out.obj HO.out)
      have key := fun (a : Act) ha hs h6 h7 => RF.fail (a := a) HK.out.2 X.out 30 hch o4 ha hs h6 h7
      rw [er]
      exact key _ rfl rfl rfl rfl
    | true =>
      obtain ⟨p, hp, hgd⟩ := HP.out (by first | rfl | trivial)
      have er : r = (setG L pos (bump p z), 0) := by rw [HE.out, hgd]; simp
      have hz := HZ.out (by first | rfl | trivial)
      have HH := Lib.hid (And.intro hp hz)
      clear hp hz hgd HP HZ
      go_wp2_with fail
      rw [er, ← hD]
      obtain ⟨hk, hR⟩ := HK.out
      have hR2 := hR.ext X.out
      refine wp_mono (set_piece (ts := [T.mk k i f s l, T.mk k' i' f' s' l']) (w := w) (m := m) (pos := pos) (z := z) (p := p) ⟨rfl, rfl, rfl, hk.h1, rfl, rfl, rfl⟩ rfl rfl HH.out.2 hR2 HH.out.1) ?_
      intro e a8 w8 hr
      cases e with
      | ret => exact hr
      | _ => exact hr.elim
end Go.Proofs.Ytdcbpnkcpglhhaa
