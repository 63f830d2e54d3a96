/- The law NetPlays: an act that sends: its own bytes are poked. -/
import Derived.Test.YtbeoickdcbnjgaaNetZ
import Derived.Test.YtbeoickdcbnjgaaNetT
namespace Go.Proofs.Ytbeoickdcbnjgaa
open Go.RowKit
set_option linter.unusedVariables false
set_option linter.unusedSimpArgs false
attribute [local go_sem] stepR givesR fillE Ext.refl

structure GQ where
  A : Option Addr
  n : Nat
  c : Nat
  x : Int
  y : Int
  W : World
  g : Nat
  h : Nat
  j : Nat
  gx : Nat
  v : ActV
  S : Nat → Prop
  Ag : Option Addr
  cg : Nat
  m : Nat
  L : List Says
def GT (t : GQ) (a : Act) (w : World) : Prop := DS t.A t.n t.c t.x t.y t.W t.g t.h t.j t.gx t.v t.S t.Ag t.cg a w ∧ Duo t.S t.W w t.g t.h (some (t.gx, t.v.arr)) t.m t.m t.L t.L [t.v.p]
def GL (t : GQ) (i : Nat) (a : Act) (w : World) : Prop := GT t a w ∧ i ≤ t.v.p.n ∧ G a 19 = .int .i64 i
set_option maxRecDepth 1000000 in
set_option maxHeartbeats 4000000 in
theorem gv_zero {t : GQ} {a : Act} {w : World} (hT : GT t a w) : Code.wp Try.prog (nav [1,1,1,1,0,1,2,3,1,0,2,1,1,1,1,1,0,1,2,1,5,1,5,1,5,1,5,1,1,1,1,0] theBody) (Norm (GL t 0)) a w := by
  have HT := Lib.hid hT
  rw [act_281 a hT.1.k.d hT.1.k.s]
  conv => arg 2; whnf
  clear hT
  go_wp2_with fail
  obtain ⟨hD, hd⟩ := HT.out
  exact ⟨⟨⟨⟨rfl, rfl, hD.k.h0, hD.k.h1, hD.k.h2, hD.k.h7, hD.k.h8, hD.k.h9⟩, hD.h10, hD.h17, hD.give, hD.wide, hD.le⟩, hd⟩, Nat.zero_le _, rfl⟩
theorem GT.poke {t : GQ} {a a' : Act} {w : World} (hT : GT t a w) {i b : Nat} {cur : Array Value} {z : Int} (hi : i < t.v.p.n) (hA : t.Ag = some ⟨b, 0, none⟩) (hb : t.W.heap.size ≤ b) (hS : t.S b) (ho : w.heap[b]? = some (.cells cur 5 (0, 0))) (hz : ∀ j, j < t.v.p.n → ∃ z, cur[j]? = some (.int .u8 z)) (hk : Kn t.A t.n t.c t.x t.y t.g t.h t.j a') (h10 : G a' 10 = .pointer (some ⟨t.gx, 0, none⟩)) (h17 : G a' 17 = .slice t.Ag t.v.p.n t.cg) : GT t a' (w.setCell ⟨b, i, none⟩ (.int .u8 z)) := by
  obtain ⟨hD, hd⟩ := hT
  have hc : Chg (fun k => k = b) w (w.setCell ⟨b, i, none⟩ (.int .u8 z)) := (Chg.refl (fun k => k = b) w).setCell ⟨b, i, none⟩ _ (fun _ => rfl)
  have ho' := put2' (i := i) (x := .int .u8 z) ho
  refine ⟨⟨hk, h10, h17, fun hp => ⟨b, _, hA, hb, hS, ho', fun j hj => ?_⟩, hD.wide, hD.le⟩, ?_⟩
  · obtain ⟨z', hz'⟩ := hz j hj
    rcases Nat.decEq i j with h | rfl
    · exact ⟨z', by rw [Array.getElem?_setIfInBounds_ne h]; exact hz'⟩
    · exact ⟨z, by rw [Array.getElem?_setIfInBounds_self_of_lt (Array.getElem?_eq_some_iff.1 hz').1]⟩
  · have hact := hd.actc
    obtain ⟨nv, nu, ps, qs, d⟩ := hd
    refine ⟨nv, nu, ps, qs, d.poke hc hS ?_ ?_ ?_ ?_ hb⟩
    · intro e
      have := d.1.obj; rw [e, ho] at this; injection this with this; injection this with _ this; exact absurd this (by decide)
    · intro e
      have := d.2.1.obj; rw [e, ho] at this; injection this with this; injection this with _ this; exact absurd this (by decide)
    · exact CRow.ne d.1.row ho (by decide)
    · intro cs e
      injection e with e
      have e1 : t.gx = b := congrArg Prod.fst e
      rw [e1, ho] at hact; injection hact with hact; injection hact with _ hact; exact absurd hact (by decide)
set_option maxRecDepth 1000000 in
set_option maxHeartbeats 4000000 in
theorem gv_round {t : GQ} {i : Nat} {a : Act} {w : World} (hT : GL t i a w) (hn : t.v.p.n ≤ 1000) : Code.wp Try.prog (nav [1,1,1,1,0,1,2,3,1,0,2,1,1,1,1,1,0,1,2,1,5,1,5,1,5,1,5,1,1,1,1,1,2,3] theBody) (Rnd 3 (fun a w => GL t (i + 1) a w) (GT t)) a w := by
  obtain ⟨hT, hi, h19⟩ := hT
  have HT := Lib.hid hT
  by_cases hlt : i < t.v.p.n
  · obtain ⟨b, cur, hA, hb, hS, ho, hz⟩ := hT.1.give (by omega)
    obtain ⟨z, hzi⟩ := hz i hlt
    have e0 : w.cell? ⟨b, i, none⟩ = some (.int .u8 z) := (cell_of_row w b i _ _ _ ho).trans hzi
    have e1 : w.frozen? ⟨b, i, none⟩ = false := by simp [World.frozen?, ho]
    have hii : (i : Int) < (t.v.p.n : Int) := by omega
    have hin : ((i : Int) < 0) = False := by simp
    have hw1 : IntKind.i64.wrap ((i : Int) + 1) = (i : Int) + 1 := IntWalk.i64_in _ (by omega)
    have HB := Lib.hid (And.intro hlt (And.intro hA (And.intro hb (And.intro hS (And.intro ho hz)))))
    have h17 := hT.1.h17
    rw [hA] at h17
    rw [act_281 a hT.1.k.d hT.1.k.s, h17, h19]
    clear hT hA hb hS ho hz hzi hlt hi h19 h17
    conv => arg 2; whnf
    go_wp2_with fail
    obtain ⟨hlt, hA, hb, hS, ho, hz⟩ := HB.out
    have hD := HT.out.1
    exact ⟨HT.out.poke hlt hA hb hS ho hz ⟨rfl, rfl, hD.k.h0, hD.k.h1, hD.k.h2, hD.k.h7, hD.k.h8, hD.k.h9⟩ hD.h10 (by rw [hA]; rfl), hlt, rfl⟩
  · obtain rfl : i = t.v.p.n := by omega
    have hnl : decide ((t.v.p.n : Int) < (t.v.p.n : Int)) = false := by simp
    rw [act_281 a hT.1.k.d hT.1.k.s, hT.1.h17, h19]
    conv => arg 2; whnf
    clear hT hi hlt h19
    go_wp2_with fail
    obtain ⟨hD, hd⟩ := HT.out
    exact ⟨rfl, ⟨⟨rfl, rfl, hD.k.h0, hD.k.h1, hD.k.h2, hD.k.h7, hD.k.h8, hD.k.h9⟩, hD.h10, rfl, hD.give, hD.wide, hD.le⟩, hd⟩
set_option maxRecDepth 1000000 in
theorem gv_loop {t : GQ} {a : Act} {w : World} (hT : GL t 0 a w) (hn : t.v.p.n ≤ 1000) : Code.wp Try.prog (nav [1,1,1,1,0,1,2,3,1,0,2,1,1,1,1,1,0,1,2,1,5,1,5,1,5,1,5,1,1,1,1,1] theBody) (Norm (GT t)) a w := by
  show Code.wp Try.prog (Code.block 3 (Code.loop (nav [1,1,1,1,0,1,2,3,1,0,2,1,1,1,1,1,0,1,2,1,5,1,5,1,5,1,5,1,1,1,1,1,2,3] theBody))) _ _ _
  refine wp_block (wp_loop (fun a w => ∃ i, GL t i a w) (fun a w => t.v.p.n - (intOf (G a 19)).toNat) ⟨0, hT⟩ ?_)
  rintro a w ⟨i, h⟩
  refine wp_mono (gv_round h hn) ?_
  intro e a' w' hr
  cases e with
  | normal =>
    refine ⟨⟨i + 1, hr⟩, ?_⟩
    have h1 := hr.2.1
    have h2 := hr.2.2
    have h3 := h.2.2
    simp only [h2, h3, intOf]
    omega
  | exit id =>
    obtain ⟨rfl, hr⟩ := hr
    simp only [Exit.then, Exit.inBlock, if_true]
    exact hr
  | _ => exact hr.elim
set_option maxRecDepth 1000000 in
theorem gv_all {A : Option Addr} {n c : Nat} {x y : Int} {W : World} {g h j gx l : Nat} {v : ActV} {a : Act} {w : World} (hk : Kn A n c x y g h j a) (h10 : G a 10 = .pointer (some ⟨gx, 0, none⟩)) (hS : Stand W g h (some (gx, v.arr)) [v.p] l w) (hl : l ≤ 60) (hok : Wf v.p.says) :
    Code.wp Try.prog (nav [1,1,1,1,0,1,2,3,1,0,2,1,1,1,1,1,0,1,2,1,5,1,5,1,5,1,5] theBody) (Norm (SwPost A n c x y W g h j gx (l + 1) v)) a w := by
  have hn : v.p.n ≤ 1000 := by
    obtain ⟨_, _, ⟨_, _, _, _, d⟩, _⟩ := hS
    exact (d.2.2.2.2.1 v.p (by simp)).2.2
  show Code.wp Try.prog (Code.seq (nav [1,1,1,1,0,1,2,3,1,0,2,1,1,1,1,1,0,1,2,1,5,1,5,1,5,1,5,0] theBody) (Code.seq (nav [1,1,1,1,0,1,2,3,1,0,2,1,1,1,1,1,0,1,2,1,5,1,5,1,5,1,5,1,0] theBody) (Code.seq (nav [1,1,1,1,0,1,2,3,1,0,2,1,1,1,1,1,0,1,2,1,5,1,5,1,5,1,5,1,1,0] theBody) (Code.seq (nav [1,1,1,1,0,1,2,3,1,0,2,1,1,1,1,1,0,1,2,1,5,1,5,1,5,1,5,1,1,1,0] theBody) (Code.seq (nav [1,1,1,1,0,1,2,3,1,0,2,1,1,1,1,1,0,1,2,1,5,1,5,1,5,1,5,1,1,1,1,0] theBody) (nav [1,1,1,1,0,1,2,3,1,0,2,1,1,1,1,1,0,1,2,1,5,1,5,1,5,1,5,1,1,1,1,1] theBody)))))) _ _ _
  refine seq_norm (gv_copy hk h10 hS) ?_
  rintro a w ⟨S, Ag, cg, lo, hD, hB, m, L, hd, hL, hLw⟩
  refine seq_norm (gv_pack (l := l) hD hB hd) ?_
  rintro a w ⟨hD, hB, hd, gp, h18, ho⟩
  refine seq_norm (gv_send (l := l) hD hB hd (Nat.le_trans hL hl) h18 ho) ?_
  rintro a w ⟨hD, hd⟩
  refine seq_norm (gv_doc (l := l) (lo := lo) (gp := gp) hD hd (Nat.le_trans hL hl)) ?_
  rintro a w ⟨hD, hd⟩
  refine seq_norm (gv_zero (t := ⟨A, n, c, x, y, W, g, h, j, gx, v, S, Ag, cg, m, L ++ [v.p.says]⟩) ⟨hD, hd⟩) ?_
  intro a w hG
  refine norm_mono (gv_loop hG hn) ?_
  rintro a w ⟨hD, hd⟩
  refine ⟨hD.k, hD.h10, m, L ++ [v.p.says], ?_, by simp; omega, fun s hs => ?_⟩
  · rcases hD.wide with e | ⟨b, e⟩
    · replace e : S = GH g h := e
      subst e
      exact hd
    · replace e : S = Add (GH g h) b := e
      subst e
      exact Duo.narrow (b := b) hd (.inl rfl) (.inr rfl)
  · rcases List.mem_append.1 hs with hs | hs
    · exact hLw s hs
    · rw [List.mem_singleton.1 hs]; exact hok
set_option maxRecDepth 1000000 in
set_option maxHeartbeats 4000000 in
theorem sw_give {A : Option Addr} {n c : Nat} {x y : Int} {W : World} {g h j gx l : Nat} {v : ActV} {k : Int} {t : Bool} {a : Act} {w : World}
    (hk : Kn A n c x y g h j a) (h10 : G a 10 = .pointer (some ⟨gx, 0, none⟩)) (hS : StandI W g h (some (gx, v.arr)) [v.p] l k t w) (hl60 : l ≤ 60) (hok : ActOk W v) (hw : v.what % 8 < 3) (hw2 : 0 ≤ v.what ∧ v.what ≤ 255) :
    Code.wp Try.prog (nav [1,1,1,1,0,1,2,3,1,0,2,1,1,1,1,1,0] theBody) (Norm (SwPost A n c x y W g h j gx (l + 1) v)) a w := by
  obtain ⟨m, L, hd, hl, hwf, _⟩ := hS
  have x0 : w.cell? ⟨gx, 0, none⟩ = some (.int .u8 v.what) := (cell_of_row w gx 0 _ _ _ hd.actc).trans rfl
  have HH := Lib.hid (And.intro hk (And.intro h10 (And.intro hd (And.intro hl hwf))))
  rw [act_281 a hk.d hk.s, h10]
  clear hk h10 hl hwf hd
  obtain ⟨D, hD⟩ : ∃ D, nav [1,1,1,1,0,1,2,3,1,0,2,1,1,1,1,1,0,1,2,1,5,1,5,1,5,1,5] theBody = D := ⟨_, rfl⟩
  have hD2 := hD
  conv at hD2 => lhs; whnf
  conv => arg 2; whnf
  rw [hD2]
  clear hD2
  obtain ⟨what, hv⟩ : ∃ what, v.what = what := ⟨_, rfl⟩
  rw [hv] at hw hw2 x0
  clear hv
  rcases (show what % 8 = 0 ∨ what % 8 = 1 ∨ what % 8 = 2 by omega) with hw8 | hw8 | hw8
  all_goals
    clear hw
    go_wp2_with fail
    rw [← hD]
    obtain ⟨hk, h10, hd, hl, hwf⟩ := HH.out
    refine wp_mono (gv_all (gx := gx) (v := v) (l := l) ⟨rfl, rfl, hk.h0, hk.h1, hk.h2, hk.h7, hk.h8, hk.h9⟩ rfl ⟨m, L, hd, hl, hwf⟩ hl60 hok.2.2.2.2.1) ?_
    intro e a' w' hr
    cases e with
    | normal => exact hr
    | _ => exact hr.elim
end Go.Proofs.Ytbeoickdcbnjgaa
