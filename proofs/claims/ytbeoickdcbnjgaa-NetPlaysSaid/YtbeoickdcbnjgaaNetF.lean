/- The net: Take, All. -/
import Derived.Test.YtbeoickdcbnjgaaNetE
namespace Go.Proofs.Ytbeoickdcbnjgaa
open Go.RowKit
set_option linter.unusedVariables false
set_option linter.unusedSimpArgs false
attribute [local go_sem] stepR givesR fillE Ext.refl

abbrev Says := Int × Int × List Int
/-- what Take comes to: what is left; what is told -/
def takeOf (m : Nat) (L : List Says) (i : Int) : List Says × Says × Bool :=
  if inB i L.length = true then (L.eraseIdx i.toNat, if joinB m (L.getD i.toNat (0, 0, [])).1 (L.getD i.toNat (0, 0, [])).2.1 then (L.getD i.toNat (0, 0, []), true) else ((0, 0, []), false)) else (L, (0, 0, []), false)
def TakePost (w : World) (S : Nat → Prop) (base g : Nat) (v : Value) (m : Nat) (x : List Says × Says × Bool) (e : Ending) (w' : World) : Prop :=
  ∃ v' ps' q, e = .returned (.tuple #[.agg #[.int .i64 q.f, .int .i64 q.t, .slice q.B q.n q.c], .bool x.2.2]) ∧ NetP w' S base g v' m ps' ∧ ps'.map Pk.says = x.1 ∧ q.says = x.2.1 ∧ PkOk w' (With S v') q ∧ Fresh w v v' ∧ Chg (fun k => k = g ∨ some k = v.ownBlock) w w'
def pk0 : Pk := ⟨0, 0, none, 0, 0, []⟩
theorem pk0_ok (w : World) (S : Nat → Prop) : PkOk w S pk0 := ⟨Bt.nil _ _ _, Nat.le_refl _, Nat.zero_le _⟩
/-- one new block more is kept apart -/
def Add (S : Nat → Prop) (b : Nat) (k : Nat) : Prop := S k ∨ k = b
theorem PkOk.add {w w' : World} {S : Nat → Prop} {v : Value} {p : Pk} {b : Nat} (h : PkOk w (With S v) p) (hx : Ext w w') (hb : w.heap.size ≤ b) : PkOk w' (With (Add S b) v) p :=
  h.chg (Chg.of_ext hx) (fun _ _ h => h.elim) (fun k hk hw => by
    rcases hw with (hw | hw) | hw
    · exact .inl hw
    · omega
    · exact .inr hw)
theorem NetP.add {w w' : World} {S : Nat → Prop} {base g : Nat} {v : Value} {m : Nat} {ps : List Pk} {b : Nat} (h : NetP w S base g v m ps) (hx : Ext w w') (hb : w.heap.size ≤ b) (hb' : b < w'.heap.size) : NetP w' (Add S b) base g v m ps :=
  ⟨hx.obj h.obj, h.low, .inl h.mem, CRow.ext h.row hx, fun p hp => (h.ok p hp).add hx hb, h.few, h.mask, fun k hk => by
    rcases hk with hk | hk
    · exact Nat.lt_of_lt_of_le (h.sub k hk) hx.size_le'
    · omega⟩
theorem PkOk.drop {w w' : World} {S : Nat → Prop} {v : Value} {p : Pk} {b : Nat} (h : PkOk w (With (Add S b) v) p) (hc : Chg (fun k => k = b) w w') : PkOk w' (With S v) p :=
  h.chg hc (fun k _ e => .inl (.inr e)) (fun k _ hw => by
    rcases hw with hw | hw
    · exact .inl (.inl hw)
    · exact .inr hw)
theorem NetP.drop {w w' : World} {S : Nat → Prop} {base g : Nat} {v : Value} {m : Nat} {ps : List Pk} {b : Nat} (h : NetP w (Add S b) base g v m ps) (hg : S g) (hgb : g ≠ b) (hvb : v.ownBlock ≠ some b) (hc : Chg (fun k => k = b) w w') : NetP w' S base g v m ps :=
  ⟨hc.obj h.obj hgb, h.low, hg, CRow.chg h.row hc (fun k hk e => hvb (e ▸ hk)), fun p hp => (h.ok p hp).drop hc, h.few, h.mask, fun k hk => Nat.lt_of_lt_of_le (h.sub k (.inl hk)) hc.size⟩
set_option maxRecDepth 100000 in
set_option maxHeartbeats 1000000 in
theorem take_any {w : World} {S : Nat → Prop} {base g : Nat} {v : Value} {m : Nat} {ps : List Pk} (h : NetP w S base g v m ps) (hb : base ≤ w.heap.size) (i : Int) (hwf : ∀ p ∈ ps, (IntKind.i64.min ≤ p.f ∧ p.f ≤ IntKind.i64.max) ∧ (IntKind.i64.min ≤ p.t ∧ p.t ≤ IntKind.i64.max)) :
    Calls Try.prog 6 #[.pointer (some ⟨g, 0, none⟩), .int .i64 i] w (TakePost w S base g v m (takeOf m (ps.map Pk.says) i)) := by
  cases hin : inB i ps.length with
  | false =>
    have e : takeOf m (ps.map Pk.says) i = (ps.map Pk.says, (0, 0, []), false) := by unfold takeOf; rw [List.length_map, hin]; rfl
    rw [e]
    have h1 := has_any (h.ext ((Ext.refl w).alloc (.cells #[.int .i64 0, .int .i64 0, .slice none 0 0] 33))) i
    rw [hin] at h1
    have H := Lib.hid h
    clear h hin e
    go_enter Try.func6, Try.ntmps6
    go_wp2_with fail
    refine h1.mono ?_; rintro e w1 ⟨rfl, rfl⟩
    go_wp2
    refine bodyPost_ret (v := .tuple #[.agg #[.int .i64 0, .int .i64 0, .slice none 0 0], .bool false]) (by simp [results, Try.results6, go_sem]; try rfl) rfl ?_
    exact ⟨v, ps, pk0, rfl, H.out.ext ((Ext.refl w).alloc _), rfl, rfl, pk0_ok _ _, .inl rfl, (Chg.refl _ w).alloc _⟩
  | true =>
    have hii : 0 ≤ i ∧ i < ps.length := by simpa [inB] using hin
    obtain ⟨j, rfl⟩ := Int.eq_ofNat_of_zero_le hii.1
    have hj : j < ps.length := by omega
    obtain ⟨p, hp⟩ : ∃ p, ps[j]? = some p := ⟨_, List.getElem?_eq_getElem hj⟩
    have hsay : (ps.map Pk.says).getD j (0, 0, []) = p.says := by rw [List.getD_eq_getElem?_getD, List.getElem?_map, hp]; rfl
    have e : takeOf m (ps.map Pk.says) (j : Int) = ((ps.map Pk.says).eraseIdx j, if joinB m p.f p.t then (p.says, true) else ((0, 0, []), false)) := by
      unfold takeOf
      rw [List.length_map, hin, if_pos rfl]
      simp only [Int.toNat_natCast, hsay]
      rfl
    obtain ⟨X, hX⟩ : ∃ X, takeOf m (ps.map Pk.says) (j : Int) = X := ⟨_, rfl⟩
    rw [hX]
    have HXE : Hid (X = ((ps.map Pk.says).eraseIdx j, if joinB m p.f p.t then (p.says, true) else ((0, 0, []), false))) := Lib.hid (hX.symm.trans e)
    clear hX
    have hx1 : Ext w (w.alloc (.cells #[.int .i64 0, .int .i64 0, .slice none 0 0] 33)) := (Ext.refl w).alloc _
    have h1 := has_any (h.ext hx1) (j : Int)
    rw [hin] at h1
    obtain ⟨c0, c1, f0, f1⟩ := (h.ext hx1).cells
    obtain ⟨A, c, hv, hlc, hcm, hnone⟩ := CRow.form h.row
    subst hv
    obtain ⟨r, rfl, hat⟩ := PRow.at (h.ext hx1).row hp
    obtain ⟨p0, p1, p2⟩ := hat
    have H := Lib.hid (And.intro h (h.ok p (List.mem_of_getElem? hp)))
    have HW := Lib.hid (hwf p (List.mem_of_getElem? hp))
    obtain ⟨pf, pt, pB, pn, pc, pxs⟩ := p
    have hji : (j : Int) < (ps.length : Int) := by omega
    have hjn : ((j : Int) < 0) = False := by simp
    simp only at p0 p1 p2
    have HJ := Lib.hid (And.intro hj (And.intro hp hb))
    have o4 := heap_alloc_new w (.cells #[.int .i64 0, .int .i64 0, .slice none 0 0] 33)
    have HX1 := Lib.hid hx1
    clear h hin e hii hlc hcm hnone hp hj hwf hsay hx1 hb
    go_enter Try.func6, Try.ntmps6
    go_wp2_with fail
    refine h1.mono ?_; rintro e w1 ⟨rfl, rfl⟩
    clear h1
    have hb4 : w.heap.size < (w.alloc (.cells #[.int .i64 0, .int .i64 0, .slice none 0 0] 33)).heap.size := by simp
    revert c0 c1 f0 f1 p0 p1 p2 o4 HX1 hb4
    generalize w.alloc (.cells #[.int .i64 0, .int .i64 0, .slice none 0 0] 33) = w1
    obtain ⟨b4, hb4e⟩ : ∃ b4, w.heap.size = b4 := ⟨_, rfl⟩
    have HB4 := Lib.hid hb4e
    rw [hb4e]
    clear hb4e
    intro c0 c1 f0 f1 p0 p1 p2 o4 HX1 hb4
    go_wp2_with fail
    have o6 := heap_alloc_new w1 (.cells #[.int .i64 pf, .int .i64 pt, .slice pB pn pc] 33)
    have hx2 : Ext w1 (w1.alloc (.cells #[.int .i64 pf, .int .i64 pt, .slice pB pn pc] 33)) := (Ext.refl w1).alloc _
    have o4' := hx2.obj o4
    have hb6 : w1.heap.size < (w1.alloc (.cells #[.int .i64 pf, .int .i64 pt, .slice pB pn pc] 33)).heap.size := by simp
    revert o6 hx2 o4' hb6
    generalize w1.alloc (.cells #[.int .i64 pf, .int .i64 pt, .slice pB pn pc] 33) = w2
    generalize w1.heap.size = b6 at *
    intro o6 hx2 o4' hb6
    have hX : Ext w w2 := HX1.out.trans hx2
    have hn2 := H.out.1.add hX (Nat.le_of_eq HB4.out) (by omega : b4 < w2.heap.size)
    have hpk2 := H.out.2.add hX (Nat.le_of_eq HB4.out)
    have hD := drop_yes hn2 (Nat.le_trans HJ.out.2.2 hX.size_le') j HJ.out.1
    have hSlt : ∀ k, With S (.slice (some ⟨r, 0, none⟩) ps.length c) k → k < b4 := by rw [← HB4.out]; exact H.out.1.own_lt
    have HS := Lib.hid (And.intro hSlt (And.intro hn2 (And.intro hpk2 hX)))
    clear hn2 hpk2 hX hSlt c0 c1 f0 f1 p0 p1 p2 o4 hx2
    refine hD.mono ?_
    rintro e w3 ⟨v', ps', rfl, q1, q2, q3, q4⟩
    have hbb : b4 ≤ b6 := Nat.le_of_lt hb4
    have hnot4 : ¬ (b4 = g ∨ some b4 = (Value.slice (some ⟨r, 0, none⟩) ps.length c).ownBlock) := fun hh => by
      have := HS.out.1 b4 (by rcases hh with hh | hh; · exact .inl (hh ▸ H.out.1.mem)
                              · exact .inr hh)
      omega
    have hnot6 : ¬ (b6 = g ∨ some b6 = (Value.slice (some ⟨r, 0, none⟩) ps.length c).ownBlock) := fun hh => by
      have := HS.out.1 b6 (by rcases hh with hh | hh; · exact .inl (hh ▸ H.out.1.mem)
                              · exact .inr hh)
      omega
    have r4 := q4.obj o4' hnot4
    have r6 := q4.obj o6 hnot6
    have s0 : w3.cell? ⟨b6, 0, none⟩ = some (.int .i64 pf) := (cell_of_row w3 b6 0 _ _ _ r6).trans rfl
    have s1 : w3.cell? ⟨b6, 1, none⟩ = some (.int .i64 pt) := (cell_of_row w3 b6 1 _ _ _ r6).trans rfl
    have s2 : w3.cell? ⟨b6, 2, none⟩ = some (.slice pB pn pc) := (cell_of_row w3 b6 2 _ _ _ r6).trans rfl
    have t0 : w3.cell? ⟨b4, 0, none⟩ = some (.int .i64 0) := (cell_of_row w3 b4 0 _ _ _ r4).trans rfl
    have t1 : w3.cell? ⟨b4, 1, none⟩ = some (.int .i64 0) := (cell_of_row w3 b4 1 _ _ _ r4).trans rfl
    have t2 : w3.cell? ⟨b4, 2, none⟩ = some (.slice none 0 0) := (cell_of_row w3 b4 2 _ _ _ r4).trans rfl
    have u0 : w3.frozen? ⟨b4, 0, none⟩ = false := by simp [World.frozen?, r4]
    have u1 : w3.frozen? ⟨b4, 1, none⟩ = false := by simp [World.frozen?, r4]
    have u2 : w3.frozen? ⟨b4, 2, none⟩ = false := by simp [World.frozen?, r4]
    have hJ := joined_any q1 pf pt HW.out.1 HW.out.2
    have HQ := Lib.hid (And.intro q1 (And.intro q2 (And.intro q3 (And.intro q4 r4))))
    clear q1 q2 q3 q4 r4 r6 o6 o4' hD
    obtain ⟨J, hJe⟩ : ∃ J, joinB m pf pt = J := ⟨_, rfl⟩
    have hXE := HXE.out
    rw [hJe] at hJ
    simp only [hJe] at hXE
    have HXX := Lib.hid hXE
    clear hJe hXE HXE
    have hfin : ∀ (q : Pk) (w4 : World), Chg (fun k => k = b4) w3 w4 → (q = pk0 ∨ q = ⟨pf, pt, pB, pn, pc, pxs⟩) → ∀ ok : Bool, X = ((ps.map Pk.says).eraseIdx j, q.says, ok) → TakePost w S base g (.slice (some ⟨r, 0, none⟩) ps.length c) m X (.returned (.tuple #[Pk.val q, .bool ok])) w4 := by
      intro q w4 hc hq ok hXe
      subst hXe
      obtain ⟨q1, q2, q3, q4, r4⟩ := HQ.out
      obtain ⟨hSlt, hn2, hpk2, hX⟩ := HS.out
      have hgb : g ≠ b4 := by have := hSlt g (.inl H.out.1.mem); omega
      have hvb : v'.ownBlock ≠ some b4 := by
        intro e
        rcases q3 with e' | ⟨i, e', hi⟩
        · have := hSlt b4 (.inr (by rw [← e', e]))
          omega
        · rw [e] at e'
          injection e' with e'
          omega
      have hc04 : Chg (fun k => k = g ∨ some k = (Value.slice (some ⟨r, 0, none⟩) ps.length c).ownBlock) w w4 := ((Chg.of_ext hX).trans q4 (fun _ _ h => h.elim) (fun _ _ h => h)).trans hc (fun _ _ h => h) (fun k hk e => by have := HB4.out; omega)
      have hfr : Fresh w (.slice (some ⟨r, 0, none⟩) ps.length c) v' := by
        rcases q3 with e | ⟨i, e, hi⟩
        · exact .inl e
        · exact .inr ⟨i, e, Nat.le_trans hX.size_le' hi⟩
      refine ⟨v', ps', q, rfl, q1.drop H.out.1.mem hgb hvb hc, q2, rfl, ?_, hfr, hc04⟩
      rcases hq with rfl | rfl
      · exact pk0_ok _ _
      · refine PkOk.drop (b := b4) ?_ hc
        refine hpk2.chg q4 (fun k _ hk => ?_) (fun k hk hw => ?_)
        · rcases hk with rfl | hk
          · exact .inl (.inl H.out.1.mem)
          · exact .inr hk
        · rcases hw with hw | hw
          · exact .inl hw
          · rcases q3 with e | ⟨i, e, hi⟩
            · exact .inr (by rw [hw, e])
            · rw [e] at hw
              injection hw with hw
              omega
    have HFIN := Lib.hid hfin
    clear hfin
    go_wp2_with fail
    refine hJ.mono ?_; rintro e w4 ⟨rfl, rfl⟩
    cases J with
    | true =>
      go_wp2_with fail
      have r4 := HQ.out.2.2.2.2
      have g1 := (put2' (i := 0) (x := .int .i64 pf) r4)
      have g2 := (put2' (i := 1) (x := .int .i64 pt) g1)
      have g3 := (put2' (i := 2) (x := .slice pB pn pc) g2)
      have z0 := (cell_of_row _ b4 0 _ _ _ g3)
      have z1 := (cell_of_row _ b4 1 _ _ _ g3)
      have z2 := (cell_of_row _ b4 2 _ _ _ g3)
      have hch : Chg (fun k => k = b4) w3 (((w3.setCell ⟨b4, 0, none⟩ (.int .i64 pf)).setCell ⟨b4, 1, none⟩ (.int .i64 pt)).setCell ⟨b4, 2, none⟩ (.slice pB pn pc)) := (((Chg.refl (fun k => k = b4) w3).setCell ⟨b4, 0, none⟩ _ (fun _ => rfl)).setCell ⟨b4, 1, none⟩ _ (fun _ => rfl)).setCell ⟨b4, 2, none⟩ _ (fun _ => rfl)
      refine bodyPost_ret (v := .tuple #[.agg #[.int .i64 pf, .int .i64 pt, .slice pB pn pc], .bool true]) (by simp [results, Try.results6, go_sem, z0, z1, z2]; try rfl) rfl (HFIN.out ⟨pf, pt, pB, pn, pc, pxs⟩ _ hch (.inr rfl) true HXX.out)
    | false =>
      go_wp2_with fail
      have r4 := HQ.out.2.2.2.2
      have g1 := (put2' (i := 0) (x := .int .i64 0) r4)
      have g2 := (put2' (i := 1) (x := .int .i64 0) g1)
      have g3 := (put2' (i := 2) (x := .slice none 0 0) g2)
      have z0 := (cell_of_row _ b4 0 _ _ _ g3)
      have z1 := (cell_of_row _ b4 1 _ _ _ g3)
      have z2 := (cell_of_row _ b4 2 _ _ _ g3)
      have hch : Chg (fun k => k = b4) w3 (((w3.setCell ⟨b4, 0, none⟩ (.int .i64 0)).setCell ⟨b4, 1, none⟩ (.int .i64 0)).setCell ⟨b4, 2, none⟩ (.slice none 0 0)) := (((Chg.refl (fun k => k = b4) w3).setCell ⟨b4, 0, none⟩ _ (fun _ => rfl)).setCell ⟨b4, 1, none⟩ _ (fun _ => rfl)).setCell ⟨b4, 2, none⟩ _ (fun _ => rfl)
      refine bodyPost_ret (v := .tuple #[.agg #[.int .i64 0, .int .i64 0, .slice none 0 0], .bool false]) (by simp [results, Try.results6, go_sem, z0, z1, z2]; try rfl) rfl (HFIN.out pk0 _ hch (.inl rfl) false HXX.out)
end Go.Proofs.Ytbeoickdcbnjgaa
