/- destroy, restyle of the program. -/
import Derived.Test.YtdcbpnkcpglhhaaGrpF
import Derived.Test.YtdcbpnkcpglhhaaGrpDel
namespace Go.Proofs.Ytdcbpnkcpglhhaa
open Go.RowKit
set_option linter.unusedVariables false
set_option linter.unusedSimpArgs false
set_option linter.unnecessarySimpa false
attribute [local go_sem] stepR givesR fillE Ext.refl run_store_float

def T.s : T → ByteArray | .mk _ _ _ s _ => s
theorem T.s_mk (k i : Int) (f : Nat) (s : ByteArray) (l : List T) : (T.mk k i f s l).s = s := rfl
def destroyG (L : List Gp) : List T → List Gp × Int
  | [a] => if nameT a then (if hasN L a.s then (delG L (posN L a.s), 0) else (L, 30)) else (L, 31)
  | _ => (L, 31)
def DoPost (T0 : TypeId) (w : World) (base g : Nat) (v : Value) (r : List Gp × Int) (e : Ending) (w' : World) : Prop :=
  ∃ v', e = .returned (.int .i64 r.2) ∧ Dr T0 w' base g v' r.1 ∧ Chg (fun k => k = g ∨ some k = v.ownBlock) w w' ∧ Fresh w v v'
theorem Dr.same {T0 : TypeId} {w w' : World} {base g : Nat} {v : Value} {L : List Gp} (h : Dr T0 w base g v L) (hx : Ext w w') (z : Int) : DoPost T0 w base g v (L, z) (.returned (.int .i64 z)) w' :=
  ⟨v, rfl, h.ext hx, (Chg.of_ext hx).mono (fun _ _ h => h.elim), .inl rfl⟩
theorem Dr.put {T0 : TypeId} {w : World} {base g : Nat} {u v : Value} {L : List Gp} (ho : w.heap[g]? = some (.cells #[u] T0 (0, 0))) (hb : base ≤ g) (hr : GRow w base v L) (hT : T0 ≠ 36) (hf : L.length ≤ 16) (hs : Srt L) (hk : ∀ p ∈ L, p.ok) : Dr T0 (w.setCell ⟨g, 0, none⟩ v) base g v L := by
  refine ⟨put2' (i := 0) (x := v) ho, hb, ?_, hf, hs, hk⟩
  have hne : v.ownBlock ≠ some g := CRow.ne hr ho hT
  exact CRow.chg hr ((Chg.refl (fun k => k = g) w).setCell ⟨g, 0, none⟩ v (fun _ => rfl)) (fun k hk e => hne (e ▸ hk))
theorem delG_length {L : List Gp} {i : Nat} (h : i < L.length) : (delG L i).length = L.length - 1 := by
  unfold delG
  rw [List.length_append, List.length_take, List.length_drop]
  omega
theorem delG_mem {L : List Gp} {i : Nat} {p : Gp} (h : p ∈ delG L i) : p ∈ L := by
  unfold delG at h
  rcases List.mem_append.1 h with h | h
  · exact List.mem_of_mem_take h
  · exact List.mem_of_mem_drop h
theorem gcells_del (L : List Gp) (i : Nat) : (gcells L).take (i * 4) ++ (gcells L).drop ((i + 1) * 4) = gcells (delG L i) := by
  rw [gcells_take, gcells_drop, ← gcells_append]
  rfl
set_option maxRecDepth 100000 in
set_option maxHeartbeats 1000000 in
theorem destroy_any {w : World} {base g : Nat} {v : Value} {L : List Gp} {S : Nat → Prop} {n : Nat} {A : Option Addr} {c : Nat} {ts : List T} (h : Dr 57 w base g v L) (hts : Rds w S n A c ts) :
    Calls Try.prog 20 #[.pointer (some ⟨g, 0, none⟩), .slice A ts.length c] w (DoPost 57 w base g v (destroyG L ts)) := by
  obtain ⟨_, _, hrow⟩ := hts
  by_cases hlen : ts.length = 1
  · obtain ⟨t, rfl⟩ : ∃ t, ts = [t] := List.length_eq_one_iff.1 hlen
    clear hlen
    obtain ⟨b, off, rfl, hb, hat⟩ := hrow (by simp)
    obtain ⟨A1, c1, ha, _⟩ := hat 0 t rfl
    rw [Nat.zero_mul, Nat.add_zero] at ha
    have N1 := fun w' => name_any (w := w') (t := t) (A := A1) (c := c1)
    obtain ⟨k, i, f, s, l⟩ := t
    obtain ⟨a0, a1, a2, a3, a4⟩ := ha
    simp only [T.val] at N1
    rw [destroyG, T.s_mk]
    clear hrow hat hb
    have F1 := fun w' (hx : Ext w w') => find_any (h.ext hx) s
    cases hnm : nameT (.mk k i f s l) with
    | false =>
      rw [if_neg (by simp)]
      rw [hnm] at N1
      have H := Lib.hid h
      clear h hnm F1
      go_enter Try.func20, Try.ntmps20
      go_wp2_with fail
      refine (N1 _).mono ?_
      rintro e w1 ⟨rfl, hx⟩
      have HX := Lib.hid hx
      clear hx
      go_wp2_with fail
      go_ret
      exact H.out.same HX.out _
    | true =>
      rw [if_pos rfl]
      rw [hnm] at N1
      cases hh : hasN L s with
      | false =>
        rw [if_neg (by simp)]
        rw [hh] at F1
        have H := Lib.hid h
        clear h hnm hh
        generalize posN L s = pos at *
        go_enter Try.func20, Try.ntmps20
        go_wp2_with fail
        refine (N1 _).mono ?_
        rintro e w1 ⟨rfl, hx⟩
        have b3 := hx.cell a3
        have F2 := F1 w1 hx
        have HX := Lib.hid hx
        clear hx F1
        go_wp2_with fail
        refine F2.mono ?_
        rintro e w2 ⟨rfl, hx2⟩
        have HX2 := Lib.hid hx2
        clear hx2
        go_wp2_with fail
        go_ret
        exact H.out.same (HX.out.trans HX2.out) _
      | true =>
        rw [if_pos rfl]
        rw [hh] at F1
        obtain ⟨p, hp, hpk⟩ := hasN_at hh
        have hlt := (List.getElem?_eq_some_iff.1 hp).1
        have hg16 := h.few
        obtain ⟨A2, c2, rfl, hlc, hcm, hA2⟩ := h.row.form
        obtain ⟨r, rfl, _⟩ := h.row.rd (by omega)
        have D1 := fun w' (hx : Ext w w') => delete_any w' r L.length c2 (posN L s) base (gcells L) (h.row.ext hx) (gcells_one L) hlt
        have hgr : r ≠ g := fun e => h.ne (by decide) (by rw [e]; rfl)
        have H := Lib.hid (And.intro h (And.intro hlt hgr))
        clear h hnm hh hp hpk hA2
        generalize posN L s = pos at *
        have hw1 : IntKind.i64.wrap ((pos : Int) + 1) = (pos : Int) + 1 := IntWalk.i64_in _ (by omega)
        have hmm : maxLen ≤ 9223372036854775807 := by decide
        clear hlc hcm
        go_enter Try.func20, Try.ntmps20
        go_wp2_with fail
        refine (N1 _).mono ?_
        rintro e w1 ⟨rfl, hx⟩
        have b3 := hx.cell a3
        have F2 := F1 w1 hx
        have HX := Lib.hid hx
        clear hx F1
        go_wp2_with fail
        refine F2.mono ?_
        rintro e w2 ⟨rfl, hx2⟩
        have hx3 := HX.out.trans hx2
        have HX3 := Lib.hid hx3
        obtain ⟨c0, f0⟩ := (H.out.1.ext hx3).cell
        have D2 := D1 w2 hx3
        clear hx2 hx3 D1
        go_wp2_with fail
        refine D2.mono ?_
        rintro e w3 ⟨rfl, hr3, hc3⟩
        have hob : w3.heap[g]? = some (.cells #[.slice (some ⟨r, 0, none⟩) L.length c2] 57 (0, 0)) := hc3.obj (HX3.out.obj H.out.1.obj) (fun e => H.out.2.2 e.symm)
        have d0 : w3.cell? ⟨g, 0, none⟩ = some (.slice (some ⟨r, 0, none⟩) L.length c2) := (cell_of_row w3 g 0 _ _ _ hob).trans rfl
        have e0 : w3.frozen? ⟨g, 0, none⟩ = false := by simp [World.frozen?, hob]
        have HR := Lib.hid (And.intro hr3 (And.intro hc3 hob))
        clear hr3 hc3 hob
        go_wp2_with fail
        go_ret
        obtain ⟨hr3, hc3, hob⟩ := HR.out
        obtain ⟨h, hlt, hgr⟩ := H.out
        rw [gcells_del] at hr3
        have hr4 : GRow w3 base (.slice (some ⟨r, 0, none⟩) (L.length - 1) c2) (delG L pos) := by
          unfold GRow
          rw [delG_length hlt]
          exact hr3
        refine ⟨_, rfl, Dr.put hob h.low hr4 (by decide) (by rw [delG_length hlt]; omega) (h.srt.del _) (fun p hp => h.ok p (delG_mem hp)), ?_, .inl rfl⟩
        have q1 : Chg (fun k => k = g ∨ some k = (Value.slice (some ⟨r, 0, none⟩) L.length c2).ownBlock) w w3 := (Chg.of_ext HX3.out).trans hc3 (fun _ _ h => h.elim) (fun k _ e => .inr (by rw [e]; rfl))
        exact q1.setCell ⟨g, 0, none⟩ _ (fun _ => .inl rfl)
  · have e : destroyG L ts = (L, 31) := by
      cases ts with
      | nil => rfl
      | cons a l =>
        cases l with
        | nil => simp at hlen
        | cons b l => rfl
    rw [e]
    have H := Lib.hid h
    have hne : ((ts.length : Int) != 1) = true := by simp; omega
    clear h hrow e hlen
    go_enter Try.func20, Try.ntmps20
    go_wp2_with fail
    go_ret
    exact H.out.same (Ext.refl _) _

/-- the group that restyle leaves -/
def bump (p : Gp) (z : Int) : Gp := ⟨p.name, p.cls, z, IntKind.u32.wrap (p.ver + 1)⟩
def restyleG (L : List Gp) : List T → List Gp × Int
  | [a, b] => if nameT a then (if styleT b then (if hasN L a.s then (setG L (posN L a.s) (bump (L.getD (posN L a.s) gp0) (styS b.s)), 0) else (L, 30)) else (L, 31)) else (L, 31)
  | _ => (L, 31)
theorem setG_length {L : List Gp} {i : Nat} {p : Gp} (h : i < L.length) : (setG L i p).length = L.length := by
  unfold setG
  rw [List.length_append, List.length_take, List.length_cons, List.length_drop]
  omega
theorem setG_mem {L : List Gp} {i : Nat} {p q : Gp} (h : q ∈ setG L i p) : q = p ∨ q ∈ L := by
  unfold setG at h
  rcases List.mem_append.1 h with h | h
  · exact .inr (List.mem_of_mem_take h)
  · rcases List.mem_cons.1 h with h | h
    · exact .inl h
    · exact .inr (List.mem_of_mem_drop h)
/-- one cell of a row is set -/
theorem CRow.setc {E : TypeId} {sz : Nat} {w : World} {base r m c n : Nat} {cs : List Value} (h : CRow E sz w base (.slice (some ⟨r, 0, none⟩) m c) n cs) {j : Nat} (hj : j < n * sz) (u : Value) : CRow E sz (w.setCell ⟨r, j, none⟩ u) base (.slice (some ⟨r, 0, none⟩) m c) n (cs.set j u) := by
  rcases h with ⟨h', _, _⟩ | ⟨g, cap, cur, h', hb, hg, hl, hs, hm, hn, ht⟩
  · cases h'
  · injection h' with h1 h2 h3
    simp only [Option.some.injEq, Addr.mk.injEq, and_true] at h1
    subst h1 h2 h3
    refine .inr ⟨r, c, cur.setIfInBounds j u, rfl, hb, heap_setCell_same w r j cur E u hg, hl, by simpa using hs, hm, by rw [List.length_set]; exact hn, ?_⟩
    rw [Array.toList_setIfInBounds, ← ht, List.take_set]
theorem gcells_set (L : List Gp) (i : Nat) (p : Gp) (z y : Int) (hp : L[i]? = some p) : ((gcells L).set (i * 4 + 2) (.int .i64 z)).set (i * 4 + 3) (.int .u32 y) = gcells (setG L i ⟨p.name, p.cls, z, y⟩) := by
  induction L generalizing i with
  | nil => simp at hp
  | cons a L ih =>
    cases i with
    | zero =>
      simp at hp
      subst hp
      simp [gcells, setG, Gp.cells]
    | succ i =>
      have h := ih i (by simpa using hp)
      have e1 : (i + 1) * 4 + 2 = (i * 4 + 2) + 4 := by omega
      have e2 : (i + 1) * 4 + 3 = (i * 4 + 3) + 4 := by omega
      rw [e1, e2]
      simp only [gcells, List.flatMap_cons, setG, List.take_succ_cons, List.drop_succ_cons, List.cons_append] at h ⊢
      rw [← h]
      simp [Gp.cells]
set_option maxRecDepth 100000 in
set_option maxHeartbeats 2000000 in
theorem restyle_any {w : World} {base g : Nat} {v : Value} {L : List Gp} {S : Nat → Prop} {n : Nat} {A : Option Addr} {c : Nat} {ts : List T} (h : Dr 57 w base g v L) (hts : Rds w S n A c ts) :
    Calls Try.prog 21 #[.pointer (some ⟨g, 0, none⟩), .slice A ts.length c] w (DoPost 57 w base g v (restyleG L ts)) := by
  obtain ⟨_, _, hrow⟩ := hts
  by_cases hlen : ts.length = 2
  · obtain ⟨t, u, rfl⟩ : ∃ t u, ts = [t, u] := by
      match ts, hlen with
      | [t, u], _ => exact ⟨t, u, rfl⟩
    clear hlen
    obtain ⟨b, off, rfl, hb, hat⟩ := hrow (by simp)
    obtain ⟨A1, c1, ha, _⟩ := hat 0 t rfl
    obtain ⟨A2, c2, hu, _⟩ := hat 1 u rfl
    rw [Nat.zero_mul, Nat.add_zero] at ha
    rw [Nat.one_mul] at hu
    have N1 := fun w' => name_any (w := w') (t := t) (A := A1) (c := c1)
    obtain ⟨k, i, f, s, l⟩ := t
    obtain ⟨k', i', f', s', l'⟩ := u
    obtain ⟨a0, a1, a2, a3, a4⟩ := ha
    obtain ⟨u0, u1, u2, u3, u4⟩ := hu
    have S1 := fun w' => style_any (w := w') (k := k') (i := i') (f := f') (s := s') (n := l'.length) (A := A2) (c := c2)
    simp only [T.val] at N1
    rw [restyleG, T.s_mk, T.s_mk]
    have es : styleT (.mk k' i' f' s' l') = (decide (0 ≤ styS s') && decide (k' = 3)) := by rw [styleT]
    rw [← es] at S1
    clear hrow hat hb es
    have F1 := fun w' (hx : Ext w w') => find_any (h.ext hx) s
    cases hnm : nameT (.mk k i f s l) with
    | false =>
      rw [if_neg (by simp)]
      rw [hnm] at N1
      have H := Lib.hid h
      clear h hnm F1 S1
      go_enter Try.func21, Try.ntmps21
      go_wp2_with fail
      refine (N1 _).mono ?_
      rintro e w1 ⟨rfl, hx⟩
      have HX := Lib.hid hx
      clear hx
      go_wp2_with fail
      go_ret
      exact H.out.same HX.out _
    | true =>
      rw [if_pos rfl]
      rw [hnm] at N1
      cases hst : styleT (.mk k' i' f' s' l') with
      | false =>
        rw [if_neg (by simp)]
        rw [hst] at S1
        have H := Lib.hid h
        clear h hnm F1 hst
        generalize styS s' = z at *
        go_enter Try.func21, Try.ntmps21
        go_wp2_with fail
        refine (N1 _).mono ?_
        rintro e w1 ⟨rfl, hx⟩
        have d0 := hx.cell u0
        have d1 := hx.cell u1
        have d2 := hx.cell u2
        have d3 := hx.cell u3
        have d4 := hx.cell u4
        have S2 := S1 w1
        have HX := Lib.hid hx
        clear hx S1
        go_wp2_with fail
        refine S2.mono ?_
        rintro e w2 ⟨rfl, hx2⟩
        have HX2 := Lib.hid hx2
        clear hx2
        go_wp2_with fail
        go_ret
        exact H.out.same (HX.out.trans HX2.out) _
      | true =>
        rw [if_pos rfl]
        rw [hst] at S1
        have hz : styS s' ≤ 2 ∧ 0 ≤ styS s' := by
          rw [styleT] at hst
          simp only [Bool.and_eq_true, decide_eq_true_eq] at hst
          refine ⟨?_, hst.1⟩
          have : styS s' < stylesL.length := by
            unfold styS idxS
            cases hq : stylesL.findIdx? (fun z => eqN s' z) with
            | none => simp; decide
            | some j =>
              obtain ⟨hj, _⟩ := List.findIdx?_eq_some_iff_getElem.1 hq
              simp only
              omega
          have e : stylesL.length = 3 := rfl
          omega
        cases hh : hasN L s with
        | false =>
          rw [if_neg (by simp)]
          rw [hh] at F1
          have H := Lib.hid h
          clear h hnm hh hst
          generalize posN L s = pos at *
          generalize styS s' = z at *
          go_enter Try.func21, Try.ntmps21
          go_wp2_with fail
          refine (N1 _).mono ?_
          rintro e w1 ⟨rfl, hx⟩
          have d0 := hx.cell u0
          have d1 := hx.cell u1
          have d2 := hx.cell u2
          have d3 := hx.cell u3
          have d4 := hx.cell u4
          have S2 := S1 w1
          have HX := Lib.hid hx
          clear hx S1
          go_wp2_with fail
          refine S2.mono ?_
          rintro e w2 ⟨rfl, hx2⟩
          have hx3 := HX.out.trans hx2
          have b3 := hx3.cell a3
          have F2 := F1 w2 hx3
          have HX3 := Lib.hid hx3
          clear hx2 hx3 F1
          go_wp2_with fail
          refine F2.mono ?_
          rintro e w3 ⟨rfl, hx4⟩
          have HX4 := Lib.hid hx4
          clear hx4
          go_wp2_with fail
          go_ret
          exact H.out.same (HX3.out.trans HX4.out) _
        | true =>
          rw [if_pos rfl]
          rw [hh] at F1
          obtain ⟨p, hp, hpk⟩ := hasN_at hh
          have hlt := (List.getElem?_eq_some_iff.1 hp).1
          have hg16 := h.few
          have hgd : L.getD (posN L s) gp0 = p := by rw [List.getD_eq_getElem?_getD, hp]; rfl
          rw [hgd]
          obtain ⟨A3, c3, rfl, hlc, hcm, hA3⟩ := h.row.form
          obtain ⟨r, rfl, hgat⟩ := h.row.rd (by omega)
          obtain ⟨g0, g1, g2, g3⟩ := hgat _ p hp
          have hgr : r ≠ g := fun e => h.ne (by decide) (by rw [e]; rfl)
          have H := Lib.hid (And.intro h (And.intro hlt (And.intro hgr (And.intro hp hz))))
          have HG := Lib.hid (And.intro g2 g3)
          clear h hnm hh hp hpk hA3 hst hz hgd hgat g0 g1 g2 g3
          generalize posN L s = pos at *
          generalize styS s' = z at *
          have hmm : maxLen ≤ 9223372036854775807 := by decide
          clear hlc hcm
          obtain ⟨pn, pc, ps, pv⟩ := p
          have hpj : ((pos : Int) < 0) = False := by simp
          go_enter Try.func21, Try.ntmps21
          go_wp2_with fail
          refine (N1 _).mono ?_
          rintro e w1 ⟨rfl, hx⟩
          have d0 := hx.cell u0
          have d1 := hx.cell u1
          have d2 := hx.cell u2
          have d3 := hx.cell u3
          have d4 := hx.cell u4
          have S2 := S1 w1
          have HX := Lib.hid hx
          clear hx S1
          go_wp2_with fail
          refine S2.mono ?_
          rintro e w2 ⟨rfl, hx2⟩
          have hx3 := HX.out.trans hx2
          have b3 := hx3.cell a3
          have F2 := F1 w2 hx3
          have HX3 := Lib.hid hx3
          clear hx2 hx3 F1
          go_wp2_with fail
          refine F2.mono ?_
          rintro e w3 ⟨rfl, hx4⟩
          have hx5 := HX3.out.trans hx4
          have HX5 := Lib.hid hx5
          obtain ⟨c0, f0⟩ := (H.out.1.ext hx5).cell
          have k2 := hx5.cell HG.out.1
          have k3 := hx5.cell HG.out.2
          obtain ⟨q, hq, _, _, _, hfr⟩ := CRow.cell (H.out.1.ext hx5).row (by omega)
          obtain rfl : r = q := by simpa using hq
          have k4 := (hfr (pos * 4 + 2) (by omega)).2
          have k5 := (hfr (pos * 4 + 3) (by omega)).2
          have ob := (H.out.1.ext hx5).obj
          have hgr' := H.out.2.2.1
          have c0' : (w3.setCell ⟨r, pos * 4 + 2, none⟩ (.int .i64 z)).cell? ⟨g, 0, none⟩ = some (.slice (some ⟨r, 0, none⟩) L.length c3) := by
            rw [World.cell?_setCell_other _ _ _ _ (by simp)]
            exact c0
          have k3' : (w3.setCell ⟨r, pos * 4 + 2, none⟩ (.int .i64 z)).cell? ⟨r, pos * 4 + 3, none⟩ = some (.int .u32 pv) := by
            rw [World.cell?_setCell_other _ _ _ _ (by simp)]
            exact k3
          clear hx4 hx5 hfr hq
          go_wp2_with fail
          go_ret
          obtain ⟨h, hlt, hgr, hp, hz⟩ := H.out
          have h3 := h.ext HX5.out
          have hr4 : GRow ((w3.setCell ⟨r, pos * 4 + 2, none⟩ (.int .i64 z)).setCell ⟨r, pos * 4 + 3, none⟩ (.int .u32 (IntKind.u32.wrap (pv + 1)))) base (.slice (some ⟨r, 0, none⟩) L.length c3) (setG L pos (bump ⟨pn, pc, ps, pv⟩ z)) := by
            have q1 := (h3.row.setc (j := pos * 4 + 2) (by omega) (.int .i64 z)).setc (j := pos * 4 + 3) (by omega) (.int .u32 (IntKind.u32.wrap (pv + 1)))
            rw [gcells_set L pos _ z _ hp] at q1
            unfold GRow
            rw [setG_length hlt]
            exact q1
          have hcg : Chg (fun k => k = r) w3 ((w3.setCell ⟨r, pos * 4 + 2, none⟩ (.int .i64 z)).setCell ⟨r, pos * 4 + 3, none⟩ (.int .u32 (IntKind.u32.wrap (pv + 1)))) := ((Chg.refl (fun k => k = r) w3).setCell ⟨r, pos * 4 + 2, none⟩ _ (fun _ => rfl)).setCell ⟨r, pos * 4 + 3, none⟩ _ (fun _ => rfl)
          have hpo := h.ok _ (List.mem_of_getElem? hp)
          refine ⟨_, rfl, ⟨hcg.obj h3.obj (fun e => hgr e.symm), h.low, hr4, by rw [setG_length hlt]; exact h.few, h.srt.set pos _ _ hp rfl, fun x hx => ?_⟩, ?_, .inl rfl⟩
          · rcases setG_mem hx with rfl | hx
            · refine ⟨by show z = 0 ∨ z = 1 ∨ z = 2; omega, ?_, ?_, hpo.2.2.2.1, hpo.2.2.2.2⟩
              · show 0 ≤ IntKind.u32.wrap (pv + 1)
                have e : IntKind.u32.wrap (pv + 1) = (pv + 1) % 4294967296 := by rfl
                rw [e]; omega
              · show IntKind.u32.wrap (pv + 1) < 4294967296
                have e : IntKind.u32.wrap (pv + 1) = (pv + 1) % 4294967296 := by rfl
                rw [e]; omega
            · exact h.ok x hx
          · exact (Chg.of_ext HX5.out).trans hcg (fun _ _ h => h.elim) (fun k _ e => .inr (by rw [e]; rfl))
  · have e : restyleG L ts = (L, 31) := by
      cases ts with
      | nil => rfl
      | cons a l =>
        cases l with
        | nil => rfl
        | cons b l =>
          cases l with
          | nil => simp at hlen
          | cons c l => rfl
    rw [e]
    have H := Lib.hid h
    have hne : ((ts.length : Int) != 2) = true := by simp; omega
    clear h hrow e hlen
    go_enter Try.func21, Try.ntmps21
    go_wp2_with fail
    go_ret
    exact H.out.same (Ext.refl _) _
end Go.Proofs.Ytdcbpnkcpglhhaa
