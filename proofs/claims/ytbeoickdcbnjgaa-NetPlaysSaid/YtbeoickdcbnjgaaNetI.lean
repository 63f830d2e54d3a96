/- The document's net: what is written: cut, Take. -/
import Derived.Test.YtbeoickdcbnjgaaNetH
import Derived.Test.YtbeoickdcbnjgaaKitF
namespace Go.Proofs.Ytbeoickdcbnjgaa
open Go.RowKit
set_option linter.unusedVariables false
set_option linter.unusedSimpArgs false
attribute [local go_sem] stepR givesR fillE Ext.refl

theorem NetR.put_row {w w1 : World} {S : Nat → Prop} {base h : Nat} {u u1 : Value} {m : Nat} {qs qs1 : List Pk} (hr : NetR w S base h u m qs) (hx : Ext w w1) (hrow : PRow w1 base u1 qs1) (hf : u1.ownBlock = u.ownBlock ∨ ∃ k, u1.ownBlock = some k ∧ w.heap.size ≤ k) (hok : ∀ q ∈ qs1, PkOk w1 S q) (hfew : qs1.length ≤ 1000) :
    NetR (w1.setCell ⟨h, 0, none⟩ u1) S base h u1 m qs1 ∧ Chg (fun k => k = h) w (w1.setCell ⟨h, 0, none⟩ u1) := by
  have hc1 : Chg (fun k => k = h) w1 (w1.setCell ⟨h, 0, none⟩ u1) := (Chg.refl (fun k => k = h) w1).setCell ⟨h, 0, none⟩ _ (fun _ => rfl)
  have hap : ∀ k, u1.ownBlock = some k → ¬ S k := by
    intro k hk hs
    rcases hf with e | ⟨j, e, hj⟩
    · exact hr.apart k (e ▸ hk) hs
    · rw [e] at hk
      injection hk with hk
      have := hr.sub k hs
      omega
  refine ⟨⟨(put2 (y := undef) (hx.obj hr.obj)).1, hr.low, hr.mem, CRow.chg hrow hc1 (fun k hk e => hap k hk (by rw [show k = h from e]; exact hr.mem)), hap, fun q hq => (hok q hq).chg hc1 (fun k _ e => by rw [show k = h from e]; exact hr.mem) (fun k _ hk => hk), hfew, hr.mask, fun k hk => ?_⟩, ?_⟩
  · have := hr.sub k hk
    have := hx.size_le'
    simp; omega
  · exact ((Chg.of_ext hx).mono (fun _ _ h => h.elim)).setCell ⟨h, 0, none⟩ _ (fun _ => rfl)
theorem NetR.put_mask {w : World} {S : Nat → Prop} {base g : Nat} {v : Value} {m m' : Nat} {ps : List Pk} (h : NetR w S base g v m ps) (hm : m' < 18446744073709551616) : NetR (w.setCell ⟨g, 1, none⟩ (.int .u64 m')) S base g v m' ps ∧ Chg (fun k => k = g) w (w.setCell ⟨g, 1, none⟩ (.int .u64 m')) := by
  have hc : Chg (fun k => k = g) w (w.setCell ⟨g, 1, none⟩ (.int .u64 m')) := (Chg.refl (fun k => k = g) w).setCell ⟨g, 1, none⟩ _ (fun _ => rfl)
  exact ⟨⟨(put2 (v := undef) h.obj).2, h.low, h.mem, CRow.chg h.row hc (fun k hk e => h.apart k hk (by rw [show k = g from e]; exact h.mem)), h.apart, fun p hp => (h.ok p hp).chg hc (fun k _ e => by rw [show k = g from e]; exact h.mem) (fun k _ hk => hk), h.few, hm, fun k hk => by simpa using h.sub k hk⟩, hc⟩
/-- what lies behind the first elements of a row, as what is appended -/
theorem tail_src {w : World} {base r n cap : Nat} {ps : List Pk} (h : PRow w base (.slice (some ⟨r, 0, none⟩) n cap) ps) (hn : n = ps.length) (j : Nat) (hj : j ≤ n) : ∃ A : Addr, (if cap = j then some (⟨r, 0, none⟩ : Addr) else some ⟨r, j * 3, none⟩) = some A ∧ Src w 3 (some A) (n - j) (pcells (ps.drop j)) := by
  have hlen : (pcells (ps.drop j)).length = (n - j) * 3 := by rw [pcells_length, List.length_drop, hn]
  by_cases hc : cap = j
  · refine ⟨⟨r, 0, none⟩, by simp [hc], Src.at (o := 0) hlen (fun i u hu => ?_) (pcells_one _)⟩
    obtain ⟨_, c', e, h1, h2, _⟩ := CRow.form h
    injection e with e1 e2 e3
    have : (pcells (ps.drop j)).length = 0 := by rw [hlen]; omega
    rw [List.eq_nil_of_length_eq_zero this] at hu
    simp at hu
  · refine ⟨⟨r, j * 3, none⟩, by simp [hc], Src.at hlen (fun i u hu => ?_) (pcells_one _)⟩
    have hi : i < (n - j) * 3 := by
      have := (List.getElem?_eq_some_iff.1 hu).1
      omega
    have h' : CRow 33 3 w base (.slice (some ⟨r, 0, none⟩) n cap) n (pcells ps) := by unfold PRow at h; rw [← hn] at h; exact h
    obtain ⟨g, e, _, _, _, hcell⟩ := CRow.cell h' (by omega)
    obtain rfl : r = g := by simpa using e
    rw [(hcell (j * 3 + i) (by omega)).1, ← List.getElem?_drop, pcells_drop]
    exact hu

theorem NetR.add {w w' : World} {S : Nat → Prop} {base g : Nat} {v : Value} {m : Nat} {ps : List Pk} {b : Nat} (h : NetR w S base g v m ps) (hx : Ext w w') (hb : w.heap.size ≤ b) (hb' : b < w'.heap.size) : NetR w' (Add S b) base g v m ps :=
  h.chg (Chg.of_ext hx) (fun _ _ h => h.elim) (fun k hk hs => by
    rcases hs with hs | hs
    · exact hs
    · omega) (fun h => h) (.inl h.mem) (fun k hk => by
    rcases hk with hk | hk
    · exact Nat.lt_of_lt_of_le (h.sub k hk) hx.size_le'
    · omega)
theorem NetR.drop {w w' : World} {S : Nat → Prop} {base g : Nat} {v : Value} {m : Nat} {ps : List Pk} {b : Nat} (h : NetR w (Add S b) base g v m ps) (hg : S g) (hgb : g ≠ b) (hc : Chg (fun k => k = b) w w') : NetR w' S base g v m ps :=
  h.chg hc (fun k _ e => .inr e) (fun k _ hs => .inl hs) hgb hg (fun k hk => Nat.lt_of_lt_of_le (h.sub k (.inl hk)) hc.size)
/-- a call that turns the document's net -/
def CutPost (w : World) (S : Nat → Prop) (base h m : Nat) (L : List Says) (p : Pk) (e : Ending) (w' : World) : Prop :=
  ∃ u' qs', e = .returned (.agg #[.int .i64 p.f, .int .i64 p.t, .slice p.B p.n p.c]) ∧ NetR w' S base h u' m qs' ∧ qs'.map Pk.says = L ∧ Chg (fun k => k = h) w w'
set_option maxRecDepth 100000 in
set_option maxHeartbeats 4000000 in
theorem cut_any {w : World} {S : Nat → Prop} {base h : Nat} {u : Value} {m : Nat} {qs : List Pk} (hr : NetR w S base h u m qs) (hb : base ≤ w.heap.size) (i : Nat) (p : Pk) (hp : qs[i]? = some p) :
    Calls Try.prog 18 #[.pointer (some ⟨h, 0, none⟩), .int .i64 i] w (CutPost w S base h m ((qs.map Pk.says).eraseIdx i) p) := by
  have hi : i < qs.length := (List.getElem?_eq_some_iff.1 hp).1
  obtain ⟨A, c, hv, hlc, hcm, hnone⟩ := CRow.form hr.row
  subst hv
  obtain ⟨r, hAr, hat⟩ := PRow.at (hr.ext ((Ext.refl w).alloc (.cells #[.int .i64 0, .int .i64 0, .slice none 0 0] 33))).row hp
  subst hAr
  obtain ⟨p0, p1, p2⟩ := hat
  obtain ⟨c0, c1, f0, f1⟩ := (hr.ext ((Ext.refl w).alloc (.cells #[.int .i64 0, .int .i64 0, .slice none 0 0] 33))).cells
  obtain ⟨pf, pt, pB, pn, pc, pxs⟩ := p
  simp only at p0 p1 p2
  have o4 := heap_alloc_new w (.cells #[.int .i64 0, .int .i64 0, .slice none 0 0] 33)
  have HX1 := Lib.hid ((Ext.refl w).alloc (.cells #[.int .i64 0, .int .i64 0, .slice none 0 0] 33))
  have H := Lib.hid (And.intro hr (And.intro hp hb))
  have hii : (i : Int) < (qs.length : Int) := by omega
  have hin : ((i : Int) < 0) = False := by simp
  have hi1 : (i : Int) + 1 ≤ 1000 := by have := hr.few; omega
  have hi2 : (0 : Int) ≤ (i : Int) + 1 := by omega
  have hi3 : i + 1 ≤ qs.length := by omega
  have hi4 : i ≤ c := by omega
  have hi6 : (i : Int) + 1 ≤ (qs.length : Int) := by omega
  have hi7 : i + 1 ≤ c := by omega
  have hw1 : IntKind.i64.wrap ((i : Int) + 1) = (i : Int) + 1 := IntWalk.i64_in _ (by omega)
  clear hp hr hb
  go_enter Try.func18, Try.ntmps18
  go_wp2_with fail
  have hx2 : Ext w ((w.alloc (.cells #[.int .i64 0, .int .i64 0, .slice none 0 0] 33)).alloc (.cells #[.int .i64 pf, .int .i64 pt, .slice pB pn pc] 33)) := ((Ext.refl w).alloc _).alloc _
  have o4' := ((Ext.refl (w.alloc (.cells #[.int .i64 0, .int .i64 0, .slice none 0 0] 33))).alloc (.cells #[.int .i64 pf, .int .i64 pt, .slice pB pn pc] 33)).obj o4
  have o5 : ((w.alloc (.cells #[.int .i64 0, .int .i64 0, .slice none 0 0] 33)).alloc (.cells #[.int .i64 pf, .int .i64 pt, .slice pB pn pc] 33)).heap[w.heap.size + 1]? = some (.cells #[.int .i64 pf, .int .i64 pt, .slice pB pn pc] 33 (0, 0)) := by
    have := heap_alloc_new (w.alloc (.cells #[.int .i64 0, .int .i64 0, .slice none 0 0] 33)) (.cells #[.int .i64 pf, .int .i64 pt, .slice pB pn pc] 33)
    simpa using this
  have hsz : ((w.alloc (.cells #[.int .i64 0, .int .i64 0, .slice none 0 0] 33)).alloc (.cells #[.int .i64 pf, .int .i64 pt, .slice pB pn pc] 33)).heap.size = w.heap.size + 2 := by simp
  revert hx2 o4' o5 hsz
  generalize (w.alloc (.cells #[.int .i64 0, .int .i64 0, .slice none 0 0] 33)).alloc (.cells #[.int .i64 pf, .int .i64 pt, .slice pB pn pc] 33) = w2
  obtain ⟨b4, hb4e⟩ : ∃ b4, w.heap.size = b4 := ⟨_, rfl⟩
  have HB4 := Lib.hid hb4e
  rw [hb4e]
  clear hb4e p0 p1 p2 c0 c1 f0 f1 o4 HX1
  intro hx2 o4' o5 hsz
  have HSZ := Lib.hid hsz
  have hr2 := H.out.1.add hx2 (Nat.le_of_eq HB4.out) (by omega : b4 < w2.heap.size)
  have hhb : h < b4 := by have := H.out.1.sub h H.out.1.mem; have := HB4.out; omega
  obtain ⟨c0, c1, f0, f1⟩ := hr2.cells
  obtain ⟨T, hT, hsrc⟩ := tail_src hr2.row rfl (i + 1) hi3
  have HC := Lib.hid (And.intro (CRow.ext (CRow.clip H.out.1.row i i (by omega) (Nat.le_refl _) hi4) hx2) (And.intro hsrc (And.intro (Nat.le_trans H.out.2.2 hx2.size_le') (And.intro hr2 (And.intro o4' (And.intro o5 hx2))))))
  have hmm : maxLen > 2000 := by decide
  have hfew := H.out.1.few
  clear hx2 o4' o5 hsz hr2 hsrc
  have hmc : i + (qs.length - (i + 1)) ≤ maxLen := by omega
  have hmb : (i + (qs.length - (i + 1))) * 40 ≤ 140737488355328 := by omega
  go_region_law (refine step_append_full (by rfl) base (.tmp 20) (.tmp 27) 27 (by rfl) Try.underlying27 40 infoE (by omega) (some ⟨r, 0, none⟩) i ((pcells qs).take (i * 3)) (pcells (qs.drop (i + 1))) (some T) (qs.length - (i + 1)) (c - (i + 1)) (by simp [Act.eval, Act.put]) (by simp [Act.eval, Act.put]) (by exact HC.out.1) (by exact HC.out.2.1) (by exact HC.out.2.2.1) hmc hmb ?_; intro v4 w4 q1 q2 q3; obtain ⟨A4, c4, rfl, _⟩ := CRow.form q1; have k0 := q2.cell (show w2.drew.cell? _ = _ from c0); have k1 : w4.frozen? ⟨h, 0, none⟩ = false := (by have := q2.obj (show w2.drew.heap[h]? = _ from HC.out.2.2.2.1.obj); simp [World.frozen?, this]); have HQ := Lib.hid (And.intro q1 (And.intro q2 q3)); clear q1 q2 q3)
  all_goals
    obtain ⟨q1, q2, q3⟩ := HQ.out
    obtain ⟨_, _, _, hr2, o4, o5, hx2⟩ := HC.out
    have hq2 : Ext w2 w4 := ((Ext.refl w2).drew).trans q2
    have hlen : (qs.eraseIdx i).length = i + (qs.length - (i + 1)) := by rw [List.length_eraseIdx, if_pos hi]; omega
    have hrow' : PRow w4 base (.slice A4 (i + (qs.length - (i + 1))) c4) (qs.eraseIdx i) := by
      unfold PRow
      rw [hlen, ← erase_cells, pcells_drop]
      exact q1
    obtain ⟨n1, n2⟩ := hr2.put_row hq2 hrow' (by
        rcases q3 with e | ⟨j, e, hj⟩
        · exact .inl e
        · exact .inr ⟨j, e, hj⟩) (fun p hp => (hr2.ok p (List.mem_of_mem_eraseIdx hp)).ext hq2) (by rw [hlen]; have := H.out.1.few; omega)
    have r4 := n2.obj o4 (by omega)
    have r5 := n2.obj o5 (by omega)
    have HN := Lib.hid (And.intro n1 (And.intro n2 (And.intro r4 hx2)))
    clear q1 q2 q3 hr2 o4 o5 hx2 hq2 hlen hrow' n1 n2 k0 k1 HQ HC c0 c1 f0 f1
    revert HN r4 r5
    generalize w4.setCell ⟨h, 0, none⟩ _ = w8
    intro r4 r5 HN
    have s0 : w8.cell? ⟨b4 + 1, 0, none⟩ = some (.int .i64 pf) := (cell_of_row w8 (b4 + 1) 0 _ _ _ r5).trans rfl
    have s1 : w8.cell? ⟨b4 + 1, 1, none⟩ = some (.int .i64 pt) := (cell_of_row w8 (b4 + 1) 1 _ _ _ r5).trans rfl
    have s2 : w8.cell? ⟨b4 + 1, 2, none⟩ = some (.slice pB pn pc) := (cell_of_row w8 (b4 + 1) 2 _ _ _ r5).trans rfl
    have t0 : w8.cell? ⟨b4, 0, none⟩ = some (.int .i64 0) := (cell_of_row w8 b4 0 _ _ _ r4).trans rfl
    have t1 : w8.cell? ⟨b4, 1, none⟩ = some (.int .i64 0) := (cell_of_row w8 b4 1 _ _ _ r4).trans rfl
    have t2 : w8.cell? ⟨b4, 2, none⟩ = some (.slice none 0 0) := (cell_of_row w8 b4 2 _ _ _ r4).trans rfl
    have u0 : w8.frozen? ⟨b4, 0, none⟩ = false := by simp [World.frozen?, r4]
    have u1 : w8.frozen? ⟨b4, 1, none⟩ = false := by simp [World.frozen?, r4]
    have u2 : w8.frozen? ⟨b4, 2, none⟩ = false := by simp [World.frozen?, r4]
    clear r4 r5
    go_wp2_with fail
    obtain ⟨n1, n2, r4, hx2⟩ := HN.out
    have g1 := (put2' (i := 0) (x := .int .i64 pf) r4)
    have g2 := (put2' (i := 1) (x := .int .i64 pt) g1)
    have g3 := (put2' (i := 2) (x := .slice pB pn pc) g2)
    have z0 := (cell_of_row _ b4 0 _ _ _ g3)
    have z1 := (cell_of_row _ b4 1 _ _ _ g3)
    have z2 := (cell_of_row _ b4 2 _ _ _ g3)
    have hch : Chg (fun k => k = b4) w8 (((w8.setCell ⟨b4, 0, none⟩ (.int .i64 pf)).setCell ⟨b4, 1, none⟩ (.int .i64 pt)).setCell ⟨b4, 2, none⟩ (.slice pB pn pc)) := (((Chg.refl (fun k => k = b4) w8).setCell ⟨b4, 0, none⟩ _ (fun _ => rfl)).setCell ⟨b4, 1, none⟩ _ (fun _ => rfl)).setCell ⟨b4, 2, none⟩ _ (fun _ => rfl)
    have hall := ((Chg.of_ext hx2).trans n2 (fun _ _ h => h.elim) (fun _ _ h => h)).trans hch (T := fun k => k = h) (fun _ _ h => h) (fun k hk e => by have := HB4.out; omega)
    refine bodyPost_ret (v := .agg #[.int .i64 pf, .int .i64 pt, .slice pB pn pc]) (by simp [results, Try.results18, go_sem, z0, z1, z2]; try rfl) rfl ⟨_, _, rfl, n1.drop H.out.1.mem (by omega) hch, map_erase _ _, hall⟩
end Go.Proofs.Ytbeoickdcbnjgaa
