/- The document's Do: the row with one more. -/
import Derived.Test.YtdcbpnkcpglhhaaGrpU
namespace Go.Proofs.Ytdcbpnkcpglhhaa
open Go.RowKit
set_option linter.unusedVariables false
set_option linter.unusedSimpArgs false
set_option linter.unnecessarySimpa false
attribute [local go_sem] stepR givesR fillE Ext.refl run_store_float

def IsP1 (base : Nat) (p : Gp) (v : Value) (w : World) : Prop := ∃ q, v = .slice (some ⟨q, 0, none⟩) 1 1 ∧ base ≤ q ∧ w.heap[q]? = some (.cells p.cells.toArray 36 (0, 0))
theorem IsP1.later (base : Nat) (p : Gp) : ∀ v w w', IsP1 base p v w → Ext w w' → IsP1 base p v w' := fun v w w' ⟨q, e, h1, h2⟩ hx => ⟨q, e, h1, hx.obj h2⟩
theorem IsP1.row {base q : Nat} {p : Gp} {w : World} (hb : base ≤ q) (h : w.heap[q]? = some (.cells p.cells.toArray 36 (0, 0))) : GRow w base (.slice (some ⟨q, 0, none⟩) 1 1) [p] := by
  refine .inr ⟨q, 1, _, rfl, hb, h, Nat.le_refl _, by simp [Gp.cells], by decide, rfl, ?_⟩
  simp [gcells, Gp.cells]
def IsGF (base sz : Nat) (o : Option Nat) (L : List Gp) (v : Value) (w : World) : Prop := GRow w base v L ∧ (v.ownBlock = o ∨ ∃ k, v.ownBlock = some k ∧ sz ≤ k)
theorem IsGF.later (base sz : Nat) (o : Option Nat) (L : List Gp) : ∀ v w w', IsGF base sz o L v w → Ext w w' → IsGF base sz o L v w' := fun v w w' h hx => ⟨GRow.ext h.1 hx, h.2⟩
/-- behind a change of the row -/
def RowPost2 (base g bx : Nat) (m : ByteArray) (A : Option Addr) (l c : Nat) (v : Value) (wr : World) (L' : List Gp) (a : Act) (w' : World) : Prop :=
  RK g bx m A l c a ∧ ∃ v', Dr RD w' base g v' L' ∧ Chg (fun k => k = g ∨ some k = v.ownBlock) wr w' ∧ Fresh wr v v' ∧ w'.heap[bx]? = some zeroV
theorem Dr.set {w : World} {base g bx : Nat} {v v' : Value} {L L' : List Gp} {S : Nat → Prop} {n : Nat} {A : Option Addr} {c : Nat} {ts : List T} {wr w9 : World} (h : RW w base g bx v L S n A c ts wr) (hx : Ext wr w9) (hr : GRow w9 base v' L') (hfr : Fresh wr v v') (hf : L'.length ≤ 16) (hs : Srt L') (hk : ∀ p ∈ L', p.ok) :
    Dr RD (w9.setCell ⟨g, 0, none⟩ v') base g v' L' ∧ Chg (fun k => k = g ∨ some k = v.ownBlock) wr (w9.setCell ⟨g, 0, none⟩ v') ∧ Fresh wr v v' ∧ (w9.setCell ⟨g, 0, none⟩ v').heap[bx]? = some zeroV := by
  refine ⟨Dr.put (hx.obj h.dr.obj) h.dr.low hr (by decide) hf hs hk, ((Chg.of_ext hx).mono (fun _ _ e => e.elim)).setCell ⟨g, 0, none⟩ _ (fun _ => .inl rfl), hfr, ?_⟩
  rw [show (w9.setCell ⟨g, 0, none⟩ v').heap[bx]? = w9.heap[bx]? from Below.heap_setCell w9 ⟨g, 0, none⟩ v' bx (fun e => h.ne e.symm)]
  exact hx.obj h.ob
set_option maxRecDepth 1000000 in
set_option maxHeartbeats 8000000 in
theorem ins_piece {w : World} {base g bx bg : Nat} {v : Value} {L : List Gp} {S : Nat → Prop} {n : Nat} {A : Option Addr} {c : Nat} {ts : List T} {m : ByteArray} {wr : World} {a : Act} {pos : Nat} {p : Gp}
    (hk : RK g bx m A ts.length c a) (h13 : G a 13 = .int .i64 pos) (h15 : G a 15 = .pointer (some ⟨bg, 0, none⟩)) (hW : RW w base g bx v L S n A c ts wr) (hbg : wr.heap[bg]? = some (.cells #[.string p.name, .string p.cls, .int .i64 p.sty, .int .u32 p.ver] 36 (0, 0)))
    (hpos : pos ≤ L.length) (hf : (L.take pos ++ p :: L.drop pos).length ≤ 16) (hs : Srt (L.take pos ++ p :: L.drop pos)) (hok : ∀ q ∈ L.take pos ++ p :: L.drop pos, q.ok) :
    Code.wp Try.prog (nav [1,1,1,0,2,1,4,1,1,1,1,1,1,0] doBody) (Norm (RowPost2 base g bx m A ts.length c v wr (L.take pos ++ p :: L.drop pos))) a wr := by
  have HK := Lib.hid hk
  have hdr := hW.dr
  have hfew := hdr.few
  have hbl := hW.bl
  obtain ⟨A4, c4, rfl, hlc, hcm, hA4⟩ := hdr.row.form
  obtain ⟨pn, pc, ps, pv⟩ := p
  have c0 : ∀ p : Later wr, p.w.cell? ⟨g, 0, none⟩ = some (.slice A4 L.length c4) := fun p => p.cell hdr.cell.1
  have k0 : ∀ p : Later wr, p.w.cell? ⟨bg, 0, none⟩ = some (.string pn) := fun p => p.cell ((cell_of_row wr bg 0 _ _ _ hbg).trans rfl)
  have k1 : ∀ p : Later wr, p.w.cell? ⟨bg, 1, none⟩ = some (.string pc) := fun p => p.cell ((cell_of_row wr bg 1 _ _ _ hbg).trans rfl)
  have k2 : ∀ p : Later wr, p.w.cell? ⟨bg, 2, none⟩ = some (.int .i64 ps) := fun p => p.cell ((cell_of_row wr bg 2 _ _ _ hbg).trans rfl)
  have k3 : ∀ p : Later wr, p.w.cell? ⟨bg, 3, none⟩ = some (.int .u32 pv) := fun p => p.cell ((cell_of_row wr bg 3 _ _ _ hbg).trans rfl)
  have hmm : 2000 ≤ maxLen := by decide
  -- the first append, the second
  have R1 : ∀ (w' : World), Ext wr w' → ∀ q, wr.heap.size ≤ q → w'.heap[q]? = some (.cells (Gp.cells ⟨pn, pc, ps, pv⟩).toArray 36 (0, 0)) → CRow 36 4 w' wr.heap.size (.slice (some ⟨q, 0, none⟩) 1 1) 1 (gcells [⟨pn, pc, ps, pv⟩]) := fun w' hx q hq ho => IsP1.row hq ho
  have hlen3 : (L.take pos ++ (⟨pn, pc, ps, pv⟩ : Gp) :: L.drop pos).length = pos + (1 + (L.length - pos)) := by
    rw [List.length_append, List.length_take, List.length_cons, List.length_drop]; omega
  have hlen2 : ((⟨pn, pc, ps, pv⟩ : Gp) :: L.drop pos).length = 1 + (L.length - pos) := by
    rw [List.length_cons, List.length_drop]; omega
  have hgc : gcells [⟨pn, pc, ps, pv⟩] ++ gcells (L.drop pos) = gcells ((⟨pn, pc, ps, pv⟩ : Gp) :: L.drop pos) := (gcells_append [⟨pn, pc, ps, pv⟩] (L.drop pos)).symm
  have hgc2 : (gcells L).take (pos * 4) ++ gcells ((⟨pn, pc, ps, pv⟩ : Gp) :: L.drop pos) = gcells (L.take pos ++ (⟨pn, pc, ps, pv⟩ : Gp) :: L.drop pos) := by rw [gcells_take, ← gcells_append]
  have HC := Lib.hid (And.intro hlen2 (And.intro hlen3 (And.intro hgc hgc2)))
  have HF := Lib.hid (And.intro hf (And.intro hs hok))
  have H := Lib.hid hW
  have hrow := hdr.row
  clear hW hdr hbg hf hs hok hlen2 hlen3 hgc hgc2
  rw [act_292 a hk.d hk.s, hk.h0, h13, h15]
  clear hk h13 h15
  have hpn : ((pos : Int) < 0) = False := by simp
  conv => arg 2; whnf
  rcases A4 with _ | ad
  · obtain ⟨h0, rfl⟩ := hA4 rfl
    obtain rfl : L = [] := List.eq_nil_of_length_eq_zero h0
    obtain rfl : pos = 0 := by simpa using hpos
    simp only [List.take_nil, List.drop_nil, List.nil_append, List.length_nil, Nat.sub_zero, Nat.zero_mul, List.take_zero] at *
    refine wp_region_rel' 18 (by kernel_rfl) (by kernel_rfl) (fun Fin hFin => ?_)
    simp only [List.take_succ_cons, List.take_zero]
    (refine relGo_p (fun K hK => ?_); go_simp; refine hK _ ?_; clear hK K)
    (refine relGo_p (fun K hK => ?_); go_simp; refine hK _ ?_; clear hK K)
    (refine relGo_p (fun K hK => ?_); go_simp; refine hK _ ?_; clear hK K)
    (refine relGo_p (fun K hK => ?_); go_simp; refine hK _ ?_; clear hK K)
    (refine relGo_p (fun K hK => ?_); go_simp; refine hK _ ?_; clear hK K)
    (refine relGo_p (fun K hK => ?_); go_simp; refine hK _ ?_; clear hK K)
    (refine relGo_p (fun K hK => ?_); go_simp; refine hK _ ?_; clear hK K)
    (refine relGo_p (fun K hK => ?_); go_simp; refine hK _ ?_; clear hK K)
    (refine relGo_p (fun K hK => ?_); go_simp; refine hK _ ?_; clear hK K)
    refine relGo_r (IsP1 wr.heap.size ⟨pn, pc, ps, pv⟩) (IsP1.later _ _) ?_ ?_
    · intro w' hw'
      go_simp
      exact ⟨(Ext.refl w').alloc _, _, rfl, hw'.size_le', heap_alloc_new w' _⟩
    (refine relGo_p (fun K hK => ?_); go_simp; refine hK _ ?_; clear hK K)
    (refine relGo_p (fun K hK => ?_); go_simp; refine hK _ ?_; clear hK K)
    (refine relGo_p (fun K hK => ?_); go_simp; refine hK _ ?_; clear hK K)
    (refine relGo_p (fun K hK => ?_); go_simp; refine hK _ ?_; clear hK K)
    (refine relGo_p (fun K hK => ?_); go_simp; refine hK _ ?_; clear hK K)
    (refine relGo_p (fun K hK => ?_); go_simp; refine hK _ ?_; clear hK K)
    refine relGo_r (IsG wr.heap.size (⟨pn, pc, ps, pv⟩ :: [])) (IsG.later _ _) ?_ ?_
    · intro w' hw' v1 hv1
      obtain ⟨q, rfl, hle, hob⟩ : IsP1 wr.heap.size ⟨pn, pc, ps, pv⟩ v1 w' := hv1 (by kernel_rfl)
      refine stepR_append_full rfl wr.heap.size (.tmp 126) (.tmp 132) 39 rfl Try.underlying39 48 infoE (by omega) (some ⟨q, 0, none⟩) 1 (gcells [⟨pn, pc, ps, pv⟩]) (gcells ([])) none 0 0 (by simp [Act.eval, Act.put]) (by simp [Act.eval, Act.put]) (R1 w' hw' q hle hob) ⟨by simp [gcells], ⟨fun _ => rfl, ⟨fun ad e => (by cases e), by simp [gcells]⟩⟩⟩ hw'.size_le' (by omega) (by omega) ?_
      intro v2 w2 q1 q2 q3
      show GRow w2 _ v2 _
      unfold GRow
      exact q1
    refine relGo_r (IsGF base wr.heap.size none (⟨pn, pc, ps, pv⟩ :: [])) (IsGF.later _ _ _ _) ?_ ?_
    · intro w' hw' v1 hv1 v2 hv2
      have hg2 : GRow w' wr.heap.size v2 (⟨pn, pc, ps, pv⟩ :: []) := hv2 (by kernel_rfl)
      obtain ⟨A2, c2, rfl, _⟩ := hg2.form
      refine stepR_append_full rfl base (.tmp 124) (.tmp 133) 39 rfl Try.underlying39 48 infoE (by omega) none 0 [] (gcells (⟨pn, pc, ps, pv⟩ :: [])) A2 1 c2 (by simp [Act.eval, Act.put]) (by simp [Act.eval, Act.put]) (CRow.nil w' base) hg2.src.2 (Nat.le_trans hbl hw'.size_le') (by omega) (by omega) ?_
      intro v3 w3 q1 q2 q3
      refine ⟨?_, ?_⟩
      · unfold GRow
        exact q1
      · rcases q3 with e | ⟨k, e, hk⟩
        · exact .inl e
        · exact .inr ⟨k, e, Nat.le_trans hw'.size_le' hk⟩
    refine hFin _ _ (fun w9 hw9 => ?_)
    intro v1 hv1 v2 hv2 v3 hv3
    obtain ⟨q, rfl, _, _⟩ : IsP1 wr.heap.size ⟨pn, pc, ps, pv⟩ v1 w9 := hv1 (by kernel_rfl)
    have hg2 : GRow w9 wr.heap.size v2 (⟨pn, pc, ps, pv⟩ :: []) := hv2 (by kernel_rfl)
    obtain ⟨A2, c2, rfl, _⟩ := hg2.form
    obtain ⟨hg3, hfr⟩ : IsGF base wr.heap.size none (⟨pn, pc, ps, pv⟩ :: []) v3 w9 := hv3 (by kernel_rfl)
    obtain ⟨A3, c3, rfl, _⟩ := hg3.form
    obtain ⟨e0, f0⟩ := (H.out.dr.ext hw9).cell
    have hfr2 : Fresh wr (.slice none 0 0) (.slice A3 ((⟨pn, pc, ps, pv⟩ : Gp) :: []).length c3) := hfr
    have HE := Lib.hid (Dr.set H.out hw9 hg3 hfr2 HF.out.1 HF.out.2.1 HF.out.2.2)
    clear hFin Fin hv1 hv2 hv3 c0 k0 k1 k2 k3 hg2 hg3 hfr hfr2 R1
    generalize ((⟨pn, pc, ps, pv⟩ : Gp) :: []).length = n3 at *
    generalize ((⟨pn, pc, ps, pv⟩ : Gp) :: []).length = n2 at *
    simp only [fillE, List.drop_succ_cons, List.drop_zero, List.drop_nil]
    go_wp2_with fail
    exact ⟨⟨rfl, rfl, rfl, HK.out.h1, HK.out.h2, HK.out.h6, HK.out.h10⟩, _, HE.out⟩
  · obtain ⟨r, cur, hr, _⟩ := CRow.block hrow (by simp)
    obtain rfl : ad = ⟨r, 0, none⟩ := by simpa using hr
    obtain ⟨T1, hT1, hsrc⟩ := hrow.tail hpos
    have HR := Lib.hid (And.intro hrow hsrc)
    have hpl : (pos : Int) ≤ (L.length : Int) := by omega
    have hpc : (pos : Int) ≤ (c4 : Int) := by omega
    have hlc' : (L.length : Int) ≤ (c4 : Int) := by omega
    have hpp : pos ≤ c4 := by omega
    clear hrow hsrc hr hA4
    refine wp_region_rel' 18 (by kernel_rfl) (by kernel_rfl) (fun Fin hFin => ?_)
    simp only [List.take_succ_cons, List.take_zero]
    (refine relGo_p (fun K hK => ?_); go_simp; refine hK _ ?_; clear hK K)
    (refine relGo_p (fun K hK => ?_); go_simp; refine hK _ ?_; clear hK K)
    (refine relGo_p (fun K hK => ?_); go_simp; refine hK _ ?_; clear hK K)
    (refine relGo_p (fun K hK => ?_); go_simp; refine hK _ ?_; clear hK K)
    (refine relGo_p (fun K hK => ?_); go_simp; refine hK _ ?_; clear hK K)
    (refine relGo_p (fun K hK => ?_); go_simp; refine hK _ ?_; clear hK K)
    (refine relGo_p (fun K hK => ?_); go_simp; refine hK _ ?_; clear hK K)
    (refine relGo_p (fun K hK => ?_); go_simp; refine hK _ ?_; clear hK K)
    (refine relGo_p (fun K hK => ?_); go_simp; refine hK _ ?_; clear hK K)
    refine relGo_r (IsP1 wr.heap.size ⟨pn, pc, ps, pv⟩) (IsP1.later _ _) ?_ ?_
    · intro w' hw'
      go_simp
      exact ⟨(Ext.refl w').alloc _, _, rfl, hw'.size_le', heap_alloc_new w' _⟩
    (refine relGo_p (fun K hK => ?_); go_simp; refine hK _ ?_; clear hK K)
    (refine relGo_p (fun K hK => ?_); go_simp; refine hK _ ?_; clear hK K)
    (refine relGo_p (fun K hK => ?_); go_simp; refine hK _ ?_; clear hK K)
    (refine relGo_p (fun K hK => ?_); go_simp; refine hK _ ?_; clear hK K)
    (refine relGo_p (fun K hK => ?_); go_simp; refine hK _ ?_; clear hK K)
    (refine relGo_p (fun K hK => ?_); go_simp; refine hK _ ?_; clear hK K)
    refine relGo_r (IsG wr.heap.size (⟨pn, pc, ps, pv⟩ :: L.drop pos)) (IsG.later _ _) ?_ ?_
    · intro w' hw' v1 hv1
      obtain ⟨q, rfl, hle, hob⟩ : IsP1 wr.heap.size ⟨pn, pc, ps, pv⟩ v1 w' := hv1 (by kernel_rfl)
      refine stepR_append_full rfl wr.heap.size (.tmp 126) (.tmp 132) 39 rfl Try.underlying39 48 infoE (by omega) (some ⟨q, 0, none⟩) 1 (gcells [⟨pn, pc, ps, pv⟩]) (gcells (L.drop pos)) (some T1) (L.length - pos) (c4 - pos) (by simp [Act.eval, Act.put]) (by simp [Act.eval, Act.put]) (R1 w' hw' q hle hob) (HR.out.2.ext hw') hw'.size_le' (by omega) (by omega) ?_
      intro v2 w2 q1 q2 q3
      show GRow w2 _ v2 _
      unfold GRow
      rw [HC.out.1, ← HC.out.2.2.1]
      exact q1
    refine relGo_r (IsGF base wr.heap.size (some r) (L.take pos ++ ⟨pn, pc, ps, pv⟩ :: L.drop pos)) (IsGF.later _ _ _ _) ?_ ?_
    · intro w' hw' v1 hv1 v2 hv2
      have hg2 : GRow w' wr.heap.size v2 (⟨pn, pc, ps, pv⟩ :: L.drop pos) := hv2 (by kernel_rfl)
      obtain ⟨A2, c2, rfl, _⟩ := hg2.form
      refine stepR_append_full rfl base (.tmp 124) (.tmp 133) 39 rfl Try.underlying39 48 infoE (by omega) (some ⟨r, 0, none⟩) pos ((gcells L).take (pos * 4)) (gcells (⟨pn, pc, ps, pv⟩ :: L.drop pos)) A2 (1 + (L.length - pos)) c2 (by simp [Act.eval, Act.put]) (by rw [← HC.out.1]; simp [Act.eval, Act.put]) ((HR.out.1.ext hw').clip pos pos hpos (Nat.le_refl _) hpp) (by rw [← HC.out.1]; exact hg2.src.2) (Nat.le_trans hbl hw'.size_le') (by omega) (by omega) ?_
      intro v3 w3 q1 q2 q3
      refine ⟨?_, ?_⟩
      · unfold GRow
        rw [HC.out.2.1, ← HC.out.2.2.2]
        exact q1
      · rcases q3 with e | ⟨k, e, hk⟩
        · exact .inl e
        · exact .inr ⟨k, e, Nat.le_trans hw'.size_le' hk⟩
    refine hFin _ _ (fun w9 hw9 => ?_)
    intro v1 hv1 v2 hv2 v3 hv3
    obtain ⟨q, rfl, _, _⟩ : IsP1 wr.heap.size ⟨pn, pc, ps, pv⟩ v1 w9 := hv1 (by kernel_rfl)
    have hg2 : GRow w9 wr.heap.size v2 (⟨pn, pc, ps, pv⟩ :: L.drop pos) := hv2 (by kernel_rfl)
    obtain ⟨A2, c2, rfl, _⟩ := hg2.form
    obtain ⟨hg3, hfr⟩ : IsGF base wr.heap.size (some r) (L.take pos ++ ⟨pn, pc, ps, pv⟩ :: L.drop pos) v3 w9 := hv3 (by kernel_rfl)
    obtain ⟨A3, c3, rfl, _⟩ := hg3.form
    obtain ⟨e0, f0⟩ := (H.out.dr.ext hw9).cell
    have hfr2 : Fresh wr (.slice (some ⟨r, 0, none⟩) L.length c4) (.slice A3 (L.take pos ++ (⟨pn, pc, ps, pv⟩ : Gp) :: L.drop pos).length c3) := hfr
    have HE := Lib.hid (Dr.set H.out hw9 hg3 hfr2 HF.out.1 HF.out.2.1 HF.out.2.2)
    clear hFin Fin hv1 hv2 hv3 c0 k0 k1 k2 k3 hg2 hg3 hfr hfr2 R1
    generalize (L.take pos ++ (⟨pn, pc, ps, pv⟩ : Gp) :: L.drop pos).length = n3 at *
    generalize ((⟨pn, pc, ps, pv⟩ : Gp) :: L.drop pos).length = n2 at *
    simp only [fillE, List.drop_succ_cons, List.drop_zero, List.drop_nil]
    go_wp2_with fail
    exact ⟨⟨rfl, rfl, rfl, HK.out.h1, HK.out.h2, HK.out.h6, HK.out.h10⟩, _, HE.out⟩
end Go.Proofs.Ytdcbpnkcpglhhaa
