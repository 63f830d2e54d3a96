/- The document's Do: the row with one less; a group changed. -/
import Derived.Test.YtdcbpnkcpglhhaaGrpV
namespace Go.Proofs.Ytdcbpnkcpglhhaa
open Go.RowKit
set_option linter.unusedVariables false
set_option linter.unusedSimpArgs false
set_option linter.unnecessarySimpa false
attribute [local go_sem] stepR givesR fillE Ext.refl run_store_float

set_option maxRecDepth 1000000 in
set_option maxHeartbeats 8000000 in
theorem del_piece {w : World} {base g bx : Nat} {v : Value} {L : List Gp} {S : Nat → Prop} {n : Nat} {A : Option Addr} {c : Nat} {ts : List T} {m : ByteArray} {wr : World} {a : Act} {pos : Nat}
    (hk : RK g bx m A ts.length c a) (h16 : G a 16 = .int .i64 pos) (hW : RW w base g bx v L S n A c ts wr) (hpos : pos < L.length) :
    Code.wp Try.prog (nav [1,1,1,0,2,1,5,1,4,1,1,0] doBody) (Norm (RowPost2 base g bx m A ts.length c v wr (delG L pos))) a wr := by
  have HK := Lib.hid hk
  have hdr := hW.dr
  have hfew := hdr.few
  have hbl := hW.bl
  obtain ⟨A4, c4, rfl, hlc, hcm, hA4⟩ := hdr.row.form
  have c0 : ∀ p : Later wr, p.w.cell? ⟨g, 0, none⟩ = some (.slice A4 L.length c4) := fun p => p.cell hdr.cell.1
  have hmm : 2000 ≤ maxLen := by decide
  have hmm2 : maxLen ≤ 9223372036854775807 := by decide
  have hl3 : (delG L pos).length = pos + (L.length - (pos + 1)) := by rw [delG_length hpos]; omega
  have hgc : (gcells L).take (pos * 4) ++ gcells (L.drop (pos + 1)) = gcells (delG L pos) := by rw [gcells_take, ← gcells_append]; rfl
  have HC := Lib.hid (And.intro hl3 hgc)
  have HF := Lib.hid (And.intro (show (delG L pos).length ≤ 16 by rw [delG_length hpos]; omega) (And.intro (hdr.srt.del pos) (fun p hp => hdr.ok p (delG_mem hp) : ∀ p ∈ delG L pos, p.ok)))
  have H := Lib.hid hW
  have hrow := hdr.row
  clear hW hdr hl3 hgc
  rw [act_292 a hk.d hk.s, hk.h0, h16]
  clear hk h16
  have hpn : ((pos : Int) < 0) = False := by simp
  have hw1 : IntKind.i64.wrap ((pos : Int) + 1) = (pos : Int) + 1 := IntWalk.i64_in _ (by omega)
  have hp1 : (0 : Int) ≤ (pos : Int) + 1 := by omega
  have htn : ((pos : Int) + 1).toNat = pos + 1 := by omega
  conv => arg 2; whnf
  rcases A4 with _ | ad
  · obtain ⟨h0, rfl⟩ := hA4 rfl
    omega
  · obtain ⟨r, cur, hr, _⟩ := CRow.block hrow (by simp)
    obtain rfl : ad = ⟨r, 0, none⟩ := by simpa using hr
    obtain ⟨T1, hT1, hsrc⟩ := hrow.tail (i := pos + 1) (by omega)
    have HR := Lib.hid (And.intro hrow hsrc)
    have hpl : (pos : Int) + 1 ≤ (L.length : Int) := by omega
    have hpc : (pos : Int) ≤ (c4 : Int) := by omega
    have hlc' : (L.length : Int) ≤ (c4 : Int) := by omega
    have hpp : pos ≤ c4 := by omega
    clear hrow hsrc hr hA4
    refine wp_region_rel' 16 (by kernel_rfl) (by kernel_rfl) (fun Fin hFin => ?_)
    simp only [List.take_succ_cons, List.take_zero]
    (refine relGo_p (fun K hK => ?_); go_simp; refine hK _ ?_; clear hK K)
    (refine relGo_p (fun K hK => ?_); go_simp; refine hK _ ?_; clear hK K)
    (refine relGo_p (fun K hK => ?_); go_simp; refine hK _ ?_; clear hK K)
    (refine relGo_p (fun K hK => ?_); go_simp; refine hK _ ?_; clear hK K)
    (refine relGo_p (fun K hK => ?_); go_simp; refine hK _ ?_; clear hK K)
    (refine relGo_p (fun K hK => ?_); go_simp; refine hK _ ?_; clear hK K)
    (refine relGo_p (fun K hK => ?_); go_simp; refine hK _ ?_; clear hK K)
    (refine relGo_p (fun K hK => ?_); go_simp; refine hK _ ?_; clear hK K)
    (refine relGo_p (fun K hK => ?_); go_simp; refine hK _ ?_; clear hK K)
    (refine relGo_p (fun K hK => ?_); go_simp; refine hK _ ?_; clear hK K)
    (refine relGo_p (fun K hK => ?_); go_simp; refine hK _ ?_; clear hK K)
    (refine relGo_p (fun K hK => ?_); go_simp; refine hK _ ?_; clear hK K)
    (refine relGo_p (fun K hK => ?_); go_simp; refine hK _ ?_; clear hK K)
    (refine relGo_p (fun K hK => ?_); go_simp; refine hK _ ?_; clear hK K)
    (refine relGo_p (fun K hK => ?_); go_simp; refine hK _ ?_; clear hK K)
    refine relGo_r (IsGF base wr.heap.size (some r) (delG L pos)) (IsGF.later _ _ _ _) ?_ ?_
    · intro w' hw'
      refine stepR_append_full rfl base (.tmp 171) (.tmp 178) 39 rfl Try.underlying39 48 infoE (by omega) (some ⟨r, 0, none⟩) pos ((gcells L).take (pos * 4)) (gcells (L.drop (pos + 1))) (some T1) (L.length - (pos + 1)) (c4 - (pos + 1)) (by simp [Act.eval, Act.put]) (by simp [Act.eval, Act.put]) ((HR.out.1.ext hw').clip pos pos (Nat.le_of_lt hpos) (Nat.le_refl _) hpp) (HR.out.2.ext hw') (Nat.le_trans hbl hw'.size_le') (by omega) (by omega) ?_
      intro v3 w3 q1 q2 q3
      refine ⟨?_, ?_⟩
      · unfold GRow
        rw [HC.out.1, ← HC.out.2]
        exact q1
      · rcases q3 with e | ⟨k, e, hk⟩
        · exact .inl e
        · exact .inr ⟨k, e, Nat.le_trans hw'.size_le' hk⟩
    refine hFin _ _ (fun w9 hw9 => ?_)
    intro v3 hv3
    obtain ⟨hg3, hfr⟩ : IsGF base wr.heap.size (some r) (delG L pos) v3 w9 := hv3 (by kernel_rfl)
    obtain ⟨A3, c3, rfl, _⟩ := hg3.form
    obtain ⟨e0, f0⟩ := (H.out.dr.ext hw9).cell
    have hfr2 : Fresh wr (.slice (some ⟨r, 0, none⟩) L.length c4) (.slice A3 (delG L pos).length c3) := hfr
    have HE := Lib.hid (Dr.set H.out hw9 hg3 hfr2 HF.out.1 HF.out.2.1 HF.out.2.2)
    clear hFin Fin hv3 c0 hg3 hfr hfr2
    generalize (delG L pos).length = n3 at *
    simp only [fillE, List.drop_succ_cons, List.drop_zero, List.drop_nil]
    go_wp2_with fail
    exact ⟨⟨rfl, rfl, rfl, HK.out.h1, HK.out.h2, HK.out.h6, HK.out.h10⟩, _, HE.out⟩
end Go.Proofs.Ytdcbpnkcpglhhaa
