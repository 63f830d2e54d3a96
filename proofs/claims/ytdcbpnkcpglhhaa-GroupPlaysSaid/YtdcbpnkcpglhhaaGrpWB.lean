/- The document's Do: the row with one less; a group changed. -/
import Derived.Test.YtdcbpnkcpglhhaaGrpV
namespace Go.Proofs.Ytdcbpnkcpglhhaa
open Go.RowKit
set_option linter.unusedVariables false
set_option linter.unusedSimpArgs false
set_option linter.unnecessarySimpa false
attribute [local go_sem] stepR givesR fillE Ext.refl run_store_float

set_option maxRecDepth 1000000 in
set_option maxHeartbeats 8000000 in
theorem set_tail {w : World} {base g bx : Nat} {v : Value} {L L' : List Gp} {S : Nat → Prop} {n : Nat} {A : Option Addr} {c : Nat} {ts : List T} {m : ByteArray} {wr w5 : World} {a : Act} {A1 : Option Addr} {n1 c1 : Nat}
    (hk : RK g bx m A ts.length c a) (h22 : G a 22 = .slice A1 n1 c1) (hW : RW w base g bx v L S n A c ts wr) (hx : Ext wr w5) (hr : GRow w5 base (.slice A1 n1 c1) L') (hfr : Fresh wr v (.slice A1 n1 c1)) (hf : L'.length ≤ 16) (hs : Srt L') (hok : ∀ p ∈ L', p.ok) :
    Code.wp Try.prog (nav [1,1,1,0,2,1,5,1,5,1,4,1,1,1,1,1,1,1] doBody) (RF w base g bx v (L', nilT, 0)) a w5 := by
  have hset := Dr.set hW hx hr hfr hf hs hok
  obtain ⟨e0, e1⟩ := (hW.dr.ext hx).cell
  obtain ⟨m0, m1, m2, m3, m4, n0, n1', n2, n3, n4⟩ := cells5 hset.2.2.2
  have H := Lib.hid (And.intro hW hset)
  have hgb := hW.ne
  clear hW hset hx hr hfr hf hs hok
  rw [act_292 a hk.d hk.s, hk.h0, h22, hk.h6]
  clear hk h22
  conv => arg 2; whnf
  go_wp2_with fail
  obtain ⟨hW, hd, hc, hf, ho⟩ := H.out
  obtain ⟨o4, hch⟩ := put5 (v0 := .int .i64 0) (v1 := .int .i64 0) (v2 := .float .f64 0) (v3 := .string ⟨#[]⟩) (v4 := .slice none 0 0) ho
  have key := fun (a : Act) ha hs h6 h7 => RF.nil (a := a) hW hd hc hf 0 hch o4 ha hs h6 h7
  exact key _ rfl rfl rfl rfl
set_option maxRecDepth 1000000 in
set_option maxHeartbeats 8000000 in
theorem set_piece {w : World} {base g bx : Nat} {v : Value} {L : List Gp} {S : Nat → Prop} {n : Nat} {A : Option Addr} {c : Nat} {ts : List T} {m : ByteArray} {wr : World} {a : Act} {pos : Nat} {z : Int} {p : Gp}
    (hk : RK g bx m A ts.length c a) (h20 : G a 20 = .int .i64 pos) (h18 : G a 18 = .int .i64 z) (hz : z = 0 ∨ z = 1 ∨ z = 2) (hW : RW w base g bx v L S n A c ts wr) (hp : L[pos]? = some p) :
    Code.wp Try.prog (nav [1,1,1,0,2,1,5,1,5,1,4,1,1,1,1] doBody) (RF w base g bx v (setG L pos (bump p z), nilT, 0)) a wr := by
  have HK := Lib.hid hk
  have hdr := hW.dr
  have hfew := hdr.few
  have hpos := (List.getElem?_eq_some_iff.1 hp).1
  obtain ⟨A4, c4, rfl, hlc, hcm, hA4⟩ := hdr.row.form
  obtain ⟨pn, pc, ps, pv⟩ := p
  obtain ⟨c0, f0⟩ := hdr.cell
  have hmm : 2000 ≤ maxLen := by decide
  have HS := Lib.hid hdr.row.src.2
  have H := Lib.hid (And.intro hW (And.intro hp hz))
  clear hW hdr hA4 hlc hcm hp hz
  rw [act_292 a hk.d hk.s, hk.h0, h18, h20, hk.h6]
  clear hk h18 h20
  have hpn : ((pos : Int) < 0) = False := by simp
  have hpl : (pos : Int) < (L.length : Int) := by omega
  obtain ⟨D, hD⟩ : ∃ D, nav [1,1,1,0,2,1,5,1,5,1,4,1,1,1,1,1,1,1] doBody = D := ⟨_, rfl⟩
  have hD2 := hD
  conv at hD2 => lhs; whnf
  conv => arg 2; whnf
  rw [hD2]
  clear hD2
  go_wp2_with (at_builtin; refine wpList_append_crow rfl wr.heap.size (.const (.slice none 0 0)) (.tmp 223) 39 rfl Try.underlying39 48 infoE (by omega) (.slice none 0 0) 0 [] (gcells L) A4 L.length c4 rfl rfl (CRow.nil _ _) HS.out (Nat.le_refl _) (by omega) (by omega) ?next)
  case next =>
    intro v1 w1 h1 h2 h3
    have hr1 : GRow w1 wr.heap.size v1 L := by
      unfold GRow
      simpa using h1
    have hx1 : Ext wr w1 := ⟨h2.os, h2.tape, h2.output, h2.size, fun k hk => h2.block k hk (by simp [Value.ownBlock])⟩
    obtain ⟨A1, c1, rfl, _⟩ := hr1.form
    obtain ⟨r, rfl, hgat⟩ := hr1.rd (by omega)
    obtain ⟨g0, g1, g2, g3⟩ := hgat _ _ H.out.2.1
    obtain ⟨q, hq, hqb, _, _, hfr⟩ := CRow.cell hr1 (by omega)
    obtain rfl : r = q := by simpa using hq
    have k4 := (hfr (pos * 4 + 2) (by omega)).2
    have k5 := (hfr (pos * 4 + 3) (by omega)).2
    have k3' : (w1.setCell ⟨r, pos * 4 + 2, none⟩ (.int .i64 z)).cell? ⟨r, pos * 4 + 3, none⟩ = some (.int .u32 pv) := by
      rw [World.cell?_setCell_other _ _ _ _ (by simp)]
      exact g3
    have hgr : g < wr.heap.size := H.out.1.dr.lt
    have hne : g ≠ r := by omega
    have hcg : Chg (fun k => k = r) w1 ((w1.setCell ⟨r, pos * 4 + 2, none⟩ (.int .i64 z)).setCell ⟨r, pos * 4 + 3, none⟩ (.int .u32 (IntKind.u32.wrap (pv + 1)))) := ((Chg.refl (fun k => k = r) w1).setCell ⟨r, pos * 4 + 2, none⟩ _ (fun _ => rfl)).setCell ⟨r, pos * 4 + 3, none⟩ _ (fun _ => rfl)
    have hx2 : Ext wr ((w1.setCell ⟨r, pos * 4 + 2, none⟩ (.int .i64 z)).setCell ⟨r, pos * 4 + 3, none⟩ (.int .u32 (IntKind.u32.wrap (pv + 1)))) := Below.trans hx1 (hcg.below hx1.size_le' (fun k hk => by omega))
    obtain ⟨e0, e1⟩ := (H.out.1.dr.ext hx2).cell
    have hr4 : GRow ((w1.setCell ⟨r, pos * 4 + 2, none⟩ (.int .i64 z)).setCell ⟨r, pos * 4 + 3, none⟩ (.int .u32 (IntKind.u32.wrap (pv + 1)))) base (.slice (some ⟨r, 0, none⟩) L.length c1) (setG L pos (bump ⟨pn, pc, ps, pv⟩ z)) := by
      have q1 := (hr1.setc (j := pos * 4 + 2) (by omega) (.int .i64 z)).setc (j := pos * 4 + 3) (by omega) (.int .u32 (IntKind.u32.wrap (pv + 1)))
      rw [gcells_set L pos _ z _ H.out.2.1] at q1
      unfold GRow
      rw [setG_length hpos]
      exact CRow.lower q1 H.out.1.bl
    have hpo := H.out.1.dr.ok _ (List.mem_of_getElem? H.out.2.1)
    have hokk : ∀ x ∈ setG L pos (bump ⟨pn, pc, ps, pv⟩ z), x.ok := fun x hx => by
      rcases setG_mem hx with rfl | hx
      · refine ⟨H.out.2.2, ?_, ?_, hpo.2.2.2.1, hpo.2.2.2.2⟩
        · show 0 ≤ IntKind.u32.wrap (pv + 1)
          have e : IntKind.u32.wrap (pv + 1) = (pv + 1) % 4294967296 := by rfl
          rw [e]; omega
        · show IntKind.u32.wrap (pv + 1) < 4294967296
          have e : IntKind.u32.wrap (pv + 1) = (pv + 1) % 4294967296 := by rfl
          rw [e]; omega
      · exact H.out.1.dr.ok x hx
    have HZ := Lib.hid (And.intro hx2 (And.intro hr4 (And.intro hqb hokk)))
    clear h1 h2 h3 hr1 hx1 hgat g0 g1 g3 hq hfr hcg hx2 hr4 hpo hokk e0 e1
    go_wp2_with fail
    obtain ⟨hx2, hr4, hqb, hokk⟩ := HZ.out
    rw [← hD]
    refine set_tail ⟨rfl, rfl, rfl, HK.out.h1, HK.out.h2, rfl, HK.out.h10⟩ rfl H.out.1 hx2 hr4 (.inr ⟨r, rfl, hqb⟩) (by rw [setG_length hpos]; exact hfew) (H.out.1.dr.srt.set pos _ _ H.out.2.1 rfl) hokk
end Go.Proofs.Ytdcbpnkcpglhhaa
