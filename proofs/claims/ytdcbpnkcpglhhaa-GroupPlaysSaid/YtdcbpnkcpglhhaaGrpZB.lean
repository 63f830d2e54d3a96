/- The document's Do, whole. -/
import Derived.Test.YtdcbpnkcpglhhaaGrpZA
namespace Go.Proofs.Ytdcbpnkcpglhhaa
open Go.RowKit
set_option linter.unusedVariables false
set_option linter.unusedSimpArgs false
set_option linter.unnecessarySimpa false
attribute [local go_sem] stepR givesR fillE Ext.refl run_store_float

set_option maxRecDepth 1000000 in
set_option maxHeartbeats 8000000 in
theorem refdo_any {w : World} {base g : Nat} {v : Value} {L : List Gp} {S : Nat → Prop} {n : Nat} {A : Option Addr} {c : Nat} {ts : List T} {m : ByteArray} (h : Dr RD w base g v L) (hbase : base ≤ w.heap.size) (hts : Rds w S n A c ts) (hSv : ∀ k, v.ownBlock = some k → S k) :
    Calls Try.prog 14 #[.pointer (some ⟨g, 0, none⟩), .string m, .slice A ts.length c] w (DoP RD w base g v (DoG L m ts)) := by
  have HX := Lib.hid ((Ext.refl w).alloc (.cells #[.int .i64 0, .int .i64 0, .float .f64 0, .string ⟨#[]⟩, .slice none 0 0] 28))
  have HO := Lib.hid (heap_alloc_new w (.cells #[.int .i64 0, .int .i64 0, .float .f64 0, .string ⟨#[]⟩, .slice none 0 0] 28))
  have HT := Lib.hid hts
  have H := Lib.hid (And.intro h (And.intro hbase hSv))
  have hcm := hts.2.1
  have hlc := hts.1
  have hmm : maxLen ≤ 9223372036854775807 := by decide
  clear hts h hbase hSv
  go_enter Try.func14, Try.ntmps14
  obtain ⟨D, hD⟩ : ∃ D, nav [1,1] doBody = D := ⟨_, rfl⟩
  have hD2 := hD
  conv at hD2 => lhs; whnf
  rw [hD2]
  clear hD2
  go_wp2_with fail
  have ha := HX.out
  have ho := HO.out
  revert ha ho
  clear HX HO
  generalize World.alloc _ _ = w1
  generalize hbx : w.heap.size = bx
  intro ha ho
  have HA := Lib.hid (And.intro ha (And.intro ho hbx))
  clear ha ho hbx
  go_loopw [8] (fun i wr => ∃ j : Nat, j ≤ ts.length ∧ i = .int .i64 j ∧ Ext w1 wr ∧ Hid (∀ (q : Nat) u, q < j → ts[q]? = some u → checkT u = 0)) (fun i _ => ts.length - (intOf i).toNat)
  case atStart => exact ⟨0, Nat.zero_le _, rfl, Ext.refl _, Lib.hid fun q u hq => by omega⟩
  case round =>
    obtain ⟨j, hj, rfl, hx, I⟩ := hrel
    have hjn : ((j : Int) < 0) = False := by simp
    have hx0 := HA.out.1.trans hx
    by_cases hlt : j < ts.length
    · obtain ⟨b, off, rfl, hb, hat⟩ := HT.out.2.2 (by omega)
      obtain ⟨t, ht⟩ : ∃ t, ts[j]? = some t := ⟨_, List.getElem?_eq_getElem hlt⟩
      obtain ⟨A1, c1, ⟨hta, hr⟩⟩ := hat j t ht
      have hji : (j : Int) < (ts.length : Int) := by omega
      have hw1 : IntKind.i64.wrap ((j : Int) + 1) = (j : Int) + 1 := IntWalk.i64_in _ (by omega)
      have C1 := rcheck_any (hr.ext hx0)
      have HC : Hid (∀ e, checkT t = e → e ≠ 0 → chkL ts = e) := Lib.hid (fun e he hn => by rw [← he] at hn ⊢; exact chkL_hit ts j t ht I.out hn)
      have HN : Hid (checkT t = 0 → ∀ (q : Nat) u, q < j + 1 → ts[q]? = some u → checkT u = 0) := Lib.hid (fun he q u hq hu => by
        rcases Nat.lt_succ_iff_lt_or_eq.1 hq with hq | rfl
        · exact I.out q u hq hu
        · rw [ht] at hu; cases hu; exact he)
      generalize checkT t = ck at *
      obtain ⟨k, i, f, s, l⟩ := t
      obtain ⟨a0, a1, a2, a3, a4⟩ := hta
      have b0 := hx0.cell a0
      have b1 := hx0.cell a1
      have b2 := hx0.cell a2
      have b3 := hx0.cell a3
      have b4 := hx0.cell a4
      simp only [T.val] at C1
      have HW := Lib.hid hx
      clear ht hat hr a0 a1 a2 a3 a4 hx0 hx hb hj
      by_cases hck : ck = 0
      · subst hck
        have I2 := Lib.hid (HN.out rfl)
        clear HN HC I
        go_wp2_with fail
        refine C1.mono ?_
        rintro e w3 ⟨rfl, hx6⟩
        have HY := Lib.hid (HW.out.trans hx6)
        clear hx6
        go_wp2_with fail
        go_roundw
        case rel => exact ⟨j + 1, by omega, by go_num, HY.out, I2⟩
        case measure => simp [intOf]; omega
      · have hcq : (ck != 0) = true := by simpa using hck
        have HE : Hid (DoG L m ts = (L, nilT, ck)) := Lib.hid (by
          have e := HC.out ck rfl hck
          rw [DoG, e, if_neg hck])
        clear HN HC I
        go_wp2_with fail
        refine C1.mono ?_
        rintro e w3 ⟨rfl, hx6⟩
        have hx7 := HA.out.1.trans (HW.out.trans hx6)
        have o3 := (HW.out.trans hx6).obj HA.out.2.1
        obtain ⟨c0, c1', c2, c3, c4, f0, f1, f2, f3, f4⟩ := cells5 o3
        have HY := Lib.hid (And.intro hx7 o3)
        clear hx6 hx7 o3
        go_wp2_with fail
        obtain ⟨o4, hch⟩ := put5 (v0 := .int .i64 0) (v1 := .int .i64 0) (v2 := .float .f64 0) (v3 := .string ⟨#[]⟩) (v4 := .slice none 0 0) HY.out.2
        obtain ⟨z0, z1, z2, z3, z4, _⟩ := cells5 o4
        refine bodyPost_ret (v := .tuple #[.agg #[.int .i64 0, .int .i64 0, .float .f64 0, .string ⟨#[]⟩, .slice none 0 0], .int .i64 ck]) (by simp [results, Try.results14, go_sem, z0, z1, z2, z3, z4]; try rfl) rfl ?_
        rw [HE.out]
        exact DoP.fin (t := nilT) (A := none) (c := 0) (Nat.le_of_eq HA.out.2.2) (H.out.1.ext HY.out.1) (by have := H.out.1.lt; have := HA.out.2.2; omega) (fun e => by have := (CRow.lt H.out.1.row _ e).2.1; have := HA.out.2.2; omega) HY.out.1 (Chg.refl _ _) (.inl rfl) (nil_rd _ _) hch
    · obtain rfl : j = ts.length := by omega
      have hnl : decide ((ts.length : Int) < (ts.length : Int)) = false := by simp
      have hck : chkL ts = 0 := chkL_none ts (fun j t ht => I.out j t (List.getElem?_eq_some_iff.1 ht).1 ht)
      have hR : RW w base g bx v L S n A c ts wr := ⟨hx0, HA.out.2.2.symm, hx.obj HA.out.2.1, by have := H.out.1.lt; have := HA.out.2.2; omega, fun e => by have := (CRow.lt H.out.1.row _ e).2.1; have := HA.out.2.2; omega, H.out.1.ext hx0, HT.out.ext hx0, Nat.le_trans H.out.2.1 hx0.size_le', H.out.2.2⟩
      have HR := Lib.hid (And.intro hR hck)
      clear hx0 hx I hck hR
      go_wp2_with fail
      rw [← hD]
      refine wp_mono (rest_any (m := m) rfl rfl rfl rfl rfl rfl HR.out.1 HR.out.2) ?_
      intro e a8 w8 hr
      cases e with
      | ret =>
        obtain ⟨r1, r2, r3, r4, Ar, cr, r5, r6⟩ := hr
        show bodyPost _ _ _ .ret a8 w8
        generalize DoG L m ts = r at *
        obtain ⟨rL, rT, rz⟩ := r
        obtain ⟨k, i, f, s, l⟩ := rT
        obtain ⟨z0, z1, z2, z3, z4, _⟩ := cells5 (show w8.heap[bx]? = some (.cells #[.int .i64 k, .int .i64 i, .float .f64 f, .string s, .slice Ar l.length cr] 28 (0, 0)) from r5)
        rw [act_292 a8 r1 r2, r3, r4]
        exact bodyPost_ret (v := .tuple #[.agg #[.int .i64 k, .int .i64 i, .float .f64 f, .string s, .slice Ar l.length cr], .int .i64 rz]) (by simp [results, Try.results14, go_sem, z0, z1, z2, z3, z4]; try rfl) rfl r6
      | _ => exact hr.elim
end Go.Proofs.Ytdcbpnkcpglhhaa
