/- The law NetPlays: its switch: an act that doubles. -/
import Derived.Test.YtbeoickdcbnjgaaNetO
import Derived.Test.YtbeoickdcbnjgaaHeld
namespace Go.Proofs.Ytbeoickdcbnjgaa
open Go.RowKit
set_option linter.unusedVariables false
set_option linter.unusedSimpArgs false
attribute [local go_sem] stepR givesR fillE Ext.refl

set_option maxRecDepth 1000000 in
set_option maxHeartbeats 4000000 in
theorem sw_double {A : Option Addr} {n c : Nat} {x y : Int} {W : World} {g h j gx l : Nat} {v : ActV} {k : Int} {t : Bool} {a : Act} {w : World}
    (hk : Kn A n c x y g h j a) (h10 : G a 10 = .pointer (some ⟨gx, 0, none⟩)) (h11 : G a 11 = .int .i64 k) (h12 : G a 12 = .bool t) (hS : StandI W g h (some (gx, v.arr)) [v.p] l k t w) (hl60 : l ≤ 60) (hkr : IntKind.i64.min ≤ k ∧ k ≤ IntKind.i64.max) (hok : ActOk W v) (hw : v.what % 8 = 6) (hw2 : 0 ≤ v.what ∧ v.what ≤ 255) :
    Code.wp Try.prog (nav [1,1,1,1,0,1,2,3,1,0,2,1,1,1,1,1,0] theBody) (Norm (SwPost A n c x y W g h j gx (l + 1) v)) a w := by
  obtain ⟨m, L, hd, hl, hwf, hte⟩ := hS
  have x0 : w.cell? ⟨gx, 0, none⟩ = some (.int .u8 v.what) := (cell_of_row w gx 0 _ _ _ hd.actc).trans rfl
  cases hin : inB k L.length with
  | false =>
    rw [hin] at hte
    subst hte
    have T1 := duo_s hd (fun v' ps hn hs => double_no (i := k) hn (by rw [← hs, List.length_map] at hin; exact hin))
    have HD := Lib.hid hd
    clear hd
    have HH := Lib.hid (And.intro hk (And.intro h10 (And.intro hwf hl)))
    rw [act_281 a hk.d hk.s, hk.h7, hk.h8, h10, h11, h12]
    clear hk h10 h11 h12 hl hwf
    conv => arg 2; whnf
    obtain ⟨what, hv⟩ : ∃ what, v.what = what := ⟨_, rfl⟩
    rw [hv] at hw hw2 x0
    clear hv
    have hw8 : what % 8 = 6 := hw
    go_wp2_with fail
    refine T1.mono ?_
    rintro e w1 ⟨rfl, rfl⟩
    go_wp2_with fail
    exact ⟨⟨rfl, rfl, HH.out.1.h0, HH.out.1.h1, HH.out.1.h2, rfl, rfl, HH.out.1.h9⟩, rfl, m, L, HD.out, by have := HH.out.2.2.2; omega, HH.out.2.2.1⟩
  | true =>
    rw [hin] at hte
    subst hte
    obtain ⟨i, rfl⟩ : ∃ i : Nat, k = (i : Int) := ⟨k.toNat, by simp only [inB, Bool.and_eq_true, decide_eq_true_eq] at hin; omega⟩
    have hi : i < L.length := by simp only [inB, Bool.and_eq_true, decide_eq_true_eq] at hin; omega
    obtain ⟨s, hsi⟩ : ∃ s, L[i]? = some s := ⟨_, List.getElem?_eq_getElem hi⟩
    have T1 := duo_n (m1 := m) (L1 := L ++ [s]) (r := .bool true) hd (fun v' ps hn hs hb => by
      have hsi' := hsi
      rw [← hs, List.getElem?_map] at hsi'
      obtain ⟨p, hp, rfl⟩ := Option.map_eq_some_iff.1 hsi'
      have hlp : ps.length = L.length := by rw [← hs, List.length_map]
      exact hs ▸ double_yes hn hb i p hp (by omega))
    clear hd hin
    have HH := Lib.hid (And.intro hk (And.intro h10 (And.intro hwf hl)))
    rw [act_281 a hk.d hk.s, hk.h7, hk.h8, h10, h11, h12]
    clear hk h10 h11 h12 hl hwf
    conv => arg 2; whnf
    obtain ⟨what, hv⟩ : ∃ what, v.what = what := ⟨_, rfl⟩
    rw [hv] at hw hw2 x0
    clear hv
    have hw8 : what % 8 = 6 := hw
    go_wp2_with fail
    refine T1.mono ?_
    rintro e w1 ⟨rfl, v1, u1, ps1, qs, d⟩
    have hi : i < qs.length := by rw [← d.2.2.2.1, List.length_map] at hi; exact hi
    obtain ⟨p, hp, hps⟩ : ∃ p, qs[i]? = some p ∧ p.says = s := by
      have hsi' := hsi
      rw [← d.2.2.2.1, List.getElem?_map] at hsi'
      exact Option.map_eq_some_iff.1 hsi'
    have hfew : qs.length ≤ 60 := by rw [← List.length_map (f := Pk.says), d.2.2.2.1]; have := HH.out.2.2.2; omega
    obtain ⟨A1, cap, hv, hlc, hcm, hnone⟩ := CRow.form d.2.1.row
    subst hv
    have hx1 : Ext w1 w1.drew := (Ext.refl w1).drew
    obtain ⟨r, rfl, p0, p1, p2⟩ := PRow.at d.2.1.row hp
    obtain ⟨c0, c1, f0, f1⟩ := d.2.1.cells
    have hii : (i : Int) < (qs.length : Int) := by omega
    have hin : ((i : Int) < 0) = False := by simp
    have hx2 : Ext w1 (w1.drew.alloc (.cells p.cells.toArray 33)) := hx1.alloc _
    have HC := Lib.hid (And.intro (CRow.ext (CRow.clip d.2.1.row qs.length qs.length (Nat.le_refl _) (Nat.le_refl _) hlc) hx2) (And.intro (src_new w1.drew p.cells.toArray 33 3 rfl (Pk.cells_one _)) (And.intro (Nat.le_trans d.2.2.2.2.2.1.size_le' hx2.size_le') (And.intro hx2 (And.intro hp (And.intro hps d))))))
    have hmm : maxLen > 2000 := by decide
    obtain ⟨pf, pt, pB, pn, pc, pxs⟩ := p
    simp only at p0 p1 p2
    have e0 : (w1.alloc (.cells #[.int .i64 pf, .int .i64 pt, .slice pB pn pc] 33)).cell? ⟨h, 0, none⟩ = some (.slice (some ⟨r, 0, none⟩) qs.length cap) := hx2.cell c0
    clear T1 x0 d hx1 hx2 hp hps
    have hmc : qs.length + 1 ≤ maxLen := by omega
    have hmb : (qs.length + 1) * 40 ≤ 140737488355328 := by omega
    go_wp2_with fail
    refine Upto.start (t := 27) (S := fun w9 => w9.cell? ⟨h, 0, none⟩ = some (.slice (some ⟨r, 0, none⟩) qs.length cap) ∧ w9.cell? ⟨r, i * 3, none⟩ = some (.int .i64 pf) ∧ w9.cell? ⟨r, i * 3 + 1, none⟩ = some (.int .i64 pt) ∧ w9.cell? ⟨r, i * 3 + 2, none⟩ = some (.slice pB pn pc)) (by kernel_rfl) ?_
    have hS : (fun w9 : World => w9.cell? ⟨h, 0, none⟩ = some (.slice (some ⟨r, 0, none⟩) qs.length cap) ∧ w9.cell? ⟨r, i * 3, none⟩ = some (.int .i64 pf) ∧ w9.cell? ⟨r, i * 3 + 1, none⟩ = some (.int .i64 pt) ∧ w9.cell? ⟨r, i * 3 + 2, none⟩ = some (.slice pB pn pc)) w1.drew := ⟨c0, p0, p1, p2⟩
    refine Upto.takeD (i := 0) (some 176) (v := ?v0) rfl rfl (by kernel_rfl) (fun _ _ _ h => h) (Or.inl ⟨by rfl, ?y0⟩) hS ?r0
    case y0 =>
      rintro w9 ⟨s0, s3, s4, s5⟩
      go_simp
      try with_reducible rfl
    try simp only [Act.put, List.setIfInBounds_toArray, List.set_cons_zero, List.set_cons_succ]
    refine Upto.takeD (i := 1) (some 177) (v := ?v1) rfl rfl (by kernel_rfl) (fun _ _ _ h => h) (Or.inl ⟨by rfl, ?y1⟩) hS ?r1
    case y1 =>
      rintro w9 ⟨s0, s3, s4, s5⟩
      go_simp
      try with_reducible rfl
    try simp only [Act.put, List.setIfInBounds_toArray, List.set_cons_zero, List.set_cons_succ]
    refine Upto.takeD (i := 2) (some 178) (v := ?v2) rfl rfl (by kernel_rfl) (fun _ _ _ h => h) (Or.inl ⟨by rfl, ?y2⟩) hS ?r2
    case y2 =>
      rintro w9 ⟨s0, s3, s4, s5⟩
      go_simp
      try with_reducible rfl
    try simp only [Act.put, List.setIfInBounds_toArray, List.set_cons_zero, List.set_cons_succ]
    refine Upto.takeD (i := 3) (some 179) (v := ?v3) rfl rfl (by kernel_rfl) (fun _ _ _ h => h) (Or.inl ⟨by rfl, ?y3⟩) hS ?r3
    case y3 =>
      rintro w9 ⟨s0, s3, s4, s5⟩
      go_simp
      try with_reducible rfl
    try simp only [Act.put, List.setIfInBounds_toArray, List.set_cons_zero, List.set_cons_succ]
    refine Upto.takeD (i := 4) (some 180) (v := ?v4) rfl rfl (by kernel_rfl) (fun _ _ _ h => h) (Or.inl ⟨by rfl, ?y4⟩) hS ?r4
    case y4 =>
      rintro w9 ⟨s0, s3, s4, s5⟩
      go_simp
      try with_reducible rfl
    try simp only [Act.put, List.setIfInBounds_toArray, List.set_cons_zero, List.set_cons_succ]
    refine Upto.takeD (i := 5) (some 181) (v := ?v5) rfl rfl (by kernel_rfl) (fun _ _ _ h => h) (Or.inl ⟨by rfl, ?y5⟩) hS ?r5
    case y5 =>
      rintro w9 ⟨s0, s3, s4, s5⟩
      go_simp
      try with_reducible rfl
    try simp only [Act.put, List.setIfInBounds_toArray, List.set_cons_zero, List.set_cons_succ]
    refine Upto.takeD (i := 6) (some 182) (v := ?v6) rfl rfl (by kernel_rfl) (fun _ _ _ h => h) (Or.inl ⟨by rfl, ?y6⟩) hS ?r6
    case y6 =>
      rintro w9 ⟨s0, s3, s4, s5⟩
      go_simp
      try with_reducible rfl
    try simp only [Act.put, List.setIfInBounds_toArray, List.set_cons_zero, List.set_cons_succ]
    refine Upto.takeD (i := 7) (some 183) (v := ?v7) rfl rfl (by kernel_rfl) (fun _ _ _ h => h) (Or.inl ⟨by rfl, ?y7⟩) hS ?r7
    case y7 =>
      rintro w9 ⟨s0, s3, s4, s5⟩
      go_simp
      try with_reducible rfl
    try simp only [Act.put, List.setIfInBounds_toArray, List.set_cons_zero, List.set_cons_succ]
    refine Upto.takeD (i := 8) (some 184) (v := ?v8) rfl rfl (by kernel_rfl) (fun _ _ _ h => h) (Or.inl ⟨by rfl, ?y8⟩) hS ?r8
    case y8 =>
      rintro w9 ⟨s0, s3, s4, s5⟩
      go_simp
      try with_reducible rfl
    try simp only [Act.put, List.setIfInBounds_toArray, List.set_cons_zero, List.set_cons_succ]
    refine Upto.takeD (i := 9) (some 185) (v := ?v9) rfl rfl (by kernel_rfl) (fun _ _ _ h => h) (Or.inl ⟨by rfl, ?y9⟩) hS ?r9
    case y9 =>
      rintro w9 ⟨s0, s3, s4, s5⟩
      go_simp
      try with_reducible rfl
    try simp only [Act.put, List.setIfInBounds_toArray, List.set_cons_zero, List.set_cons_succ]
    refine Upto.takeD (i := 10) (some 186) (v := ?v10) rfl rfl (by kernel_rfl) (fun _ _ _ h => h) (Or.inl ⟨by rfl, ?y10⟩) hS ?r10
    case y10 =>
      rintro w9 ⟨s0, s3, s4, s5⟩
      go_simp
      try with_reducible rfl
    try simp only [Act.put, List.setIfInBounds_toArray, List.set_cons_zero, List.set_cons_succ]
    refine Upto.takeD (i := 11) (some 187) (v := ?v11) rfl rfl (by kernel_rfl) (fun _ _ _ h => h) (Or.inl ⟨by rfl, ?y11⟩) hS ?r11
    case y11 =>
      rintro w9 ⟨s0, s3, s4, s5⟩
      go_simp
      try with_reducible rfl
    try simp only [Act.put, List.setIfInBounds_toArray, List.set_cons_zero, List.set_cons_succ]
    refine Upto.takeD (i := 12) (some 188) (v := ?v12) rfl rfl (by kernel_rfl) (fun _ _ _ h => h) (Or.inl ⟨by rfl, ?y12⟩) hS ?r12
    case y12 =>
      rintro w9 ⟨s0, s3, s4, s5⟩
      go_simp
      try with_reducible rfl
    try simp only [Act.put, List.setIfInBounds_toArray, List.set_cons_zero, List.set_cons_succ]
    refine Upto.takeD (i := 13) (some 189) (v := ?v13) rfl rfl (by kernel_rfl) (fun _ _ _ h => h) (Or.inl ⟨by rfl, ?y13⟩) hS ?r13
    case y13 =>
      rintro w9 ⟨s0, s3, s4, s5⟩
      go_simp
      try with_reducible rfl
    try simp only [Act.put, List.setIfInBounds_toArray, List.set_cons_zero, List.set_cons_succ]
    refine Upto.takeD (i := 14) (some 190) (v := ?v14) rfl rfl (by kernel_rfl) (fun _ _ _ h => h) (Or.inl ⟨by rfl, ?y14⟩) hS ?r14
    case y14 =>
      rintro w9 ⟨s0, s3, s4, s5⟩
      go_simp
      try with_reducible rfl
    try simp only [Act.put, List.setIfInBounds_toArray, List.set_cons_zero, List.set_cons_succ]
    refine Upto.takeD (i := 15) (some 191) (v := ?v15) rfl rfl (by kernel_rfl) (fun _ _ _ h => h) (Or.inl ⟨by rfl, ?y15⟩) hS ?r15
    case y15 =>
      rintro w9 ⟨s0, s3, s4, s5⟩
      go_simp
      try with_reducible rfl
    try simp only [Act.put, List.setIfInBounds_toArray, List.set_cons_zero, List.set_cons_succ]
    refine Upto.takeD (i := 16) (some 192) (v := ?v16) rfl rfl (by kernel_rfl) (fun _ _ _ h => h) (Or.inl ⟨by rfl, ?y16⟩) hS ?r16
    case y16 =>
      rintro w9 ⟨s0, s3, s4, s5⟩
      go_simp
      try with_reducible rfl
    try simp only [Act.put, List.setIfInBounds_toArray, List.set_cons_zero, List.set_cons_succ]
    refine Upto.takeD (i := 17) (some 193) (v := ?v17) rfl rfl (by kernel_rfl) (fun _ _ _ h => h) (Or.inl ⟨by rfl, ?y17⟩) hS ?r17
    case y17 =>
      rintro w9 ⟨s0, s3, s4, s5⟩
      go_simp
      try with_reducible rfl
    try simp only [Act.put, List.setIfInBounds_toArray, List.set_cons_zero, List.set_cons_succ]
    refine Upto.takeD (i := 18) (some 194) (v := ?v18) rfl rfl (by kernel_rfl) (fun _ _ _ h => h) (Or.inl ⟨by rfl, ?y18⟩) hS ?r18
    case y18 =>
      rintro w9 ⟨s0, s3, s4, s5⟩
      go_simp
      try with_reducible rfl
    try simp only [Act.put, List.setIfInBounds_toArray, List.set_cons_zero, List.set_cons_succ]
    refine Upto.takeD (i := 19) (some 195) (v := ?v19) rfl rfl (by kernel_rfl) (fun _ _ _ h => h) (Or.inl ⟨by rfl, ?y19⟩) hS ?r19
    case y19 =>
      rintro w9 ⟨s0, s3, s4, s5⟩
      go_simp
      try with_reducible rfl
    try simp only [Act.put, List.setIfInBounds_toArray, List.set_cons_zero, List.set_cons_succ]
    refine Upto.takeD (i := 20) (some 196) (v := ?v20) rfl rfl (by kernel_rfl) (fun _ _ _ h => h) (Or.inl ⟨by rfl, ?y20⟩) hS ?r20
    case y20 =>
      rintro w9 ⟨s0, s3, s4, s5⟩
      go_simp
      try with_reducible rfl
    try simp only [Act.put, List.setIfInBounds_toArray, List.set_cons_zero, List.set_cons_succ]
    refine Upto.takeD (i := 21) (some 197) (v := ?v21) rfl rfl (by kernel_rfl) (fun _ _ _ h => h) (Or.inl ⟨by rfl, ?y21⟩) hS ?r21
    case y21 =>
      rintro w9 ⟨s0, s3, s4, s5⟩
      go_simp
      try with_reducible rfl
    try simp only [Act.put, List.setIfInBounds_toArray, List.set_cons_zero, List.set_cons_succ]
    refine Upto.takeD (i := 22) (some 198) (v := ?v22) rfl rfl (by kernel_rfl) (fun _ _ _ h => h) (Or.inl ⟨by rfl, ?y22⟩) hS ?r22
    case y22 =>
      rintro w9 ⟨s0, s3, s4, s5⟩
      go_simp
      try with_reducible rfl
    try simp only [Act.put, List.setIfInBounds_toArray, List.set_cons_zero, List.set_cons_succ]
    refine Upto.one (i := 23) (by kernel_rfl) rfl (fun K hK => ?_)
    go_simp
    have hz := HC.out.2.2.2.1
    refine hK.out _ _ (fun _ => ⟨hz.cell c0, hz.cell p0, hz.cell p1, hz.cell p2⟩) ?_
    clear hK K hS
    try simp only [Act.put, List.setIfInBounds_toArray, List.set_cons_zero, List.set_cons_succ]
    refine Upto.one (i := 24) (by kernel_rfl) rfl (fun K hK => ?_)
    refine step_append_full (by rfl) W.heap.size (.tmp 191) (.tmp 199) 27 (by rfl) Try.underlying27 40 infoE (by omega) (some ⟨r, 0, none⟩) qs.length ((pcells qs).take (qs.length * 3)) (Pk.cells ⟨pf, pt, pB, pn, pc, pxs⟩) (some ⟨w1.heap.size, 0, none⟩) 1 1 (by rfl) (by rfl) (by exact HC.out.1) (by exact HC.out.2.1) (by exact HC.out.2.2.1) hmc hmb ?_
    intro v4 w4 q1 q2 q3
    obtain ⟨A4, c4, rfl, _⟩ := CRow.form q1
    have hq2 : Ext w1 w4 := hz.trans q2
    have HQ := Lib.hid (And.intro q1 (And.intro q2 (And.intro q3 hq2)))
    change K (Act.put _ (some 200) _) _
    have hS : (fun w9 : World => w9.cell? ⟨h, 0, none⟩ = some (.slice (some ⟨r, 0, none⟩) qs.length cap) ∧ w9.cell? ⟨r, i * 3, none⟩ = some (.int .i64 pf) ∧ w9.cell? ⟨r, i * 3 + 1, none⟩ = some (.int .i64 pt) ∧ w9.cell? ⟨r, i * 3 + 2, none⟩ = some (.slice pB pn pc)) w4 := ⟨hq2.cell c0, hq2.cell p0, hq2.cell p1, hq2.cell p2⟩
    refine hK.out _ _ (fun _ => hS) ?_
    have k1 : w4.frozen? ⟨h, 0, none⟩ = false := by
      have := hq2.obj HC.out.2.2.2.2.2.2.2.1.obj
      simp [World.frozen?, this]
    have k0 := hq2.cell c0
    clear hK K q1 q2 q3 hq2
    try simp only [Act.put, List.setIfInBounds_toArray, List.set_cons_zero, List.set_cons_succ]
    refine Upto.one (i := 25) (by kernel_rfl) rfl (fun K hK => ?_)
    go_simp
    refine hK.out _ _ (fun _ => hS) ?_
    clear hK K
    try simp only [Act.put, List.setIfInBounds_toArray, List.set_cons_zero, List.set_cons_succ]
    refine Upto.takeD (i := 26) (some 202) (v := ?v26) rfl rfl (by kernel_rfl) (fun _ _ _ h => h) (Or.inl ⟨by rfl, ?y26⟩) hS ?r26
    case y26 =>
      rintro w9 ⟨s0, s3, s4, s5⟩
      go_simp
      try with_reducible rfl
    try simp only [Act.put, List.setIfInBounds_toArray, List.set_cons_zero, List.set_cons_succ]
    refine Upto.one (i := 27) (by kernel_rfl) rfl (fun K hK => ?_)
    go_simp
    refine hK.out _ _ (fun h0 => absurd rfl h0) ?_
    clear hK K
    refine Upto.done (by kernel_rfl) ?_ _
    · obtain ⟨q1, q2, q3, _⟩ := HQ.out
      obtain ⟨_, _, _, hx2, hp, hps, d⟩ := HC.out
      have hq2 : Ext w1 w4 := hx2.trans q2
      have hrow' : PRow w4 W.heap.size (.slice A4 (qs.length + 1) c4) (qs ++ [(⟨pf, pt, pB, pn, pc, pxs⟩ : Pk)]) := by
        unfold PRow
        rw [pcells_append, List.length_append]
        rw [List.take_of_length_le (by rw [pcells_length]; exact Nat.le_refl _)] at q1
        exact q1
      obtain ⟨n1, n2⟩ := d.2.1.put_row hq2 hrow' (by
          rcases q3 with e | ⟨j, e, hj⟩
          · exact .inl e
          · exact .inr ⟨j, e, Nat.le_trans hx2.size_le' hj⟩) (fun p hp' => by
          rcases List.mem_append.1 hp' with hp' | hp'
          · exact (d.2.1.ok p hp').ext hq2
          · rw [List.mem_singleton.1 hp']
            exact (d.2.1.ok _ (List.mem_of_getElem? hp)).ext hq2) (by simp; omega)
      exact ⟨⟨rfl, rfl, HH.out.1.h0, HH.out.1.h1, HH.out.1.h2, rfl, rfl, HH.out.1.h9⟩, rfl, m, L ++ [s], ⟨v1, _, ps1, _, d.rturned n1 (by rw [List.map_append, d.2.2.2.1, ← hps]; rfl) n2⟩, (by have := HH.out.2.2.2; simp; omega), fun s' hs => by
        rcases List.mem_append.1 hs with hs | hs
        · exact HH.out.2.2.1 s' hs
        · rw [List.mem_singleton.1 hs]; exact HH.out.2.2.1 s (List.mem_of_getElem? hsi)⟩
end Go.Proofs.Ytbeoickdcbnjgaa
