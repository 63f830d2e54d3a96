/- The law NetPlays: an act that sends: the document's row grows. -/
import Derived.Test.YtbeoickdcbnjgaaNetY
import Derived.Test.YtbeoickdcbnjgaaHeld
namespace Go.Proofs.Ytbeoickdcbnjgaa
open Go.RowKit
set_option linter.unusedVariables false
set_option linter.unusedSimpArgs false
attribute [local go_sem] stepR givesR fillE Ext.refl

set_option maxRecDepth 1000000 in
set_option maxHeartbeats 0 in
theorem gv_doc {A : Option Addr} {n c : Nat} {x y : Int} {W : World} {g h j gx l : Nat} {v : ActV} {S : Nat → Prop} {Ag : Option Addr} {cg lo gp m : Nat} {L L1 : List Says} {a : Act} {w : World} (hD : DS A n c x y W g h j gx v S Ag cg a w) (hd : Duo S W w g h (some (gx, v.arr)) m m L1 L [v.p]) (hl : L.length ≤ 60) :
    Code.wp Try.prog (nav [1,1,1,1,0,1,2,3,1,0,2,1,1,1,1,1,0,1,2,1,5,1,5,1,5,1,5,1,1,1,0] theBody) (Norm fun a w => DS A n c x y W g h j gx v S Ag cg a w ∧ Duo S W w g h (some (gx, v.arr)) m m L1 (L ++ [v.p.says]) [v.p]) a w := by
  have x3 : w.cell? ⟨gx, 3, none⟩ = some (.int .i64 v.p.f) := (cell_of_row w gx 3 _ _ _ hd.actc).trans rfl
  have x4 : w.cell? ⟨gx, 4, none⟩ = some (.int .i64 v.p.t) := (cell_of_row w gx 4 _ _ _ hd.actc).trans rfl
  have x5 : w.cell? ⟨gx, 5, none⟩ = some (.slice v.p.B v.p.n v.p.c) := (cell_of_row w gx 5 _ _ _ hd.actc).trans rfl
  have HH := Lib.hid hD
  obtain ⟨nv, nu, ps, qs, d⟩ := hd
  have hlq : qs.length = L.length := by rw [← d.2.2.2.1, List.length_map]
  obtain ⟨A1, cap, hv, hlc, hcm, hnone⟩ := CRow.form d.2.1.row
  subst hv
  have hx1 : Ext w w.drew := (Ext.refl w).drew
  obtain ⟨c0, c1, f0, f1⟩ := d.2.1.cells
  have hx2 : Ext w (w.drew.alloc (.cells v.p.cells.toArray 33)) := hx1.alloc _
  have HC := Lib.hid (And.intro (CRow.ext (CRow.clip d.2.1.row qs.length qs.length (Nat.le_refl _) (Nat.le_refl _) hlc) hx2) (And.intro (src_new w.drew v.p.cells.toArray 33 3 rfl (Pk.cells_one _)) (And.intro (Nat.le_trans d.2.2.2.2.2.1.size_le' hx2.size_le') (And.intro hx2 d))))
  have hmm : maxLen > 2000 := by decide
  have e0 : (w.alloc (.cells #[.int .i64 v.p.f, .int .i64 v.p.t, .slice v.p.B v.p.n v.p.c] 33)).cell? ⟨h, 0, none⟩ = some (.slice A1 qs.length cap) := hx2.cell c0
  rw [act_281 a hD.k.d hD.k.s, hD.k.h8, hD.h10]
  clear hD d hx1 hx2
  have hmc : qs.length + 1 ≤ maxLen := by omega
  have hmb : (qs.length + 1) * 40 ≤ 140737488355328 := by omega
  have HL := Lib.hid (hlq ▸ hl : qs.length ≤ 60)
  clear hl hcm hlq
  conv => arg 2; whnf
  refine Upto.start (t := 22) (S := fun w9 => w9.cell? ⟨h, 0, none⟩ = some (.slice A1 qs.length cap) ∧ w9.cell? ⟨gx, 3, none⟩ = some (.int .i64 v.p.f) ∧ w9.cell? ⟨gx, 4, none⟩ = some (.int .i64 v.p.t) ∧ w9.cell? ⟨gx, 5, none⟩ = some (.slice v.p.B v.p.n v.p.c)) (by kernel_rfl) ?_
  have hS : (fun w9 : World => w9.cell? ⟨h, 0, none⟩ = some (.slice A1 qs.length cap) ∧ w9.cell? ⟨gx, 3, none⟩ = some (.int .i64 v.p.f) ∧ w9.cell? ⟨gx, 4, none⟩ = some (.int .i64 v.p.t) ∧ w9.cell? ⟨gx, 5, none⟩ = some (.slice v.p.B v.p.n v.p.c)) w.drew := ⟨c0, x3, x4, x5⟩
  refine Upto.takeD (i := 0) (some 84) (v := ?v0) rfl rfl (by kernel_rfl) (fun _ _ _ h => h) (Or.inl ⟨by rfl, ?y0⟩) hS ?r0
  case y0 =>
    rintro w9 ⟨s0, s3, s4, s5⟩
    go_simp
    try with_reducible rfl
  try simp only [Act.put, List.setIfInBounds_toArray, List.set_cons_zero, List.set_cons_succ]
  refine Upto.takeD (i := 1) (some 85) (v := ?v1) rfl rfl (by kernel_rfl) (fun _ _ _ h => h) (Or.inl ⟨by rfl, ?y1⟩) hS ?r1
  case y1 =>
    rintro w9 ⟨s0, s3, s4, s5⟩
    go_simp
    try with_reducible rfl
  try simp only [Act.put, List.setIfInBounds_toArray, List.set_cons_zero, List.set_cons_succ]
  refine Upto.takeD (i := 2) (some 86) (v := ?v2) rfl rfl (by kernel_rfl) (fun _ _ _ h => h) (Or.inl ⟨by rfl, ?y2⟩) hS ?r2
  case y2 =>
    rintro w9 ⟨s0, s3, s4, s5⟩
    go_simp
    try with_reducible rfl
  try simp only [Act.put, List.setIfInBounds_toArray, List.set_cons_zero, List.set_cons_succ]
  refine Upto.takeD (i := 3) (some 87) (v := ?v3) rfl rfl (by kernel_rfl) (fun _ _ _ h => h) (Or.inl ⟨by rfl, ?y3⟩) hS ?r3
  case y3 =>
    rintro w9 ⟨s0, s3, s4, s5⟩
    go_simp
    try with_reducible rfl
  try simp only [Act.put, List.setIfInBounds_toArray, List.set_cons_zero, List.set_cons_succ]
  refine Upto.takeD (i := 4) (some 88) (v := ?v4) rfl rfl (by kernel_rfl) (fun _ _ _ h => h) (Or.inl ⟨by rfl, ?y4⟩) hS ?r4
  case y4 =>
    rintro w9 ⟨s0, s3, s4, s5⟩
    go_simp
    try with_reducible rfl
  try simp only [Act.put, List.setIfInBounds_toArray, List.set_cons_zero, List.set_cons_succ]
  refine Upto.takeD (i := 5) (some 89) (v := ?v5) rfl rfl (by kernel_rfl) (fun _ _ _ h => h) (Or.inl ⟨by rfl, ?y5⟩) hS ?r5
  case y5 =>
    rintro w9 ⟨s0, s3, s4, s5⟩
    go_simp
    try with_reducible rfl
  try simp only [Act.put, List.setIfInBounds_toArray, List.set_cons_zero, List.set_cons_succ]
  refine Upto.takeD (i := 6) (some 90) (v := ?v6) rfl rfl (by kernel_rfl) (fun _ _ _ h => h) (Or.inl ⟨by rfl, ?y6⟩) hS ?r6
  case y6 =>
    rintro w9 ⟨s0, s3, s4, s5⟩
    go_simp
    try with_reducible rfl
  try simp only [Act.put, List.setIfInBounds_toArray, List.set_cons_zero, List.set_cons_succ]
  refine Upto.takeD (i := 7) (some 91) (v := ?v7) rfl rfl (by kernel_rfl) (fun _ _ _ h => h) (Or.inl ⟨by rfl, ?y7⟩) hS ?r7
  case y7 =>
    rintro w9 ⟨s0, s3, s4, s5⟩
    go_simp
    try with_reducible rfl
  try simp only [Act.put, List.setIfInBounds_toArray, List.set_cons_zero, List.set_cons_succ]
  refine Upto.takeD (i := 8) (some 92) (v := ?v8) rfl rfl (by kernel_rfl) (fun _ _ _ h => h) (Or.inl ⟨by rfl, ?y8⟩) hS ?r8
  case y8 =>
    rintro w9 ⟨s0, s3, s4, s5⟩
    go_simp
    try with_reducible rfl
  try simp only [Act.put, List.setIfInBounds_toArray, List.set_cons_zero, List.set_cons_succ]
  refine Upto.takeD (i := 9) (some 93) (v := ?v9) rfl rfl (by kernel_rfl) (fun _ _ _ h => h) (Or.inl ⟨by rfl, ?y9⟩) hS ?r9
  case y9 =>
    rintro w9 ⟨s0, s3, s4, s5⟩
    go_simp
    try with_reducible rfl
  try simp only [Act.put, List.setIfInBounds_toArray, List.set_cons_zero, List.set_cons_succ]
  refine Upto.takeD (i := 10) (some 94) (v := ?v10) rfl rfl (by kernel_rfl) (fun _ _ _ h => h) (Or.inl ⟨by rfl, ?y10⟩) hS ?r10
  case y10 =>
    rintro w9 ⟨s0, s3, s4, s5⟩
    go_simp
    try with_reducible rfl
  try simp only [Act.put, List.setIfInBounds_toArray, List.set_cons_zero, List.set_cons_succ]
  refine Upto.takeD (i := 11) (some 95) (v := ?v11) rfl rfl (by kernel_rfl) (fun _ _ _ h => h) (Or.inl ⟨by rfl, ?y11⟩) hS ?r11
  case y11 =>
    rintro w9 ⟨s0, s3, s4, s5⟩
    go_simp
    try with_reducible rfl
  try simp only [Act.put, List.setIfInBounds_toArray, List.set_cons_zero, List.set_cons_succ]
  refine Upto.takeD (i := 12) (some 96) (v := ?v12) rfl rfl (by kernel_rfl) (fun _ _ _ h => h) (Or.inl ⟨by rfl, ?y12⟩) hS ?r12
  case y12 =>
    rintro w9 ⟨s0, s3, s4, s5⟩
    go_simp
    try with_reducible rfl
  try simp only [Act.put, List.setIfInBounds_toArray, List.set_cons_zero, List.set_cons_succ]
  refine Upto.takeD (i := 13) (some 97) (v := ?v13) rfl rfl (by kernel_rfl) (fun _ _ _ h => h) (Or.inl ⟨by rfl, ?y13⟩) hS ?r13
  case y13 =>
    rintro w9 ⟨s0, s3, s4, s5⟩
    go_simp
    try with_reducible rfl
  try simp only [Act.put, List.setIfInBounds_toArray, List.set_cons_zero, List.set_cons_succ]
  refine Upto.takeD (i := 14) (some 98) (v := ?v14) rfl rfl (by kernel_rfl) (fun _ _ _ h => h) (Or.inl ⟨by rfl, ?y14⟩) hS ?r14
  case y14 =>
    rintro w9 ⟨s0, s3, s4, s5⟩
    go_simp
    try with_reducible rfl
  try simp only [Act.put, List.setIfInBounds_toArray, List.set_cons_zero, List.set_cons_succ]
  refine Upto.takeD (i := 15) (some 99) (v := ?v15) rfl rfl (by kernel_rfl) (fun _ _ _ h => h) (Or.inl ⟨by rfl, ?y15⟩) hS ?r15
  case y15 =>
    rintro w9 ⟨s0, s3, s4, s5⟩
    go_simp
    try with_reducible rfl
  try simp only [Act.put, List.setIfInBounds_toArray, List.set_cons_zero, List.set_cons_succ]
  refine Upto.takeD (i := 16) (some 100) (v := ?v16) rfl rfl (by kernel_rfl) (fun _ _ _ h => h) (Or.inl ⟨by rfl, ?y16⟩) hS ?r16
  case y16 =>
    rintro w9 ⟨s0, s3, s4, s5⟩
    go_simp
    try with_reducible rfl
  try simp only [Act.put, List.setIfInBounds_toArray, List.set_cons_zero, List.set_cons_succ]
  refine Upto.takeD (i := 17) (some 101) (v := ?v17) rfl rfl (by kernel_rfl) (fun _ _ _ h => h) (Or.inl ⟨by rfl, ?y17⟩) hS ?r17
  case y17 =>
    rintro w9 ⟨s0, s3, s4, s5⟩
    go_simp
    try with_reducible rfl
  try simp only [Act.put, List.setIfInBounds_toArray, List.set_cons_zero, List.set_cons_succ]
  refine Upto.one (i := 18) (by kernel_rfl) rfl (fun K hK => ?_)
  go_simp
  refine hK.out _ _ (fun _ => ⟨HC.out.2.2.2.1.cell c0, HC.out.2.2.2.1.cell x3, HC.out.2.2.2.1.cell x4, HC.out.2.2.2.1.cell x5⟩) ?_
  clear hK K hS
  try simp only [Act.put, List.setIfInBounds_toArray, List.set_cons_zero, List.set_cons_succ]
  refine Upto.one (i := 19) (by kernel_rfl) rfl (fun K hK => ?_)
  refine step_append_full (by rfl) W.heap.size (.tmp 99) (.tmp 102) 27 (by rfl) Try.underlying27 40 infoE (by omega) A1 qs.length ((pcells qs).take (qs.length * 3)) (Pk.cells v.p) (some ⟨w.heap.size, 0, none⟩) 1 1 (by rfl) (by rfl) (by exact HC.out.1) (by exact HC.out.2.1) (by exact HC.out.2.2.1) hmc hmb ?_
  intro v4 w4 q1 q2 q3
  obtain ⟨A4, c4, rfl, _⟩ := CRow.form q1
  have hq2 : Ext w w4 := HC.out.2.2.2.1.trans q2
  have HQ := Lib.hid (And.intro q1 (And.intro q2 (And.intro q3 hq2)))
  change K (Act.put _ (some 103) _) _
  refine hK.out _ _ (fun _ => ⟨hq2.cell c0, hq2.cell x3, hq2.cell x4, hq2.cell x5⟩) ?_
  have hS : (fun w9 : World => w9.cell? ⟨h, 0, none⟩ = some (.slice A1 qs.length cap) ∧ w9.cell? ⟨gx, 3, none⟩ = some (.int .i64 v.p.f) ∧ w9.cell? ⟨gx, 4, none⟩ = some (.int .i64 v.p.t) ∧ w9.cell? ⟨gx, 5, none⟩ = some (.slice v.p.B v.p.n v.p.c)) w4 := ⟨hq2.cell c0, hq2.cell x3, hq2.cell x4, hq2.cell x5⟩
  have k1 : w4.frozen? ⟨h, 0, none⟩ = false := by
    have := hq2.obj HC.out.2.2.2.2.2.1.obj
    simp [World.frozen?, this]
  have k0 := hq2.cell c0
  clear hK K q1 q2 q3 hq2
  try simp only [Act.put, List.setIfInBounds_toArray, List.set_cons_zero, List.set_cons_succ]
  refine Upto.one (i := 20) (by kernel_rfl) rfl (fun K hK => ?_)
  go_simp
  refine hK.out _ _ (fun _ => hS) ?_
  clear hK K
  try simp only [Act.put, List.setIfInBounds_toArray, List.set_cons_zero, List.set_cons_succ]
  refine Upto.takeD (i := 21) (some 105) (v := ?v21) rfl rfl (by kernel_rfl) (fun _ _ _ h => h) (Or.inl ⟨by rfl, ?y21⟩) hS ?r21
  case y21 =>
    rintro w9 ⟨s0, s3, s4, s5⟩
    go_simp
    try with_reducible rfl
  try simp only [Act.put, List.setIfInBounds_toArray, List.set_cons_zero, List.set_cons_succ]
  refine Upto.one (i := 22) (by kernel_rfl) rfl (fun K hK => ?_)
  go_simp
  refine hK.out _ _ (fun h0 => absurd rfl h0) ?_
  clear hK K
  refine Upto.done (by kernel_rfl) ?_ _
  · obtain ⟨q1, q2, q3, _⟩ := HQ.out
    obtain ⟨_, _, _, hx2, d⟩ := HC.out
    have hq2 : Ext w w4 := hx2.trans q2
    have hrow' : PRow w4 W.heap.size (.slice A4 (qs.length + 1) c4) (qs ++ [v.p]) := by
      unfold PRow
      rw [pcells_append, List.length_append]
      rw [List.take_of_length_le (by rw [pcells_length]; exact Nat.le_refl _)] at q1
      have : pcells [v.p] = Pk.cells v.p := by simp [pcells]
      rw [this]
      exact q1
    obtain ⟨n1, n2⟩ := d.2.1.put_row hq2 hrow' (by
        rcases q3 with e | ⟨j, e, hj⟩
        · exact .inl (e.trans (by cases A1 <;> rfl))
        · exact .inr ⟨j, e, Nat.le_trans hx2.size_le' hj⟩) (fun p hp' => by
        rcases List.mem_append.1 hp' with hp' | hp'
        · exact (d.2.1.ok p hp').ext hq2
        · rw [List.mem_singleton.1 hp']
          exact (d.2.2.2.2.1 _ (by simp)).ext hq2) (by have := HL.out; simp; omega)
    have hD := HH.out
    refine ⟨⟨⟨rfl, rfl, hD.k.h0, hD.k.h1, hD.k.h2, hD.k.h7, rfl, hD.k.h9⟩, rfl, hD.h17, ?_, hD.wide, hD.le⟩, nv, _, ps, _, d.rturned n1 (by rw [List.map_append, d.2.2.2.1]; rfl) n2⟩
    intro hp
    obtain ⟨b, cur, e, h1, h2, h3, h4⟩ := hD.give hp
    refine ⟨b, cur, e, h1, h2, n2.obj h3 ?_, h4⟩
    rintro rfl
    have := d.2.1.obj; rw [h3] at this; injection this with this; injection this with _ this; exact absurd this (by decide)
end Go.Proofs.Ytbeoickdcbnjgaa
