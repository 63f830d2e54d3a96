/- The document's Do: the list. -/
import Derived.Test.YtdcbpnkcpglhhaaGrpU
import Derived.Test.YtdcbpnkcpglhhaaGrpL
namespace Go.Proofs.Ytdcbpnkcpglhhaa
open Go.RowKit
set_option linter.unusedVariables false
set_option linter.unusedSimpArgs false
set_option linter.unnecessarySimpa false
attribute [local go_sem] stepR givesR fillE Ext.refl run_store_float

structure LW (w2 : World) (b3 : Nat) (L : List Gp) (j : Nat) (w' : World) : Prop where
  ch : Chg (fun k => k = b3) w2 w'
  ls : ∃ vL, w'.heap[b3]? = some (.cells #[.int .i64 4, .int .i64 0, .float .f64 0, .string ⟨#[]⟩, vL] 28 (0, 0)) ∧ LstP w' (b3 + 1) vL j L
/-- the list's own block -/
structure LC (wr w2 : World) (b3 : Nat) : Prop where
  ex : Ext wr w2
  lo : wr.heap.size ≤ b3
  sz : w2.heap.size = b3 + 1
theorem LC.old {wr w2 w' : World} {b3 : Nat} (h : LC wr w2 b3) (hc : Chg (fun k => k = b3) w2 w') {a : Addr} {u : Value} (hu : wr.cell? a = some u) : w'.cell? a = some u := hc.cell (h.ex.cell hu) (fun e => by have := World.block_lt_of_cell? wr a hu; have := h.lo; omega)
theorem LC.oldo {wr w2 w' : World} {b3 k : Nat} {o : Obj} (h : LC wr w2 b3) (hc : Chg (fun k => k = b3) w2 w') (hu : wr.heap[k]? = some o) : w'.heap[k]? = some o := hc.obj (h.ex.obj hu) (fun e => by have := (Array.getElem?_eq_some_iff.1 hu).1; have := h.lo; omega)
def LI (g bx : Nat) (m : ByteArray) (A : Option Addr) (l c : Nat) (w2 : World) (b3 : Nat) (L : List Gp) (j : Nat) (a : Act) (w' : World) : Prop := RK g bx m A l c a ∧ G a 23 = .pointer (some ⟨b3, 0, none⟩) ∧ G a 24 = .int .i64 j ∧ j ≤ L.length ∧ LW w2 b3 L j w'
section
variable {w : World} {base g bx : Nat} {v : Value} {L : List Gp} {S : Nat → Prop} {n : Nat} {A : Option Addr} {c : Nat} {ts : List T} {m : ByteArray} {wr w2 : World} {b3 : Nat}
set_option maxRecDepth 1000000 in
set_option maxHeartbeats 4000000 in
theorem ls_start {a : Act} (hk : RK g bx m A ts.length c a) :
    Code.wp Try.prog (nav [1,1,1,0,2,1,5,1,5,1,5,1,4,0] doBody) (Norm (fun a w' => (∃ b3, RK g bx m A ts.length c a ∧ G a 23 = .pointer (some ⟨b3, 0, none⟩) ∧ LC wr w' b3 ∧ LW w' b3 L 0 w'))) a wr := by
  have HK := Lib.hid hk
  have hx := (Ext.refl wr).alloc (.cells #[.int .i64 4, .int .i64 0, .float .f64 0, .string ⟨#[]⟩, .slice none 0 0] 28)
  have ho := heap_alloc_new wr (.cells #[.int .i64 4, .int .i64 0, .float .f64 0, .string ⟨#[]⟩, .slice none 0 0] 28)
  have H := Lib.hid (And.intro hx ho)
  clear hx ho
  rw [act_292 a hk.d hk.s]
  clear hk
  conv => arg 2; whnf
  go_wp2_with fail
  exact ⟨wr.heap.size, ⟨rfl, rfl, HK.out.h0, HK.out.h1, HK.out.h2, HK.out.h6, HK.out.h10⟩, rfl, ⟨H.out.1, Nat.le_refl _, by simp⟩, Chg.refl _ _, _, H.out.2, [], rfl, CRow.nil _ _, fun i q p hq => by simp at hq⟩
set_option maxRecDepth 1000000 in
set_option maxHeartbeats 4000000 in
theorem ls_zero {a : Act} {w' : World} (hk : RK g bx m A ts.length c a) (h23 : G a 23 = .pointer (some ⟨b3, 0, none⟩)) (hW : LW w2 b3 L 0 w') :
    Code.wp Try.prog (nav [1,1,1,0,2,1,5,1,5,1,5,1,4,1,0,0] doBody) (Norm (LI g bx m A ts.length c w2 b3 L 0)) a w' := by
  have HK := Lib.hid (And.intro hk (And.intro h23 hW))
  rw [act_292 a hk.d hk.s]
  clear hk h23 hW
  conv => arg 2; whnf
  go_wp2_with fail
  exact ⟨⟨rfl, rfl, HK.out.1.h0, HK.out.1.h1, HK.out.1.h2, HK.out.1.h6, HK.out.1.h10⟩, HK.out.2.1, rfl, Nat.zero_le _, HK.out.2.2⟩
/-- a round's test: on, or out -/
def TQ (N K : Act → World → Prop) : Exit → Act → World → Prop
  | .normal, a, w => N a w
  | .exit i, a, w => i = 3 ∧ K a w
  | _, _, _ => False
set_option maxRecDepth 1000000 in
set_option maxHeartbeats 4000000 in
theorem ls_test {j : Nat} {a : Act} {w' : World} (hI : LI g bx m A ts.length c w2 b3 L j a w') (hC : LC wr w2 b3) (hd : Dr RD wr base g v L) :
    Code.wp Try.prog (nav [1,1,1,0,2,1,5,1,5,1,5,1,4,1,0,1,2,3,0] doBody) (TQ (fun a w' => LI g bx m A ts.length c w2 b3 L j a w' ∧ j < L.length) (LI g bx m A ts.length c w2 b3 L L.length)) a w' := by
  have HI := Lib.hid hI
  obtain ⟨hk, h23, h24, hj, hW⟩ := hI
  have c0 := hC.old hW.ch hd.cell.1
  obtain ⟨A4, c4, rfl, hlc, _⟩ := hd.row.form
  rw [act_292 a hk.d hk.s, hk.h0, h24]
  clear hk h23 h24 hW hd
  conv => arg 2; whnf
  by_cases hlt : j < L.length
  · have hjn : (j : Int) < (L.length : Int) := by omega
    have HL := Lib.hid hlt
    clear hlt hj
    go_wp2_with fail
    obtain ⟨hk, h23, h24, hj, hW⟩ := HI.out
    exact ⟨⟨⟨rfl, rfl, rfl, hk.h1, hk.h2, hk.h6, hk.h10⟩, h23, rfl, hj, hW⟩, HL.out⟩
  · obtain rfl : j = L.length := by omega
    have hjn : decide ((L.length : Int) < (L.length : Int)) = false := by simp
    clear hlt hj
    go_wp2_with fail
    obtain ⟨hk, h23, h24, hj, hW⟩ := HI.out
    exact ⟨rfl, ⟨rfl, rfl, rfl, hk.h1, hk.h2, hk.h6, hk.h10⟩, h23, rfl, hj, hW⟩
set_option maxRecDepth 1000000 in
set_option maxHeartbeats 4000000 in
theorem ls_next {j : Nat} {a : Act} {w' : World} (hk : RK g bx m A ts.length c a) (h23 : G a 23 = .pointer (some ⟨b3, 0, none⟩)) (h24 : G a 24 = .int .i64 j) (hj : j < L.length) (hl : L.length ≤ 16) (hW : LW w2 b3 L (j + 1) w') :
    Code.wp Try.prog (nav [1,1,1,0,2,1,5,1,5,1,5,1,4,1,0,1,2,3,1,1] doBody) (Norm (LI g bx m A ts.length c w2 b3 L (j + 1))) a w' := by
  have HK := Lib.hid (And.intro hk (And.intro h23 (And.intro hW hj)))
  have hw1 : IntKind.i64.wrap ((j : Int) + 1) = (j : Int) + 1 := IntWalk.i64_in _ (by omega)
  rw [act_292 a hk.d hk.s, h24]
  clear hk h23 h24 hW hj
  conv => arg 2; whnf
  go_wp2_with fail
  exact ⟨⟨rfl, rfl, HK.out.1.h0, HK.out.1.h1, HK.out.1.h2, HK.out.1.h6, HK.out.1.h10⟩, HK.out.2.1, rfl, HK.out.2.2.2, HK.out.2.2.1⟩
end
section
variable {w : World} {base g bx : Nat} {v : Value} {L : List Gp} {S : Nat → Prop} {n : Nat} {A : Option Addr} {c : Nat} {ts : List T} {m : ByteArray} {wa w2 : World} {b3 : Nat}
set_option maxRecDepth 1000000 in
set_option maxHeartbeats 8000000 in
theorem ls_round {j : Nat} {a : Act} {wr : World} (hI : LI g bx m A ts.length c w2 b3 L j a wr) (hlt : j < L.length) (hC : LC wa w2 b3) (hd : Dr RD wa base g v L) :
    Code.wp Try.prog (nav [1,1,1,0,2,1,5,1,5,1,5,1,4,1,0,1,2,3,1,0,2] doBody) (Norm (fun a w' => RK g bx m A ts.length c a ∧ G a 23 = .pointer (some ⟨b3, 0, none⟩) ∧ G a 24 = .int .i64 j ∧ LW w2 b3 L (j + 1) w')) a wr := by
  have HI := Lib.hid hI
  obtain ⟨hk, h23, h24, hj, hW⟩ := hI
  have HC := Lib.hid hW.ch
  have HS2 := Lib.hid hC.sz
  obtain ⟨vL, hob, qs, hqs, hrow, hqp⟩ := hW.ls
  have hjn : ((j : Int) < 0) = False := by simp
  have hfew := hd.few
  have c0 := hC.old hW.ch hd.cell.1
  obtain ⟨A4, c4, rfl, hlc, _⟩ := hd.row.form
  obtain ⟨b, rfl, hat⟩ := hd.row.rd (by omega)
  obtain ⟨p, hp⟩ : ∃ p, L[j]? = some p := ⟨_, List.getElem?_eq_getElem hlt⟩
  obtain ⟨g0, g1, g2, g3⟩ := hat _ p hp
  have hpo := hd.ok p (List.mem_of_getElem? hp)
  obtain ⟨pn, pc, ps, pv⟩ := p
  obtain ⟨hps, hv0, hv1, hn1, hn2⟩ := hpo
  have k0 := hC.old hW.ch g0
  have k1 := hC.old hW.ch g1
  have k2 := hC.old hW.ch g2
  have k3 := hC.old hW.ch g3
  simp only at hps hv0 hv1 hn1 hn2 k0 k1 k2 k3
  obtain ⟨sk, rfl, hsk⟩ : ∃ sk : Nat, ps = (sk : Int) ∧ sk < 3 := ⟨ps.toNat, by omega, by omega⟩
  have hji : (j : Int) < (L.length : Int) := by omega
  have hcv : IntKind.i64.wrap pv = pv := IntWalk.i64_in _ (by omega)
  have hsn : ((sk : Int) < 0) = False := by simp
  have hs3 : (sk : Int) < 3 := by omega
  have HQ := Lib.hid (And.intro hob (And.intro hqs (And.intro hrow (And.intro hqp hp))))
  have hx4 : Ext wr (wr.alloc (.cells #[.string pn, .string pc, .int .i64 (sk : Int), .int .u32 pv] 36)) := (Ext.refl wr).alloc _
  have ho5 := heap_alloc_new wr (.cells #[.string pn, .string pc, .int .i64 (sk : Int), .int .u32 pv] 36)
  have H4 := Lib.hid (And.intro hx4 ho5)
  clear hx4 ho5 hrow hqp hqs hob hp g0 g1 g2 g3 hat hps hW hd hC
  rw [act_292 a hk.d hk.s, hk.h0, h23, h24]
  clear hk h23 h24
  conv => arg 2; whnf
  go_wp2_with fail
  have hx4 := H4.out.1
  have ho5 := H4.out.2
  obtain ⟨hob, hqs, hrow, hqp, hp⟩ := HQ.out
  have hq4 := hx4.obj hob
  clear H4
  revert hx4 ho5 hq4
  generalize World.alloc _ _ = w4
  generalize hb5 : wr.heap.size = b5
  intro hx4 ho5 hq4
  have hb35 : b3 < b5 := by rw [← hb5]; exact (Array.getElem?_eq_some_iff.1 hob).1
  have a0 : ∀ p : Later w4, p.w.cell? ⟨b3, 4, none⟩ = some vL := fun p => p.cell ((cell_of_row w4 b3 4 _ _ _ hq4).trans rfl)
  have a1 : ∀ p : Later w4, p.w.cell? ⟨b5, 0, none⟩ = some (.string pn) := fun p => p.cell ((cell_of_row w4 b5 0 _ _ _ ho5).trans rfl)
  have a2 : ∀ p : Later w4, p.w.cell? ⟨b5, 1, none⟩ = some (.string pc) := fun p => p.cell ((cell_of_row w4 b5 1 _ _ _ ho5).trans rfl)
  have a3 : ∀ p : Later w4, p.w.cell? ⟨b5, 2, none⟩ = some (.int .i64 sk) := fun p => p.cell ((cell_of_row w4 b5 2 _ _ _ ho5).trans rfl)
  have a5 : ∀ p : Later w4, p.w.cell? ⟨b5, 3, none⟩ = some (.int .u32 pv) := fun p => p.cell ((cell_of_row w4 b5 3 _ _ _ ho5).trans rfl)
  obtain ⟨Ar, cr, rfl, _⟩ := hrow.form
  have hbase4 : b3 + 1 ≤ w4.heap.size := by have := hx4.size_le'; omega
  have H5 := Lib.hid (And.intro hx4 (And.intro hq4 (And.intro hb35 (And.intro hb5 hbase4))))
  clear hx4 ho5 hq4 hb35 hb5 hob hrow hqp hp
  refine wp_region_rel' 19 (by kernel_rfl) (by kernel_rfl) (fun Fin hFin => ?_)
  simp only [List.take_succ_cons, List.take_zero]
  (refine relGo_p (fun K hK => ?_); go_simp; refine hK _ ?_; clear hK K)
  (refine relGo_p (fun K hK => ?_); go_simp; refine hK _ ?_; clear hK K)
  (refine relGo_p (fun K hK => ?_); go_simp; refine hK _ ?_; clear hK K)
  (refine relGo_p (fun K hK => ?_); go_simp; refine hK _ ?_; clear hK K)
  refine relGo_q (.agg #[.int .i64 3, .int .i64 0, .float .f64 0, .string pn, .slice none 0 0]) ?_ (fun K hK => ?_)
  · intro w' hw'
    go_simp
    refine (rtext_any _ w').mono ?_
    rintro e w'' ⟨rfl, hx⟩
    exact ⟨rfl, hx⟩
  go_simp; refine hK _ ?_; clear hK K
  (refine relGo_p (fun K hK => ?_); go_simp; refine hK _ ?_; clear hK K)
  (refine relGo_p (fun K hK => ?_); go_simp; refine hK _ ?_; clear hK K)
  refine relGo_q (.agg #[.int .i64 3, .int .i64 0, .float .f64 0, .string pc, .slice none 0 0]) ?_ (fun K hK => ?_)
  · intro w' hw'
    go_simp
    refine (rtext_any _ w').mono ?_
    rintro e w'' ⟨rfl, hx⟩
    exact ⟨rfl, hx⟩
  go_simp; refine hK _ ?_; clear hK K
  (refine relGo_p (fun K hK => ?_); go_simp; refine hK _ ?_; clear hK K)
  (refine relGo_p (fun K hK => ?_); go_simp; refine hK _ ?_; clear hK K)
  refine relGo_q (.string (styN sk)) ?_ (fun K hK => ?_)
  · intro w' hw'
    go_simp
    refine (styleName_any w' sk hsk).mono ?_
    rintro e w'' ⟨rfl, hx⟩
    exact ⟨rfl, hx⟩
  go_simp; refine hK _ ?_; clear hK K
  refine relGo_q (.agg #[.int .i64 3, .int .i64 0, .float .f64 0, .string (styN sk), .slice none 0 0]) ?_ (fun K hK => ?_)
  · intro w' hw'
    go_simp
    refine (rtext_any _ w').mono ?_
    rintro e w'' ⟨rfl, hx⟩
    exact ⟨rfl, hx⟩
  go_simp; refine hK _ ?_; clear hK K
  (refine relGo_p (fun K hK => ?_); go_simp; refine hK _ ?_; clear hK K)
  (refine relGo_p (fun K hK => ?_); go_simp; refine hK _ ?_; clear hK K)
  (refine relGo_p (fun K hK => ?_); go_simp; refine hK _ ?_; clear hK K)
  refine relGo_q (.agg #[.int .i64 1, .int .i64 pv, .float .f64 0, .string ⟨#[]⟩, .slice none 0 0]) ?_ (fun K hK => ?_)
  · intro w' hw'
    go_simp
    refine (rint_any _ w').mono ?_
    rintro e w'' ⟨rfl, hx⟩
    exact ⟨rfl, hx⟩
  go_simp; refine hK _ ?_; clear hK K
  refine relGo_r (IsBlk (rowcells ⟨pn, pc, sk, pv⟩).toArray 4 w4.heap.size) (IsBlk.later _ _ _) ?_ ?_
  · intro w' hw'
    have hle : w4.heap.size ≤ w'.heap.size := hw'.size_le'
    go_simp
    exact ⟨(Ext.refl w').alloc _, _, rfl, hle, heap_alloc_new w' _⟩
  refine relGo_r (IsHead (rowcells ⟨pn, pc, sk, pv⟩).toArray w4.heap.size) (IsHead.later _ _) ?_ ?_
  · intro w' hw' v3 hv3
    obtain ⟨q, rfl, hle, hcell⟩ : IsBlk (rowcells ⟨pn, pc, sk, pv⟩).toArray 4 w4.heap.size v3 w' := hv3 (by kernel_rfl)
    have HS := Lib.hid (And.intro hle hcell)
    clear hv3 hcell hle
    go_simp
    refine (rlist_any _ _ _ w').mono ?_
    rintro e w'' ⟨rfl, hx⟩
    exact ⟨_, rfl, hx, q, rfl, HS.out.1, hx.obj HS.out.2⟩
  refine relGo_r (IsOne (rowcells ⟨pn, pc, sk, pv⟩).toArray w4.heap.size) (IsOne.later _ _) ?_ ?_
  · intro w' hw' v3 hv3 v4 hv4
    obtain ⟨q, rfl, hle, hcell⟩ : IsHead (rowcells ⟨pn, pc, sk, pv⟩).toArray w4.heap.size v4 w' := hv4 (by kernel_rfl)
    have HS := Lib.hid (And.intro hle hcell)
    clear hv3 hv4 hcell hle
    simp only [vhead]
    go_simp
    exact ⟨(Ext.refl w').alloc _, _, q, rfl, HS.out.1, ((Ext.refl w').alloc _).obj HS.out.2, heap_alloc_new w' _⟩
  refine hFin _ _ (fun w9 hw9 => ?_)
  intro v3 hv3 v4 hv4 v5 hv5
  obtain ⟨q3, rfl, _, _⟩ : IsBlk (rowcells ⟨pn, pc, sk, pv⟩).toArray 4 w4.heap.size v3 w9 := hv3 (by kernel_rfl)
  obtain ⟨q4, rfl, _, _⟩ : IsHead (rowcells ⟨pn, pc, sk, pv⟩).toArray w4.heap.size v4 w9 := hv4 (by kernel_rfl)
  obtain ⟨r, q, rfl, hle, hcell, hcell2⟩ : IsOne (rowcells ⟨pn, pc, sk, pv⟩).toArray w4.heap.size v5 w9 := hv5 (by kernel_rfl)
  clear hFin Fin hv3 hv4 hv5 a0 a1 a2 a3 a5
  obtain ⟨hob, hqs, hrow, hqp, hp⟩ := HQ.out
  obtain ⟨hx4, hq4, hb35, hb5, hbase4⟩ := H5.out
  have hx9 := hx4.trans hw9
  have hrow9 : CRow 28 5 w9 (b3 + 1) (.slice Ar j cr) j (qs.flatMap vhead) := hrow.ext hx9
  have hsrc : Src w9 5 (some ⟨r, 0, none⟩) 1 (vhead q) := Src.at rfl (fun i u hu => by rw [Nat.zero_add, cell_of_row w9 r i _ _ _ hcell2]; simpa using hu) (by
    intro u hu
    simp only [vhead, List.mem_cons, List.not_mem_nil, or_false] at hu
    rcases hu with rfl | rfl | rfl | rfl | rfl <;> rfl)
  have hne : (Value.slice Ar j cr).ownBlock ≠ some q := fun e => by
    have := (hrow.lt q e).2.1
    have := hx4.size_le'
    omega
  have hne3 : (Value.slice Ar j cr).ownBlock ≠ some b3 := fun e => by
    have := (hrow.lt b3 e).1
    omega
  have hb9 : b3 + 1 ≤ w9.heap.size := Nat.le_trans hbase4 hw9.size_le'
  have hq9 := hw9.obj hq4
  have hmm : (2000 : Nat) ≤ maxLen := by decide
  have H9 := Lib.hid (And.intro hrow9 (And.intro hsrc (And.intro hne (And.intro hne3 (And.intro hq9 hx9)))))
  have HP := Lib.hid (show ∀ i q p, qs[i]? = some q → L[i]? = some p → b3 + 1 ≤ q ∧ (Value.slice Ar j cr).ownBlock ≠ some q ∧ w9.heap[q]? = some (.cells (rowcells p).toArray 28 (0, 0)) from fun i q p h1 h2 => ⟨(hqp i q p h1 h2).1, (hqp i q p h1 h2).2.1, hx9.obj (hqp i q p h1 h2).2.2⟩)
  have hle2 : b3 + 1 ≤ q := Nat.le_trans hbase4 hle
  have HZ := Lib.hid (And.intro hqs (And.intro hp (And.intro hcell hle2)))
  clear hle2
  clear hob hqs hrow hqp hp hx4 hq4 hb35 hb5 hbase4 hx9 hrow9 hsrc hne hne3 hq9 hcell hcell2 hle hw9 H5 HQ
  simp only [fillE, List.drop_succ_cons, List.drop_zero, List.drop_nil]
  go_wp2_with (at_builtin; refine wpList_append_crow rfl (b3 + 1) (.tmp 269) (.tmp 286) 26 rfl Try.underlying26 64 infoV (by omega) (.slice Ar j cr) j (qs.flatMap vhead) (vhead q) (some ⟨r, 0, none⟩) 1 1 rfl rfl H9.out.1 H9.out.2.1 hb9 (by omega) (by omega) ?next)
  case next =>
    intro v1 w1 q1 q2 q3
    have hob1 := (Chg.of_grown q2).obj H9.out.2.2.2.2.1 (fun e => H9.out.2.2.2.1 e.symm)
    have c1 : w1.cell? ⟨b3, 4, none⟩ = some (.slice Ar j cr) := (cell_of_row w1 b3 4 _ _ _ hob1).trans rfl
    have f1 : w1.frozen? ⟨b3, 4, none⟩ = false := by simp [World.frozen?, hob1]
    obtain ⟨hqs, hp, hcell, hle⟩ := HZ.out
    have hL : LstP w1 (b3 + 1) v1 (j + 1) L := LstP.more hqs H9.out.1 HP.out hp hcell hle H9.out.2.2.1 q1 q2 q3
    obtain ⟨A1, n1, rfl, _⟩ := q1.form
    have H10 := Lib.hid (And.intro hL (And.intro hob1 q2))
    clear hL hob1 q1 q2 q3 hqs hp hcell hle
    go_wp2_with fail
    obtain ⟨hL, hob1, q2⟩ := H10.out
    have hch : Chg (fun k => k = b3) w1 (w1.setCell ⟨b3, 4, none⟩ (.slice A1 (j + 1) n1)) := (Chg.refl _ _).setCell ⟨b3, 4, none⟩ _ (fun _ => rfl)
    have h1 : Chg (fun k => k = b3) w2 w9 := (HC.out).ext H9.out.2.2.2.2.2
    have h2 : Chg (fun k => k = b3) w2 w1 := h1.grown q2 (fun k e hk => by
      have := (H9.out.1.lt k e).1
      have := HS2.out
      omega)
    exact ⟨⟨rfl, rfl, rfl, HI.out.1.h1, HI.out.1.h2, HI.out.1.h6, HI.out.1.h10⟩, rfl, rfl, h2.trans hch (fun _ _ h => h) (fun _ _ h => h), _, put2' (i := 4) (x := .slice A1 (j + 1) n1) hob1, hL.chg hch (fun k hk e => by omega)⟩
end
section
variable {w : World} {base g bx : Nat} {v : Value} {L : List Gp} {S : Nat → Prop} {n : Nat} {A : Option Addr} {c : Nat} {ts : List T} {m : ByteArray} {wr w2 : World} {b3 : Nat}
set_option maxRecDepth 1000000 in
theorem ls_all {a : Act} {w' : World} (hI : LI g bx m A ts.length c w2 b3 L 0 a w') (hC : LC wr w2 b3) (hd : Dr RD wr base g v L) :
    Code.wp Try.prog (nav [1,1,1,0,2,1,5,1,5,1,5,1,4,1,0,1] doBody) (Norm (LI g bx m A ts.length c w2 b3 L L.length)) a w' := by
  show Code.wp Try.prog (Code.block 3 (Code.loop (nav [1,1,1,0,2,1,5,1,5,1,5,1,4,1,0,1,2,3] doBody))) _ _ _
  refine wp_block (wp_loop (fun a w => ∃ j, LI g bx m A ts.length c w2 b3 L j a w) (fun a w => L.length - (intOf (G a 24)).toNat) ⟨0, hI⟩ ?_)
  rintro a w' ⟨j, hI⟩
  show Code.wp Try.prog (Code.seq (nav [1,1,1,0,2,1,5,1,5,1,5,1,4,1,0,1,2,3,0] doBody) (Code.seq (Code.block 4 (nav [1,1,1,0,2,1,5,1,5,1,5,1,4,1,0,1,2,3,1,0,2] doBody)) (nav [1,1,1,0,2,1,5,1,5,1,5,1,4,1,0,1,2,3,1,1] doBody))) _ _ _
  refine wp_seq (wp_mono (ls_test hI hC hd) ?_)
  intro e a1 w1 hr
  cases e with
  | normal =>
    obtain ⟨hI1, hlt⟩ := hr
    refine wp_seq (wp_block (wp_mono (ls_round hI1 hlt hC hd) ?_))
    intro e a2 w2' hr
    cases e with
    | normal =>
      obtain ⟨hk, h23, h24, hW⟩ := hr
      refine wp_mono (ls_next hk h23 h24 hlt hd.few hW) ?_
      intro e a3 w3 hr
      cases e with
      | normal =>
        refine ⟨⟨j + 1, hr⟩, ?_⟩
        have h2 := hr.2.2.1
        have h3 := hI.2.2.1
        simp only [h2, h3, intOf]
        omega
      | _ => exact hr.elim
    | _ => exact hr.elim
  | exit id =>
    obtain ⟨rfl, hr⟩ := hr
    simp only [Exit.then, Exit.inBlock, if_true]
    exact hr
  | _ => exact hr.elim
set_option maxRecDepth 1000000 in
set_option maxHeartbeats 4000000 in
theorem ls_end {a : Act} {w' : World} (hI : LI g bx m A ts.length c w2 b3 L L.length a w') (hC : LC wr w2 b3) (hR : RW w base g bx v L S n A c ts wr) :
    Code.wp Try.prog (nav [1,1,1,0,2,1,5,1,5,1,5,1,4,1,1] doBody) (RF w base g bx v (L, listT L, 0)) a w' := by
  have HI := Lib.hid hI
  obtain ⟨hk, h23, h24, hj, hW⟩ := hI
  obtain ⟨vL, hob, hL⟩ := hW.ls
  have hL0 := hL
  obtain ⟨qs, hqs, hrow, hqp⟩ := hL0
  obtain ⟨Ar, cr, rfl, _⟩ := hrow.form
  have hoz := hC.oldo hW.ch hR.ob
  obtain ⟨k0, k1, k2, k3, k4, _⟩ := cells5 hob
  obtain ⟨m0, m1, m2, m3, m4, f0, f1, f2, f3, f4⟩ := cells5 hoz
  have H := Lib.hid (And.intro hL (And.intro hoz (And.intro hW.ch (And.intro hC hR))))
  clear hL hoz hob hrow hqp hqs hW hR hC
  rw [act_292 a hk.d hk.s, h23, hk.h6]
  clear hk h23 h24
  conv => arg 2; whnf
  go_wp2_with fail
  obtain ⟨hL, hoz, hW, hC, hR⟩ := H.out
  obtain ⟨o4, hch⟩ := put5 (v0 := .int .i64 4) (v1 := .int .i64 0) (v2 := .float .f64 0) (v3 := .string ⟨#[]⟩) (v4 := .slice Ar L.length cr) hoz
  have hbx := hR.bxw
  have hlt := (Array.getElem?_eq_some_iff.1 hR.ob).1
  have hlo := hC.lo
  have hl2 := hL.chg hch (fun k hk e => by omega)
  have hrd := (LstP.rd hl2 hR.dr.ok (S := fun k => k < w.heap.size) (fun k hk e => by have := hR.ex.size_le'; omega)).2
  have hll : (L.map rowT).length = L.length := List.length_map ..
  have hxw : Ext wr w' := Below.trans hC.ex (hW.below hC.ex.size_le' (fun k hk => by omega))
  have hcl : (T.cells (listT L) Ar cr).toArray = #[.int .i64 4, .int .i64 0, .float .f64 0, .string ⟨#[]⟩, .slice Ar L.length cr] := by rw [listT, T.cells, hll]
  have hfin := DoP.fin (v := v) (v' := v) (L := L) (t := listT L) (A := Ar) (c := cr) (z := 0) (Nat.le_of_eq hbx.symm) (hR.dr.ext hxw) hR.ne hR.nv (hR.ex.trans hxw) (Chg.refl _ _) (.inl rfl) hrd hch
  have key := fun (a : Act) ha hs h6 h7 => (show RF w base g bx v (L, listT L, 0) .ret a _ from ⟨ha, hs, h6, h7, Ar, cr, by rw [hcl]; exact o4, hfin⟩)
  exact key _ rfl rfl rfl rfl
set_option maxRecDepth 1000000 in
theorem list_piece {a : Act} (hk : RK g bx m A ts.length c a) (hR : RW w base g bx v L S n A c ts wr) : Code.wp Try.prog (nav [1,1,1,0,2,1,5,1,5,1,5,1,4] doBody) (RF w base g bx v (L, listT L, 0)) a wr := by
  show Code.wp Try.prog (Code.seq (nav [1,1,1,0,2,1,5,1,5,1,5,1,4,0] doBody) (Code.seq (Code.seq (nav [1,1,1,0,2,1,5,1,5,1,5,1,4,1,0,0] doBody) (nav [1,1,1,0,2,1,5,1,5,1,5,1,4,1,0,1] doBody)) (nav [1,1,1,0,2,1,5,1,5,1,5,1,4,1,1] doBody))) _ _ _
  refine wp_seq (wp_mono (ls_start (L := L) hk) ?_)
  intro e a1 w1 hr
  cases e with
  | normal =>
    obtain ⟨b3, hk1, h23, hC, hW⟩ := hr
    refine wp_seq (wp_seq (wp_mono (ls_zero hk1 h23 hW) ?_))
    intro e a2 w2' hr
    cases e with
    | normal =>
      refine wp_mono (ls_all hr hC hR.dr) ?_
      intro e a3 w3 hr
      cases e with
      | normal => exact ls_end hr hC hR
      | _ => exact hr.elim
    | _ => exact hr.elim
  | _ => exact hr.elim
end
end Go.Proofs.Ytdcbpnkcpglhhaa
