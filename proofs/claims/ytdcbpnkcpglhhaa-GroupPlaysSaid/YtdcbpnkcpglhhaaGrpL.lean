/- list of the program. -/
import Derived.Test.YtdcbpnkcpglhhaaGrpK
namespace Go.Proofs.Ytdcbpnkcpglhhaa
open Go.RowKit
set_option linter.unusedVariables false
set_option linter.unusedSimpArgs false
set_option linter.unnecessarySimpa false
attribute [local go_sem] stepR givesR fillE Ext.refl run_store_float

def ListPost (w : World) (L : List Gp) (e : Ending) (w' : World) : Prop := ∃ A c, e = .returned ((listT L).val A c) ∧ Rd w' (fun k => k < w.heap.size) 3 (listT L) A c ∧ Ext w w'
def IsCell (x : ByteArray) (v : Value) (w : World) : Prop := ∃ b o, v = .pointer (some ⟨b, o, none⟩) ∧ w.cell? ⟨b, o, none⟩ = some (.string x)
theorem IsCell.later (x : ByteArray) : ∀ v w w', IsCell x v w → Ext w w' → IsCell x v w' := fun v w w' ⟨b, o, e, h⟩ hx => ⟨b, o, e, hx.cell h⟩
def IsBlk (cs : Array Value) (n base : Nat) (v : Value) (w : World) : Prop := ∃ q, v = .slice (some ⟨q, 0, none⟩) n n ∧ base ≤ q ∧ w.heap[q]? = some (.cells cs 28 (0, 0))
theorem IsBlk.later (cs : Array Value) (n base : Nat) : ∀ v w w', IsBlk cs n base v w → Ext w w' → IsBlk cs n base v w' := fun v w w' ⟨q, e, h1, h2⟩ hx => ⟨q, e, h1, hx.obj h2⟩
def IsHead (cs : Array Value) (base : Nat) (v : Value) (w : World) : Prop := ∃ q, v = .agg (vhead q).toArray ∧ base ≤ q ∧ w.heap[q]? = some (.cells cs 28 (0, 0))
theorem IsHead.later (cs : Array Value) (base : Nat) : ∀ v w w', IsHead cs base v w → Ext w w' → IsHead cs base v w' := fun v w w' ⟨q, e, h1, h2⟩ hx => ⟨q, e, h1, hx.obj h2⟩
def IsOne (cs : Array Value) (base : Nat) (v : Value) (w : World) : Prop := ∃ r q, v = .slice (some ⟨r, 0, none⟩) 1 1 ∧ base ≤ q ∧ w.heap[q]? = some (.cells cs 28 (0, 0)) ∧ w.heap[r]? = some (.cells (vhead q).toArray 28 (0, 0))
theorem IsOne.later (cs : Array Value) (base : Nat) : ∀ v w w', IsOne cs base v w → Ext w w' → IsOne cs base v w' := fun v w w' ⟨r, q, e, h1, h2, h3⟩ hx => ⟨r, q, e, h1, hx.obj h2, hx.obj h3⟩
theorem infoV : (Try.prog.info? 28).map (fun i => (i.zero.map (·.cells.size), i.size, i.bytes)) = some (some 5, 5, 64) := by kernel_rfl
set_option maxRecDepth 1000000 in
set_option maxHeartbeats 4000000 in
theorem list_any {w : World} {base g : Nat} {v : Value} {L : List Gp} (h : Dr 57 w base g v L) :
    Calls Try.prog 22 #[.pointer (some ⟨g, 0, none⟩)] w (ListPost w L) := by
  obtain ⟨c0, f0⟩ := h.cell
  obtain ⟨A, c, rfl, hlc, _⟩ := h.row.form
  have HG := Lib.hid h.row.rd
  have hfew := h.few
  have HK := Lib.hid h.ok
  have hglt := h.lt
  have HX := Lib.hid (((Ext.refl w).alloc (.cells #[.int .i64 0, .int .i64 0, .float .f64 0, .string ⟨#[]⟩, .slice none 0 0] 28)).alloc (.cells #[.int .i64 4, .int .i64 0, .float .f64 0, .string ⟨#[]⟩, .slice none 0 0] 28))
  have HO1 := Lib.hid (((Ext.refl (w.alloc (.cells #[.int .i64 0, .int .i64 0, .float .f64 0, .string ⟨#[]⟩, .slice none 0 0] 28))).alloc (.cells #[.int .i64 4, .int .i64 0, .float .f64 0, .string ⟨#[]⟩, .slice none 0 0] 28)).obj (heap_alloc_new w (.cells #[.int .i64 0, .int .i64 0, .float .f64 0, .string ⟨#[]⟩, .slice none 0 0] 28)))
  have HO2 := Lib.hid (heap_alloc_new (w.alloc (.cells #[.int .i64 0, .int .i64 0, .float .f64 0, .string ⟨#[]⟩, .slice none 0 0] 28)) (.cells #[.int .i64 4, .int .i64 0, .float .f64 0, .string ⟨#[]⟩, .slice none 0 0] 28))
  clear h
  go_enter Try.func22, Try.ntmps22
  go_wp2_with fail
  have ha := HX.out
  have ho1 := HO1.out
  have ho2 := HO2.out
  have hs2 : ((w.alloc (.cells #[.int .i64 0, .int .i64 0, .float .f64 0, .string ⟨#[]⟩, .slice none 0 0] 28)).alloc (.cells #[.int .i64 4, .int .i64 0, .float .f64 0, .string ⟨#[]⟩, .slice none 0 0] 28)).heap.size = w.heap.size + 1 + 1 := by simp
  rw [show ∀ o, (w.alloc o).heap.size = w.heap.size + 1 from fun o => by simp] at ho2
  clear HX HO1 HO2
  revert ha ho1 ho2 hs2
  generalize World.alloc (World.alloc _ _) _ = w2
  generalize hb3 : w.heap.size + 1 = b3
  generalize hbx : w.heap.size = bx
  intro ha ho1 ho2 hs2
  have HS2 := Lib.hid hs2
  clear hs2
  have HN := Lib.hid (And.intro hb3 (And.intro hbx hglt))
  have HA := Lib.hid ha
  have HB := Lib.hid (And.intro ho1 ho2)
  have hold : ∀ (wr : World), Chg (fun k => k = b3) w2 wr → ∀ a u, w.cell? a = some u → wr.cell? a = some u := fun wr hc a u hu => hc.cell (ha.cell hu) (fun e => by have := World.block_lt_of_cell? w a hu; omega)
  have HOL := Lib.hid hold
  clear ha hold hb3 hbx ho1 ho2 hglt
  go_loopw [13] (fun i wr => ∃ j : Nat, j ≤ L.length ∧ i = .int .i64 j ∧ Chg (fun k => k = b3) w2 wr ∧ Hid (∃ vL, wr.heap[b3]? = some (.cells #[.int .i64 4, .int .i64 0, .float .f64 0, .string ⟨#[]⟩, vL] 28 (0, 0)) ∧ LstP wr (b3 + 1) vL j L)) (fun i _ => L.length - (intOf i).toNat)
  case atStart => exact ⟨0, Nat.zero_le _, rfl, Chg.refl _ _, Lib.hid ⟨_, HB.out.2, [], rfl, CRow.nil _ _, fun i q p hq => by simp at hq⟩⟩
  case round =>
    obtain ⟨j, hj, rfl, hc, I⟩ := hrel
    obtain ⟨vL, hob, qs, hqs, hrow, hqp⟩ := I.out
    have hjn : ((j : Int) < 0) = False := by simp
    have HC := Lib.hid hc
    by_cases hlt : j < L.length
    · obtain ⟨b, rfl, hat⟩ := HG.out (by omega)
      obtain ⟨p, hp⟩ : ∃ p, L[j]? = some p := ⟨_, List.getElem?_eq_getElem hlt⟩
      obtain ⟨g0, g1, g2, g3⟩ := hat _ p hp
      have hpo := HK.out p (List.mem_of_getElem? hp)
      obtain ⟨pn, pc, ps, pv⟩ := p
      obtain ⟨hps, hv0, hv1, hn1, hn2⟩ := hpo
      have k0 := HOL.out wr hc _ _ g0
      have k1 := HOL.out wr hc _ _ g1
      have k2 := HOL.out wr hc _ _ g2
      have k3 := HOL.out wr hc _ _ g3
      simp only at hps hv0 hv1 hn1 hn2 k0 k1 k2 k3
      obtain ⟨sk, rfl, hsk⟩ : ∃ sk : Nat, ps = (sk : Int) ∧ sk < 3 := ⟨ps.toNat, by omega, by omega⟩
      have hji : (j : Int) < (L.length : Int) := by omega
      have hw1 : IntKind.i64.wrap ((j : Int) + 1) = (j : Int) + 1 := IntWalk.i64_in _ (by omega)
      have hcv : IntKind.i64.wrap pv = pv := IntWalk.i64_in _ (by omega)
      have hsn : ((sk : Int) < 0) = False := by simp
      have hs3 : (sk : Int) < 3 := by omega
      have HQ := Lib.hid (And.intro hob (And.intro hqs (And.intro hrow (And.intro hqp hp))))
      have hx4 : Ext wr ((wr.alloc (.cells #[.string pn, .string pc, .int .i64 (sk : Int), .int .u32 pv] 36)).alloc (.cells #[.int .i64 1, .int .i64 pv, .float .f64 0, .string ⟨#[]⟩, .slice none 0 0] 28)) := ((Ext.refl wr).alloc _).alloc _
      have ho5 := ((Ext.refl (wr.alloc (.cells #[.string pn, .string pc, .int .i64 (sk : Int), .int .u32 pv] 36))).alloc (.cells #[.int .i64 1, .int .i64 pv, .float .f64 0, .string ⟨#[]⟩, .slice none 0 0] 28)).obj (heap_alloc_new wr (.cells #[.string pn, .string pc, .int .i64 (sk : Int), .int .u32 pv] 36))
      have ho6 := heap_alloc_new (wr.alloc (.cells #[.string pn, .string pc, .int .i64 (sk : Int), .int .u32 pv] 36)) (.cells #[.int .i64 1, .int .i64 pv, .float .f64 0, .string ⟨#[]⟩, .slice none 0 0] 28)
      rw [show ∀ o, (wr.alloc o).heap.size = wr.heap.size + 1 from fun o => by simp] at ho6
      have H4 := Lib.hid (And.intro hx4 (And.intro ho5 ho6))
      clear hx4 ho5 ho6 hrow hqp hqs hob hp g0 g1 g2 g3 hat hc hps
      go_wp2_with fail
      have hx4 := H4.out.1
      have ho5 := H4.out.2.1
      have ho6 := H4.out.2.2
      obtain ⟨hob, hqs, hrow, hqp, hp⟩ := HQ.out
      have hq4 := hx4.obj hob
      have hsz : wr.heap.size + 2 ≤ ((wr.alloc (.cells #[.string pn, .string pc, .int .i64 (sk : Int), .int .u32 pv] 36)).alloc (.cells #[.int .i64 1, .int .i64 pv, .float .f64 0, .string ⟨#[]⟩, .slice none 0 0] 28)).heap.size := by simp
      clear H4
      revert hx4 ho5 ho6 hq4 hsz
      generalize World.alloc (World.alloc _ _) _ = w4
      generalize hb6 : wr.heap.size + 1 = b6
      generalize hb5 : wr.heap.size = b5
      intro hx4 ho5 ho6 hq4 hsz
      have hb35 : b3 < b5 := by rw [← hb5]; exact (Array.getElem?_eq_some_iff.1 hob).1
      have a0 : ∀ p : Later w4, p.w.cell? ⟨b3, 4, none⟩ = some vL := fun p => p.cell ((cell_of_row w4 b3 4 _ _ _ hq4).trans rfl)
      have a1 : ∀ p : Later w4, p.w.cell? ⟨b5, 0, none⟩ = some (.string pn) := fun p => p.cell ((cell_of_row w4 b5 0 _ _ _ ho5).trans rfl)
      have a2 : ∀ p : Later w4, p.w.cell? ⟨b5, 1, none⟩ = some (.string pc) := fun p => p.cell ((cell_of_row w4 b5 1 _ _ _ ho5).trans rfl)
      have a3 : ∀ p : Later w4, p.w.cell? ⟨b5, 2, none⟩ = some (.int .i64 sk) := fun p => p.cell ((cell_of_row w4 b5 2 _ _ _ ho5).trans rfl)
      have m0 : ∀ p : Later w4, p.w.cell? ⟨b6, 0, none⟩ = some (.int .i64 1) := fun p => p.cell ((cell_of_row w4 b6 0 _ _ _ ho6).trans rfl)
      have m1 : ∀ p : Later w4, p.w.cell? ⟨b6, 1, none⟩ = some (.int .i64 pv) := fun p => p.cell ((cell_of_row w4 b6 1 _ _ _ ho6).trans rfl)
      have m2 : ∀ p : Later w4, p.w.cell? ⟨b6, 2, none⟩ = some (.float .f64 0) := fun p => p.cell ((cell_of_row w4 b6 2 _ _ _ ho6).trans rfl)
      have m3 : ∀ p : Later w4, p.w.cell? ⟨b6, 3, none⟩ = some (.string ⟨#[]⟩) := fun p => p.cell ((cell_of_row w4 b6 3 _ _ _ ho6).trans rfl)
      have m4 : ∀ p : Later w4, p.w.cell? ⟨b6, 4, none⟩ = some (.slice none 0 0) := fun p => p.cell ((cell_of_row w4 b6 4 _ _ _ ho6).trans rfl)
      obtain ⟨Ar, cr, rfl, _⟩ := hrow.form
      have hbase4 : b3 + 1 ≤ w4.heap.size := by have := hx4.size_le'; omega
      have H5 := Lib.hid (And.intro hx4 (And.intro hq4 (And.intro hb35 (And.intro hb5 hbase4))))
      clear hx4 ho5 ho6 hq4 hb35 hb6 hb5 hob hrow hqp hp hsz
      refine wp_region_rel' 18 (by kernel_rfl) (by kernel_rfl) (fun Fin hFin => ?_)
      simp only [List.take_succ_cons, List.take_zero]
      (refine relGo_p (fun K hK => ?_); go_simp; refine hK _ ?_; clear hK K)
      (refine relGo_p (fun K hK => ?_); go_simp; refine hK _ ?_; clear hK K)
      (refine relGo_p (fun K hK => ?_); go_simp; refine hK _ ?_; clear hK K)
      (refine relGo_p (fun K hK => ?_); go_simp; refine hK _ ?_; clear hK K)
      refine relGo_q (.agg #[.int .i64 3, .int .i64 0, .float .f64 0, .string pn, .slice none 0 0]) ?_ (fun K hK => ?_)
      · intro w' hw'
        go_simp
        refine (text_any _ w').mono ?_
        rintro e w'' ⟨rfl, hx⟩
        exact ⟨rfl, hx⟩
      go_simp; refine hK _ ?_; clear hK K
      (refine relGo_p (fun K hK => ?_); go_simp; refine hK _ ?_; clear hK K)
      (refine relGo_p (fun K hK => ?_); go_simp; refine hK _ ?_; clear hK K)
      refine relGo_q (.agg #[.int .i64 3, .int .i64 0, .float .f64 0, .string pc, .slice none 0 0]) ?_ (fun K hK => ?_)
      · intro w' hw'
        go_simp
        refine (text_any _ w').mono ?_
        rintro e w'' ⟨rfl, hx⟩
        exact ⟨rfl, hx⟩
      go_simp; refine hK _ ?_; clear hK K
      refine relGo_r (IsRow stylesL) (IsRow.later _) ?_ ?_
      · intro w' hw'
        go_simp
        exact row_post (styles_any w')
      (refine relGo_p (fun K hK => ?_); go_simp; refine hK _ ?_; clear hK K)
      (refine relGo_p (fun K hK => ?_); go_simp; refine hK _ ?_; clear hK K)
      refine relGo_r (IsCell (styN sk)) (IsCell.later _) ?_ ?_
      · intro w' hw' v hv
        obtain ⟨A', rfl, hr⟩ : IsRow stylesL v w' := hv (by kernel_rfl)
        obtain ⟨sb, so, rfl, hcell⟩ := hr (by decide)
        have hcs : w'.cell? ⟨sb, so + sk, none⟩ = some (.string (styN sk)) := hcell sk _ (by
          unfold styN
          rw [Int.toNat_natCast, List.getD_eq_getElem?_getD, List.getElem?_eq_getElem (show sk < stylesL.length from hsk)]
          rfl)
        have h3 : (sk : Int) < (stylesL.length : Int) := hs3
        have HS := Lib.hid hcs
        clear hv hr hcell hcs
        go_simp
        exact ⟨_, _, rfl, HS.out⟩
      refine relGo_q (.string (styN sk)) ?_ (fun K hK => ?_)
      · intro w' hw' v hv v2 hv2
        obtain ⟨sb, so, rfl, hcell⟩ : IsCell (styN sk) v2 w' := hv2 (by kernel_rfl)
        clear hv hv2
        go_simp
      go_simp; refine hK _ ?_; clear hK K
      refine relGo_q (.agg #[.int .i64 3, .int .i64 0, .float .f64 0, .string (styN sk), .slice none 0 0]) ?_ (fun K hK => ?_)
      · intro w' hw' v hv v2 hv2
        go_simp
        refine (text_any _ w').mono ?_
        rintro e w'' ⟨rfl, hx⟩
        exact ⟨rfl, hx⟩
      go_simp; refine hK _ ?_; clear hK K
      (refine relGo_p (fun K hK => ?_); go_simp; refine hK _ ?_; clear hK K)
      refine relGo_r (IsBlk (rowcells ⟨pn, pc, sk, pv⟩).toArray 4 w4.heap.size) (IsBlk.later _ _ _) ?_ ?_
      · intro w' hw' v hv v2 hv2
        have hle : w4.heap.size ≤ w'.heap.size := hw'.size_le'
        clear hv hv2
        go_simp
        exact ⟨(Ext.refl w').alloc _, _, rfl, hle, heap_alloc_new w' _⟩
      refine relGo_r (IsHead (rowcells ⟨pn, pc, sk, pv⟩).toArray w4.heap.size) (IsHead.later _ _) ?_ ?_
      · intro w' hw' v hv v2 hv2 v3 hv3
        obtain ⟨q, rfl, hle, hcell⟩ : IsBlk (rowcells ⟨pn, pc, sk, pv⟩).toArray 4 w4.heap.size v3 w' := hv3 (by kernel_rfl)
        have HS := Lib.hid (And.intro hle hcell)
        clear hv hv2 hv3 hcell hle
        go_simp
        exact ⟨_, rfl, HS.out⟩
      refine relGo_r (IsOne (rowcells ⟨pn, pc, sk, pv⟩).toArray w4.heap.size) (IsOne.later _ _) ?_ ?_
      · intro w' hw' v hv v2 hv2 v3 hv3 v4 hv4
        obtain ⟨q, rfl, hle, hcell⟩ : IsHead (rowcells ⟨pn, pc, sk, pv⟩).toArray w4.heap.size v4 w' := hv4 (by kernel_rfl)
        have HS := Lib.hid (And.intro hle hcell)
        clear hv hv2 hv3 hv4 hcell hle
        simp only [vhead]
        go_simp
        exact ⟨(Ext.refl w').alloc _, _, q, rfl, HS.out.1, ((Ext.refl w').alloc _).obj HS.out.2, heap_alloc_new w' _⟩
      refine hFin _ _ (fun w9 hw9 => ?_)
      intro v hv v2 hv2 v3 hv3 v4 hv4 v5 hv5
      obtain ⟨A', rfl, _⟩ : IsRow stylesL v w9 := hv (by kernel_rfl)
      obtain ⟨sb, so, rfl, _⟩ : IsCell (styN sk) v2 w9 := hv2 (by kernel_rfl)
      obtain ⟨q3, rfl, _, _⟩ : IsBlk (rowcells ⟨pn, pc, sk, pv⟩).toArray 4 w4.heap.size v3 w9 := hv3 (by kernel_rfl)
      obtain ⟨q4, rfl, _, _⟩ : IsHead (rowcells ⟨pn, pc, sk, pv⟩).toArray w4.heap.size v4 w9 := hv4 (by kernel_rfl)
      obtain ⟨r, q, rfl, hle, hcell, hcell2⟩ : IsOne (rowcells ⟨pn, pc, sk, pv⟩).toArray w4.heap.size v5 w9 := hv5 (by kernel_rfl)
      clear hFin Fin hv hv2 hv3 hv4 hv5 a0 a1 a2 a3 m0 m1 m2 m3 m4
      obtain ⟨hob, hqs, hrow, hqp, hp⟩ := HQ.out
      obtain ⟨hx4, hq4, hb35, hb5, hbase4⟩ := H5.out
      have hx9 := hx4.trans hw9
      have hrow9 : CRow 28 5 w9 (b3 + 1) (.slice Ar j cr) j (qs.flatMap vhead) := hrow.ext hx9
      have hsrc : Src w9 5 (some ⟨r, 0, none⟩) 1 (vhead q) := Src.at rfl (fun i u hu => by rw [Nat.zero_add, cell_of_row w9 r i _ _ _ hcell2]; simpa using hu) (by
        intro u hu
        simp only [vhead, List.mem_cons, List.not_mem_nil, or_false] at hu
        rcases hu with rfl | rfl | rfl | rfl | rfl <;> rfl)
      have hne : (Value.slice Ar j cr).ownBlock ≠ some q := fun e => by
        have := (hrow.lt q e).2.1
        have := hx4.size_le'
        omega
      have hne3 : (Value.slice Ar j cr).ownBlock ≠ some b3 := fun e => by
        have := (hrow.lt b3 e).1
        omega
      have hb9 : b3 + 1 ≤ w9.heap.size := Nat.le_trans hbase4 hw9.size_le'
      have hq9 := hw9.obj hq4
      have hmm : (2000 : Nat) ≤ maxLen := by decide
      have H9 := Lib.hid (And.intro hrow9 (And.intro hsrc (And.intro hne (And.intro hne3 (And.intro hq9 hx9)))))
      have HP := Lib.hid (show ∀ i q p, qs[i]? = some q → L[i]? = some p → b3 + 1 ≤ q ∧ (Value.slice Ar j cr).ownBlock ≠ some q ∧ w9.heap[q]? = some (.cells (rowcells p).toArray 28 (0, 0)) from fun i q p h1 h2 => ⟨(hqp i q p h1 h2).1, (hqp i q p h1 h2).2.1, hx9.obj (hqp i q p h1 h2).2.2⟩)
      have hle2 : b3 + 1 ≤ q := Nat.le_trans hbase4 hle
      have HZ := Lib.hid (And.intro hqs (And.intro hp (And.intro hcell hle2)))
      clear hle2
      clear hob hqs hrow hqp hp hx4 hq4 hb35 hb5 hbase4 hx9 hrow9 hsrc hne hne3 hq9 hcell hcell2 hle hw9 H5 HQ I
      simp only [fillE, List.drop_succ_cons, List.drop_zero, List.drop_nil]
      go_wp2_with (at_builtin; refine wpList_append_crow rfl (b3 + 1) (.tmp 22) (.tmp 38) 26 rfl Try.underlying26 64 infoV (by omega) (.slice Ar j cr) j (qs.flatMap vhead) (vhead q) (some ⟨r, 0, none⟩) 1 1 rfl rfl H9.out.1 H9.out.2.1 hb9 (by omega) (by omega) ?next)
      case next =>
        intro v1 w1 q1 q2 q3
        have hob1 := (Chg.of_grown q2).obj H9.out.2.2.2.2.1 (fun e => H9.out.2.2.2.1 e.symm)
        have c1 : w1.cell? ⟨b3, 4, none⟩ = some (.slice Ar j cr) := (cell_of_row w1 b3 4 _ _ _ hob1).trans rfl
        have f1 : w1.frozen? ⟨b3, 4, none⟩ = false := by simp [World.frozen?, hob1]
        obtain ⟨hqs, hp, hcell, hle⟩ := HZ.out
        have hL : LstP w1 (b3 + 1) v1 (j + 1) L := LstP.more hqs H9.out.1 HP.out hp hcell hle H9.out.2.2.1 q1 q2 q3
        obtain ⟨A1, n1, rfl, _⟩ := q1.form
        have H10 := Lib.hid (And.intro hL (And.intro hob1 q2))
        clear hL hob1 q1 q2 q3 hqs hp hcell hle
        go_wp2_with fail
        go_roundw
        case rel =>
          obtain ⟨hL, hob1, q2⟩ := H10.out
          have hch : Chg (fun k => k = b3) w1 (w1.setCell ⟨b3, 4, none⟩ (.slice A1 (j + 1) n1)) := (Chg.refl _ _).setCell ⟨b3, 4, none⟩ _ (fun _ => rfl)
          refine ⟨j + 1, by omega, by go_num, ?_, Lib.hid ⟨_, put2' (i := 4) (x := .slice A1 (j + 1) n1) hob1, hL.chg hch (fun k hk e => by omega)⟩⟩
          have h1 : Chg (fun k => k = b3) w2 w9 := (HC.out).ext H9.out.2.2.2.2.2
          have h2 : Chg (fun k => k = b3) w2 w1 := h1.grown q2 (fun k e hk => by
            have := (H9.out.1.lt k e).1
            have := HS2.out
            omega)
          exact h2.trans hch (fun _ _ h => h) (fun _ _ h => h)
        case measure => simp [intOf]; omega
    · obtain rfl : j = L.length := by omega
      have hnl : decide ((L.length : Int) < (L.length : Int)) = false := by simp
      have hL : LstP wr (b3 + 1) vL L.length L := ⟨qs, hqs, hrow, hqp⟩
      obtain ⟨Ar, cr, rfl, _⟩ := hrow.form
      have hoz := hc.obj HB.out.1 (fun e => by have := HN.out.1; have := HN.out.2.1; omega)
      have k0 : wr.cell? ⟨b3, 0, none⟩ = some (.int .i64 4) := (cell_of_row wr b3 0 _ _ _ hob).trans rfl
      have k1 : wr.cell? ⟨b3, 1, none⟩ = some (.int .i64 0) := (cell_of_row wr b3 1 _ _ _ hob).trans rfl
      have k2 : wr.cell? ⟨b3, 2, none⟩ = some (.float .f64 0) := (cell_of_row wr b3 2 _ _ _ hob).trans rfl
      have k3 : wr.cell? ⟨b3, 3, none⟩ = some (.string ⟨#[]⟩) := (cell_of_row wr b3 3 _ _ _ hob).trans rfl
      have k4 : wr.cell? ⟨b3, 4, none⟩ = some (.slice Ar L.length cr) := (cell_of_row wr b3 4 _ _ _ hob).trans rfl
      have m0 : wr.cell? ⟨bx, 0, none⟩ = some (.int .i64 0) := (cell_of_row wr bx 0 _ _ _ hoz).trans rfl
      have m1 : wr.cell? ⟨bx, 1, none⟩ = some (.int .i64 0) := (cell_of_row wr bx 1 _ _ _ hoz).trans rfl
      have m2 : wr.cell? ⟨bx, 2, none⟩ = some (.float .f64 0) := (cell_of_row wr bx 2 _ _ _ hoz).trans rfl
      have m3 : wr.cell? ⟨bx, 3, none⟩ = some (.string ⟨#[]⟩) := (cell_of_row wr bx 3 _ _ _ hoz).trans rfl
      have m4 : wr.cell? ⟨bx, 4, none⟩ = some (.slice none 0 0) := (cell_of_row wr bx 4 _ _ _ hoz).trans rfl
      have f0 : wr.frozen? ⟨bx, 0, none⟩ = false := by simp [World.frozen?, hoz]
      have f1 : wr.frozen? ⟨bx, 1, none⟩ = false := by simp [World.frozen?, hoz]
      have f2 : wr.frozen? ⟨bx, 2, none⟩ = false := by simp [World.frozen?, hoz]
      have f3 : wr.frozen? ⟨bx, 3, none⟩ = false := by simp [World.frozen?, hoz]
      have f4 : wr.frozen? ⟨bx, 4, none⟩ = false := by simp [World.frozen?, hoz]
      have HL := Lib.hid (And.intro hL hoz)
      clear hL hoz hob hrow hqp hqs I hc
      go_wp2_with fail
      obtain ⟨hL, hoz⟩ := HL.out
      have q1 := (put2' (i := 0) (x := .int .i64 4) hoz)
      have q2 := (put2' (i := 1) (x := .int .i64 0) q1)
      have q3 := (put2' (i := 2) (x := .float .f64 0) q2)
      have q4 := (put2' (i := 3) (x := .string ⟨#[]⟩) q3)
      have q5 := (put2' (i := 4) (x := .slice Ar L.length cr) q4)
      have z0 := (cell_of_row _ bx 0 _ _ _ q5)
      have z1 := (cell_of_row _ bx 1 _ _ _ q5)
      have z2 := (cell_of_row _ bx 2 _ _ _ q5)
      have z3 := (cell_of_row _ bx 3 _ _ _ q5)
      have z4 := (cell_of_row _ bx 4 _ _ _ q5)
      have hch : Chg (fun k => k = bx) wr (((((wr.setCell ⟨bx, 0, none⟩ (.int .i64 4)).setCell ⟨bx, 1, none⟩ (.int .i64 0)).setCell ⟨bx, 2, none⟩ (.float .f64 0)).setCell ⟨bx, 3, none⟩ (.string ⟨#[]⟩)).setCell ⟨bx, 4, none⟩ (.slice Ar L.length cr)) :=
        (((((Chg.refl (fun k => k = bx) wr).setCell ⟨bx, 0, none⟩ _ (fun _ => rfl)).setCell ⟨bx, 1, none⟩ _ (fun _ => rfl)).setCell ⟨bx, 2, none⟩ _ (fun _ => rfl)).setCell ⟨bx, 3, none⟩ _ (fun _ => rfl)).setCell ⟨bx, 4, none⟩ _ (fun _ => rfl)
      have hn := HN.out
      have hl2 := hL.chg hch (fun k hk e => by omega)
      have hrd := (LstP.rd hl2 HK.out (S := fun k => k < bx) (fun k hk e => by omega)).2
      have hxx : Ext w (((((wr.setCell ⟨bx, 0, none⟩ (.int .i64 4)).setCell ⟨bx, 1, none⟩ (.int .i64 0)).setCell ⟨bx, 2, none⟩ (.float .f64 0)).setCell ⟨bx, 3, none⟩ (.string ⟨#[]⟩)).setCell ⟨bx, 4, none⟩ (.slice Ar L.length cr)) := by
        have h1 : Ext w wr := Below.trans HA.out ((HC.out).below HA.out.size_le' (fun k hk => by omega))
        exact Below.trans h1 (hch.below h1.size_le' (fun k hk => by omega))
      have hll : (L.map rowT).length = L.length := List.length_map ..
      refine bodyPost_ret (v := .agg #[.int .i64 4, .int .i64 0, .float .f64 0, .string ⟨#[]⟩, .slice Ar L.length cr]) (by simp [results, Try.results22, go_sem, z0, z1, z2, z3, z4]; try rfl) rfl ⟨Ar, cr, by rw [listT, T.val, hll], ?_, hxx⟩
      rw [hn.2.1]
      exact hrd
end Go.Proofs.Ytdcbpnkcpglhhaa
