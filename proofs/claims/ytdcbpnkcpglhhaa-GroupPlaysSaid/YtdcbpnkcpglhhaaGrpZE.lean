/- What an act calls: the walk. -/
import Derived.Test.YtdcbpnkcpglhhaaGrpZD
import Derived.Test.YtdcbpnkcpglhhaaGrpU
namespace Go.Proofs.Ytdcbpnkcpglhhaa
open Go.RowKit
set_option linter.unusedVariables false
set_option linter.unusedSimpArgs false
set_option linter.unnecessarySimpa false
attribute [local go_sem] stepR givesR fillE Ext.refl run_store_float

def IsV (base : Nat) (hs : List TH) (v : Value) (w : World) : Prop := CRow 28 5 w base v hs.length (hcells hs)
theorem IsV.later (base : Nat) (hs : List TH) : ∀ v w w', IsV base hs v w → Ext w w' → IsV base hs v w' := fun v w w' h hx => CRow.ext h hx
set_option maxRecDepth 1000000 in
set_option maxHeartbeats 8000000 in
theorem call_any {w : World} {S : Nat → Prop} {n : Nat} {A : Option Addr} {c : Nat} {L : List T} (M Nm K : Nat) (hM : M ≤ 255) (hN : Nm ≤ 255) (hK : K ≤ 255) (h : Rds w S n A c L) (hl : L.length ≤ 40) :
    Calls Try.prog 12 #[.agg #[.int .u8 M, .int .u8 Nm, .int .u8 K, .slice A L.length c]] w (CallPost w S n) := by
  have H := Lib.hid h
  have hlc := h.1
  clear h
  obtain ⟨q, hq, hq20⟩ : ∃ q : Nat, (97 + (Nm : Int) % 20) = 97 + (q : Int) ∧ q < 20 := ⟨Nm % 20, by omega, by omega⟩
  obtain ⟨j7, hj7, hl7⟩ : ∃ j : Nat, (K : Int) % 7 = (j : Int) ∧ j < 7 := ⟨K % 7, by omega, by omega⟩
  obtain ⟨j4, hj4, hl4⟩ : ∃ j : Nat, (K : Int) / 8 % 4 = (j : Int) ∧ j < 4 := ⟨K / 8 % 4, by omega, by omega⟩
  obtain ⟨j5, hj5, hl5⟩ : ∃ j : Nat, (K : Int) % 5 = (j : Int) ∧ j < 5 := ⟨K % 5, by omega, by omega⟩
  have hx0 := (Ext.refl w).alloc (.cells #[.int .u8 M, .int .u8 Nm, .int .u8 K, .slice A L.length c] 48)
  have o0 := heap_alloc_new w (.cells #[.int .u8 M, .int .u8 Nm, .int .u8 K, .slice A L.length c] 48)
  have o1 := heap_alloc_new (w.alloc (.cells #[.int .u8 M, .int .u8 Nm, .int .u8 K, .slice A L.length c] 48)) (.cells #[.int .u8 (97 + (Nm : Int) % 20)] 5)
  have hx1 := (Ext.refl (w.alloc (.cells #[.int .u8 M, .int .u8 Nm, .int .u8 K, .slice A L.length c] 48))).alloc (.cells #[.int .u8 (97 + (Nm : Int) % 20)] 5)
  rw [show ∀ o, (w.alloc o).heap.size = w.heap.size + 1 from fun o => by simp] at o1
  have V1 := conv_one (c := q) ((cell_of_row _ (w.heap.size + 1) 0 _ _ _ o1).trans (by rw [hq]; rfl))
  obtain ⟨s1, hs1, hz1⟩ : ∃ s1 : ByteArray, s1 = ⟨#[UInt8.ofNat (97 + q)]⟩ ∧ s1.size = 1 := ⟨_, rfl, rfl⟩
  rw [← hs1] at V1
  have HS : Hid ((⟨#[103]⟩ : ByteArray) ++ s1 = nmB (97 + q)) := Lib.hid (by rw [hs1]; exact gcat_nm q)
  have HA := Lib.hid (And.intro (hx0.trans hx1) (hx1.obj o0))
  have hcv2 : IntKind.u8.wrap (97 + (Nm : Int) % 20) = 97 + (Nm : Int) % 20 := by
    have e : IntKind.u8.wrap (97 + (Nm : Int) % 20) = (97 + (Nm : Int) % 20) % 256 := rfl
    rw [e]; omega
  clear hs1 hq o1 hx1 o0 hx0
  go_enter Try.func12, Try.ntmps12
  go_wp2_with fail
  have hnm := HS.out
  clear HS V1 hz1
  revert hnm
  generalize (⟨#[103]⟩ : ByteArray) ++ s1 = nm
  intro hnm
  have HM : Hid (nm.size ≤ 1000) := Lib.hid (by rw [hnm]; exact Nat.le_trans (nm32 _) (by decide))
  clear hnm
  have hA1 := HA.out.1
  have hA2 := HA.out.2
  clear HA
  revert hA1 hA2
  generalize World.alloc (World.alloc _ _) _ = wA
  generalize hbx : w.heap.size = bx
  intro hA1 hA2
  refine (rtext_any _ _).mono ?_
  rintro e y0 ⟨rfl, x0⟩
  obtain ⟨sc, hsc⟩ : ∃ sc, sc = l7.getD j7 ⟨#[]⟩ := ⟨_, rfl⟩
  have z0 := (Ext.refl y0).alloc (.cells #[.int .i64 3, .int .i64 0, .float .f64 0, .string nm, .slice none 0 0] 28)
  have z1 := (Ext.refl (y0.alloc (.cells #[.int .i64 3, .int .i64 0, .float .f64 0, .string nm, .slice none 0 0] 28))).alloc (.cells (l7.map Value.string).toArray 9)
  have p0 := newcell (y0.alloc (.cells #[.int .i64 3, .int .i64 0, .float .f64 0, .string nm, .slice none 0 0] 28)) l7 9 j7 hl7
  have HSC := Lib.hid hsc
  rw [← hsc, show ∀ o, (y0.alloc o).heap.size = y0.heap.size + 1 from fun o => by simp] at p0
  have p1 : ((y0.alloc (.cells #[.int .i64 3, .int .i64 0, .float .f64 0, .string nm, .slice none 0 0] 28)).alloc (.cells (l7.map Value.string).toArray 9)).cell? ⟨bx, 2, none⟩ = some (.int .u8 K) := (cell_of_row _ bx 2 _ _ _ (z1.obj (z0.obj (x0.obj hA2)))).trans rfl
  simp only [l7, List.map_cons, List.map_nil] at p0 p1
  have HB := Lib.hid (And.intro (hA1.trans (x0.trans (z0.trans z1))) (And.intro (z1.obj (z0.obj (x0.obj hA2))) (z1.obj (heap_alloc_new y0 (.cells #[.int .i64 3, .int .i64 0, .float .f64 0, .string nm, .slice none 0 0] 28)))))
  have hk7 : ((j7 : Int) < 0) = False := by simp
  have hk7' : (j7 : Int) < 7 := by omega
  clear x0 z0 z1 hA1 hA2 hsc
  go_wp2_with fail
  have hB := HB.out
  simp only [l7, List.map_cons, List.map_nil] at hB
  clear HB p0 p1
  revert hB
  generalize World.alloc (World.alloc y0 _) _ = wB
  generalize y0.heap.size = b4
  intro hB
  obtain ⟨hB1, hB2, hB3⟩ := hB
  refine (rtext_any _ _).mono ?_
  rintro e y1 ⟨rfl, x1⟩
  obtain ⟨ss, hss⟩ : ∃ ss, ss = l4.getD j4 ⟨#[]⟩ := ⟨_, rfl⟩
  have z0 := (Ext.refl y1).alloc (.cells #[.int .i64 3, .int .i64 0, .float .f64 0, .string sc, .slice none 0 0] 28)
  have z1 := (Ext.refl (y1.alloc (.cells #[.int .i64 3, .int .i64 0, .float .f64 0, .string sc, .slice none 0 0] 28))).alloc (.cells (l4.map Value.string).toArray 9)
  have p0 := newcell (y1.alloc (.cells #[.int .i64 3, .int .i64 0, .float .f64 0, .string sc, .slice none 0 0] 28)) l4 9 j4 hl4
  have HSS := Lib.hid hss
  rw [← hss, show ∀ o, (y1.alloc o).heap.size = y1.heap.size + 1 from fun o => by simp] at p0
  have p1 : ((y1.alloc (.cells #[.int .i64 3, .int .i64 0, .float .f64 0, .string sc, .slice none 0 0] 28)).alloc (.cells (l4.map Value.string).toArray 9)).cell? ⟨bx, 2, none⟩ = some (.int .u8 K) := (cell_of_row _ bx 2 _ _ _ (z1.obj (z0.obj (x1.obj hB2)))).trans rfl
  simp only [l4, List.map_cons, List.map_nil] at p0 p1
  have HB := Lib.hid (And.intro (hB1.trans (x1.trans (z0.trans z1))) (And.intro (z1.obj (z0.obj (x1.obj hB2))) (And.intro (z1.obj (z0.obj (x1.obj hB3))) (z1.obj (heap_alloc_new y1 (.cells #[.int .i64 3, .int .i64 0, .float .f64 0, .string sc, .slice none 0 0] 28))))))
  have hk4 : ((j4 : Int) < 0) = False := by simp
  have hk4' : (j4 : Int) < 4 := by omega
  clear x1 z0 z1 hB1 hB2 hB3 hss
  go_wp2_with fail
  have hB := HB.out
  simp only [l4, List.map_cons, List.map_nil] at hB
  clear HB p0 p1
  revert hB
  generalize World.alloc (World.alloc y1 _) _ = wC
  generalize y1.heap.size = b5
  intro hB
  obtain ⟨hB1, hB2, hB3, hB4⟩ := hB
  refine (rtext_any _ _).mono ?_
  rintro e y2 ⟨rfl, x2⟩
  have z0 := (Ext.refl y2).alloc (.cells #[.int .i64 3, .int .i64 0, .float .f64 0, .string ss, .slice none 0 0] 28)
  have p1 : (y2.alloc (.cells #[.int .i64 3, .int .i64 0, .float .f64 0, .string ss, .slice none 0 0] 28)).cell? ⟨bx, 0, none⟩ = some (.int .u8 M) := (cell_of_row _ bx 0 _ _ _ (z0.obj (x2.obj hB2))).trans rfl
  have hz : ∀ z, z = nm ∨ z = sc ∨ z = ss → z.size ≤ 1000 := by
    intro z hz
    rcases hz with rfl | rfl | rfl
    · exact HM.out
    · rw [HSC.out]; exact l_size l7 (by decide) _
    · rw [HSS.out]; exact l_size l4 (by decide) _
  have HB := Lib.hid (And.intro (hB1.trans (x2.trans z0)) (And.intro (z0.obj (x2.obj hB2)) (And.intro (z0.obj (x2.obj hB3)) (And.intro (z0.obj (x2.obj hB4)) (heap_alloc_new y2 (.cells #[.int .i64 3, .int .i64 0, .float .f64 0, .string ss, .slice none 0 0] 28))))))
  have HZ := Lib.hid hz
  clear hz x2 z0 hB1 hB2 hB3 hB4 hk4 hk4' hk7 hk7' hj4 hj7
  have hm : (M : Int) % 8 = 0 ∨ (M : Int) % 8 = 1 ∨ (M : Int) % 8 = 2 ∨ (M : Int) % 8 = 3 ∨ (M : Int) % 8 = 4 ∨ (M : Int) % 8 = 5 ∨ (M : Int) % 8 = 6 ∨ (M : Int) % 8 = 7 := by omega
  rcases hm with hm | hm | hm | hm | hm | hm | hm | hm
  · go_wp2_with fail
    have hB := HB.out
    clear HB p1
    revert hB
    generalize World.alloc y2 _ = Y
    generalize y2.heap.size = b6
    intro hB
    obtain ⟨hB1, hB2, hB3, hB4, hB5⟩ := hB
    have a0 : ∀ p : Later Y, p.w.cell? ⟨b4, 0, none⟩ = some (.int .i64 3) := fun p => p.cell ((cell_of_row Y b4 0 _ _ _ hB3).trans rfl)
    have a1 : ∀ p : Later Y, p.w.cell? ⟨b4, 1, none⟩ = some (.int .i64 0) := fun p => p.cell ((cell_of_row Y b4 1 _ _ _ hB3).trans rfl)
    have a2 : ∀ p : Later Y, p.w.cell? ⟨b4, 2, none⟩ = some (.float .f64 0) := fun p => p.cell ((cell_of_row Y b4 2 _ _ _ hB3).trans rfl)
    have a3 : ∀ p : Later Y, p.w.cell? ⟨b4, 3, none⟩ = some (.string nm) := fun p => p.cell ((cell_of_row Y b4 3 _ _ _ hB3).trans rfl)
    have a4 : ∀ p : Later Y, p.w.cell? ⟨b4, 4, none⟩ = some (.slice none 0 0) := fun p => p.cell ((cell_of_row Y b4 4 _ _ _ hB3).trans rfl)
    have d0 : ∀ p : Later Y, p.w.cell? ⟨b5, 0, none⟩ = some (.int .i64 3) := fun p => p.cell ((cell_of_row Y b5 0 _ _ _ hB4).trans rfl)
    have d1 : ∀ p : Later Y, p.w.cell? ⟨b5, 1, none⟩ = some (.int .i64 0) := fun p => p.cell ((cell_of_row Y b5 1 _ _ _ hB4).trans rfl)
    have d2 : ∀ p : Later Y, p.w.cell? ⟨b5, 2, none⟩ = some (.float .f64 0) := fun p => p.cell ((cell_of_row Y b5 2 _ _ _ hB4).trans rfl)
    have d3 : ∀ p : Later Y, p.w.cell? ⟨b5, 3, none⟩ = some (.string sc) := fun p => p.cell ((cell_of_row Y b5 3 _ _ _ hB4).trans rfl)
    have d4 : ∀ p : Later Y, p.w.cell? ⟨b5, 4, none⟩ = some (.slice none 0 0) := fun p => p.cell ((cell_of_row Y b5 4 _ _ _ hB4).trans rfl)
    have f0 : ∀ p : Later Y, p.w.cell? ⟨b6, 0, none⟩ = some (.int .i64 3) := fun p => p.cell ((cell_of_row Y b6 0 _ _ _ hB5).trans rfl)
    have f1 : ∀ p : Later Y, p.w.cell? ⟨b6, 1, none⟩ = some (.int .i64 0) := fun p => p.cell ((cell_of_row Y b6 1 _ _ _ hB5).trans rfl)
    have f2 : ∀ p : Later Y, p.w.cell? ⟨b6, 2, none⟩ = some (.float .f64 0) := fun p => p.cell ((cell_of_row Y b6 2 _ _ _ hB5).trans rfl)
    have f3 : ∀ p : Later Y, p.w.cell? ⟨b6, 3, none⟩ = some (.string ss) := fun p => p.cell ((cell_of_row Y b6 3 _ _ _ hB5).trans rfl)
    have f4 : ∀ p : Later Y, p.w.cell? ⟨b6, 4, none⟩ = some (.slice none 0 0) := fun p => p.cell ((cell_of_row Y b6 4 _ _ _ hB5).trans rfl)
    have HY := Lib.hid hB1
    clear hB1 hB2 hB3 hB4 hB5
    refine wp_region_rel' 6 (by kernel_rfl) (by kernel_rfl) (fun Fin hFin => ?_)
    simp only [List.take_succ_cons, List.take_zero]
    (refine relGo_p (fun K hK => ?_); go_simp; refine hK _ ?_; clear hK K)
    (refine relGo_p (fun K hK => ?_); go_simp; refine hK _ ?_; clear hK K)
    (refine relGo_p (fun K hK => ?_); go_simp; refine hK _ ?_; clear hK K)
    refine relGo_r (IsBlk ([nm, sc, ss].flatMap vtext).toArray 3 Y.heap.size) (IsBlk.later _ _ _) ?_ ?_
    · intro w' hw'
      go_simp
      exact ⟨(Ext.refl w').alloc _, _, rfl, hw'.size_le', heap_alloc_new w' _⟩
    (refine relGo_p (fun K hK => ?_); go_simp; refine hK _ ?_; clear hK K)
    refine relGo_r (IsBlk ([nm, sc, ss].flatMap vtext).toArray 3 Y.heap.size) (IsBlk.later _ _ _) ?_ ?_
    · intro w' hw' v hv
      obtain ⟨q, rfl, hle, hcell⟩ : IsBlk ([nm, sc, ss].flatMap vtext).toArray 3 Y.heap.size v w' := hv (by kernel_rfl)
      have HS := Lib.hid (And.intro hle hcell)
      clear hv hle hcell
      go_simp
      exact ⟨_, rfl, HS.out⟩
    refine hFin _ _ (fun w9 hw9 => ?_)
    intro v1 hv1 v2 hv2
    obtain ⟨q1, rfl, _, _⟩ : IsBlk ([nm, sc, ss].flatMap vtext).toArray 3 Y.heap.size v1 w9 := hv1 (by kernel_rfl)
    obtain ⟨q2, rfl, hle, hcell⟩ : IsBlk ([nm, sc, ss].flatMap vtext).toArray 3 Y.heap.size v2 w9 := hv2 (by kernel_rfl)
    have HR := Lib.hid (And.intro hle (And.intro hcell hw9))
    clear hFin Fin hv1 hv2 hle hcell hw9
    simp only [fillE, List.drop_succ_cons, List.drop_zero, List.drop_nil]
    go_wp2_with fail
    go_ret2
    exact ⟨_, _, _, [nm, sc, ss].map textT, rfl, texts_rdn [nm, sc, ss] HR.out.2.1 (fun hk => by have := hk.2; have := HR.out.1; have := HY.out.size_le'; omega) (fun z hzz => HZ.out z (by simpa using hzz)) (Nat.le_refl 3) (by decide), HY.out.trans HR.out.2.2⟩
  · go_wp2_with fail
    have hB := HB.out
    clear HB p1
    revert hB
    generalize World.alloc y2 _ = Y
    generalize y2.heap.size = b6
    intro hB
    obtain ⟨hB1, hB2, hB3, hB4, hB5⟩ := hB
    have a0 : ∀ p : Later Y, p.w.cell? ⟨b4, 0, none⟩ = some (.int .i64 3) := fun p => p.cell ((cell_of_row Y b4 0 _ _ _ hB3).trans rfl)
    have a1 : ∀ p : Later Y, p.w.cell? ⟨b4, 1, none⟩ = some (.int .i64 0) := fun p => p.cell ((cell_of_row Y b4 1 _ _ _ hB3).trans rfl)
    have a2 : ∀ p : Later Y, p.w.cell? ⟨b4, 2, none⟩ = some (.float .f64 0) := fun p => p.cell ((cell_of_row Y b4 2 _ _ _ hB3).trans rfl)
    have a3 : ∀ p : Later Y, p.w.cell? ⟨b4, 3, none⟩ = some (.string nm) := fun p => p.cell ((cell_of_row Y b4 3 _ _ _ hB3).trans rfl)
    have a4 : ∀ p : Later Y, p.w.cell? ⟨b4, 4, none⟩ = some (.slice none 0 0) := fun p => p.cell ((cell_of_row Y b4 4 _ _ _ hB3).trans rfl)
    have d0 : ∀ p : Later Y, p.w.cell? ⟨b5, 0, none⟩ = some (.int .i64 3) := fun p => p.cell ((cell_of_row Y b5 0 _ _ _ hB4).trans rfl)
    have d1 : ∀ p : Later Y, p.w.cell? ⟨b5, 1, none⟩ = some (.int .i64 0) := fun p => p.cell ((cell_of_row Y b5 1 _ _ _ hB4).trans rfl)
    have d2 : ∀ p : Later Y, p.w.cell? ⟨b5, 2, none⟩ = some (.float .f64 0) := fun p => p.cell ((cell_of_row Y b5 2 _ _ _ hB4).trans rfl)
    have d3 : ∀ p : Later Y, p.w.cell? ⟨b5, 3, none⟩ = some (.string sc) := fun p => p.cell ((cell_of_row Y b5 3 _ _ _ hB4).trans rfl)
    have d4 : ∀ p : Later Y, p.w.cell? ⟨b5, 4, none⟩ = some (.slice none 0 0) := fun p => p.cell ((cell_of_row Y b5 4 _ _ _ hB4).trans rfl)
    have f0 : ∀ p : Later Y, p.w.cell? ⟨b6, 0, none⟩ = some (.int .i64 3) := fun p => p.cell ((cell_of_row Y b6 0 _ _ _ hB5).trans rfl)
    have f1 : ∀ p : Later Y, p.w.cell? ⟨b6, 1, none⟩ = some (.int .i64 0) := fun p => p.cell ((cell_of_row Y b6 1 _ _ _ hB5).trans rfl)
    have f2 : ∀ p : Later Y, p.w.cell? ⟨b6, 2, none⟩ = some (.float .f64 0) := fun p => p.cell ((cell_of_row Y b6 2 _ _ _ hB5).trans rfl)
    have f3 : ∀ p : Later Y, p.w.cell? ⟨b6, 3, none⟩ = some (.string ss) := fun p => p.cell ((cell_of_row Y b6 3 _ _ _ hB5).trans rfl)
    have f4 : ∀ p : Later Y, p.w.cell? ⟨b6, 4, none⟩ = some (.slice none 0 0) := fun p => p.cell ((cell_of_row Y b6 4 _ _ _ hB5).trans rfl)
    have HY := Lib.hid hB1
    clear hB1 hB2 hB3 hB4 hB5
    refine wp_region_rel' 6 (by kernel_rfl) (by kernel_rfl) (fun Fin hFin => ?_)
    simp only [List.take_succ_cons, List.take_zero]
    (refine relGo_p (fun K hK => ?_); go_simp; refine hK _ ?_; clear hK K)
    (refine relGo_p (fun K hK => ?_); go_simp; refine hK _ ?_; clear hK K)
    (refine relGo_p (fun K hK => ?_); go_simp; refine hK _ ?_; clear hK K)
    refine relGo_r (IsBlk ([nm, sc, ss].flatMap vtext).toArray 3 Y.heap.size) (IsBlk.later _ _ _) ?_ ?_
    · intro w' hw'
      go_simp
      exact ⟨(Ext.refl w').alloc _, _, rfl, hw'.size_le', heap_alloc_new w' _⟩
    (refine relGo_p (fun K hK => ?_); go_simp; refine hK _ ?_; clear hK K)
    refine relGo_r (IsBlk ([nm, sc, ss].flatMap vtext).toArray 3 Y.heap.size) (IsBlk.later _ _ _) ?_ ?_
    · intro w' hw' v hv
      obtain ⟨q, rfl, hle, hcell⟩ : IsBlk ([nm, sc, ss].flatMap vtext).toArray 3 Y.heap.size v w' := hv (by kernel_rfl)
      have HS := Lib.hid (And.intro hle hcell)
      clear hv hle hcell
      go_simp
      exact ⟨_, rfl, HS.out⟩
    refine hFin _ _ (fun w9 hw9 => ?_)
    intro v1 hv1 v2 hv2
    obtain ⟨q1, rfl, _, _⟩ : IsBlk ([nm, sc, ss].flatMap vtext).toArray 3 Y.heap.size v1 w9 := hv1 (by kernel_rfl)
    obtain ⟨q2, rfl, hle, hcell⟩ : IsBlk ([nm, sc, ss].flatMap vtext).toArray 3 Y.heap.size v2 w9 := hv2 (by kernel_rfl)
    have HR := Lib.hid (And.intro hle (And.intro hcell hw9))
    clear hFin Fin hv1 hv2 hle hcell hw9
    simp only [fillE, List.drop_succ_cons, List.drop_zero, List.drop_nil]
    go_wp2_with fail
    go_ret2
    exact ⟨_, _, _, [nm, sc, ss].map textT, rfl, texts_rdn [nm, sc, ss] HR.out.2.1 (fun hk => by have := hk.2; have := HR.out.1; have := HY.out.size_le'; omega) (fun z hzz => HZ.out z (by simpa using hzz)) (Nat.le_refl 3) (by decide), HY.out.trans HR.out.2.2⟩
  · go_wp2_with fail
    have hB := HB.out
    clear HB p1
    revert hB
    generalize World.alloc y2 _ = Y
    generalize y2.heap.size = b6
    intro hB
    obtain ⟨hB1, hB2, hB3, hB4, hB5⟩ := hB
    have a0 : ∀ p : Later Y, p.w.cell? ⟨b4, 0, none⟩ = some (.int .i64 3) := fun p => p.cell ((cell_of_row Y b4 0 _ _ _ hB3).trans rfl)
    have a1 : ∀ p : Later Y, p.w.cell? ⟨b4, 1, none⟩ = some (.int .i64 0) := fun p => p.cell ((cell_of_row Y b4 1 _ _ _ hB3).trans rfl)
    have a2 : ∀ p : Later Y, p.w.cell? ⟨b4, 2, none⟩ = some (.float .f64 0) := fun p => p.cell ((cell_of_row Y b4 2 _ _ _ hB3).trans rfl)
    have a3 : ∀ p : Later Y, p.w.cell? ⟨b4, 3, none⟩ = some (.string nm) := fun p => p.cell ((cell_of_row Y b4 3 _ _ _ hB3).trans rfl)
    have a4 : ∀ p : Later Y, p.w.cell? ⟨b4, 4, none⟩ = some (.slice none 0 0) := fun p => p.cell ((cell_of_row Y b4 4 _ _ _ hB3).trans rfl)
    have d0 : ∀ p : Later Y, p.w.cell? ⟨b5, 0, none⟩ = some (.int .i64 3) := fun p => p.cell ((cell_of_row Y b5 0 _ _ _ hB4).trans rfl)
    have d1 : ∀ p : Later Y, p.w.cell? ⟨b5, 1, none⟩ = some (.int .i64 0) := fun p => p.cell ((cell_of_row Y b5 1 _ _ _ hB4).trans rfl)
    have d2 : ∀ p : Later Y, p.w.cell? ⟨b5, 2, none⟩ = some (.float .f64 0) := fun p => p.cell ((cell_of_row Y b5 2 _ _ _ hB4).trans rfl)
    have d3 : ∀ p : Later Y, p.w.cell? ⟨b5, 3, none⟩ = some (.string sc) := fun p => p.cell ((cell_of_row Y b5 3 _ _ _ hB4).trans rfl)
    have d4 : ∀ p : Later Y, p.w.cell? ⟨b5, 4, none⟩ = some (.slice none 0 0) := fun p => p.cell ((cell_of_row Y b5 4 _ _ _ hB4).trans rfl)
    have f0 : ∀ p : Later Y, p.w.cell? ⟨b6, 0, none⟩ = some (.int .i64 3) := fun p => p.cell ((cell_of_row Y b6 0 _ _ _ hB5).trans rfl)
    have f1 : ∀ p : Later Y, p.w.cell? ⟨b6, 1, none⟩ = some (.int .i64 0) := fun p => p.cell ((cell_of_row Y b6 1 _ _ _ hB5).trans rfl)
    have f2 : ∀ p : Later Y, p.w.cell? ⟨b6, 2, none⟩ = some (.float .f64 0) := fun p => p.cell ((cell_of_row Y b6 2 _ _ _ hB5).trans rfl)
    have f3 : ∀ p : Later Y, p.w.cell? ⟨b6, 3, none⟩ = some (.string ss) := fun p => p.cell ((cell_of_row Y b6 3 _ _ _ hB5).trans rfl)
    have f4 : ∀ p : Later Y, p.w.cell? ⟨b6, 4, none⟩ = some (.slice none 0 0) := fun p => p.cell ((cell_of_row Y b6 4 _ _ _ hB5).trans rfl)
    have HY := Lib.hid hB1
    clear hB1 hB2 hB3 hB4 hB5
    refine wp_region_rel' 6 (by kernel_rfl) (by kernel_rfl) (fun Fin hFin => ?_)
    simp only [List.take_succ_cons, List.take_zero]
    (refine relGo_p (fun K hK => ?_); go_simp; refine hK _ ?_; clear hK K)
    (refine relGo_p (fun K hK => ?_); go_simp; refine hK _ ?_; clear hK K)
    (refine relGo_p (fun K hK => ?_); go_simp; refine hK _ ?_; clear hK K)
    refine relGo_r (IsBlk ([nm, sc, ss].flatMap vtext).toArray 3 Y.heap.size) (IsBlk.later _ _ _) ?_ ?_
    · intro w' hw'
      go_simp
      exact ⟨(Ext.refl w').alloc _, _, rfl, hw'.size_le', heap_alloc_new w' _⟩
    (refine relGo_p (fun K hK => ?_); go_simp; refine hK _ ?_; clear hK K)
    refine relGo_r (IsBlk ([nm, sc, ss].flatMap vtext).toArray 3 Y.heap.size) (IsBlk.later _ _ _) ?_ ?_
    · intro w' hw' v hv
      obtain ⟨q, rfl, hle, hcell⟩ : IsBlk ([nm, sc, ss].flatMap vtext).toArray 3 Y.heap.size v w' := hv (by kernel_rfl)
      have HS := Lib.hid (And.intro hle hcell)
      clear hv hle hcell
      go_simp
      exact ⟨_, rfl, HS.out⟩
    refine hFin _ _ (fun w9 hw9 => ?_)
    intro v1 hv1 v2 hv2
    obtain ⟨q1, rfl, _, _⟩ : IsBlk ([nm, sc, ss].flatMap vtext).toArray 3 Y.heap.size v1 w9 := hv1 (by kernel_rfl)
    obtain ⟨q2, rfl, hle, hcell⟩ : IsBlk ([nm, sc, ss].flatMap vtext).toArray 3 Y.heap.size v2 w9 := hv2 (by kernel_rfl)
    have HR := Lib.hid (And.intro hle (And.intro hcell hw9))
    clear hFin Fin hv1 hv2 hle hcell hw9
    simp only [fillE, List.drop_succ_cons, List.drop_zero, List.drop_nil]
    go_wp2_with fail
    go_ret2
    exact ⟨_, _, _, [nm, sc, ss].map textT, rfl, texts_rdn [nm, sc, ss] HR.out.2.1 (fun hk => by have := hk.2; have := HR.out.1; have := HY.out.size_le'; omega) (fun z hzz => HZ.out z (by simpa using hzz)) (Nat.le_refl 3) (by decide), HY.out.trans HR.out.2.2⟩
  · go_wp2_with fail
    have hB := HB.out
    clear HB p1
    revert hB
    generalize World.alloc y2 _ = Y
    generalize y2.heap.size = b6
    intro hB
    obtain ⟨hB1, hB2, hB3, hB4, hB5⟩ := hB
    have a0 : ∀ p : Later Y, p.w.cell? ⟨b4, 0, none⟩ = some (.int .i64 3) := fun p => p.cell ((cell_of_row Y b4 0 _ _ _ hB3).trans rfl)
    have a1 : ∀ p : Later Y, p.w.cell? ⟨b4, 1, none⟩ = some (.int .i64 0) := fun p => p.cell ((cell_of_row Y b4 1 _ _ _ hB3).trans rfl)
    have a2 : ∀ p : Later Y, p.w.cell? ⟨b4, 2, none⟩ = some (.float .f64 0) := fun p => p.cell ((cell_of_row Y b4 2 _ _ _ hB3).trans rfl)
    have a3 : ∀ p : Later Y, p.w.cell? ⟨b4, 3, none⟩ = some (.string nm) := fun p => p.cell ((cell_of_row Y b4 3 _ _ _ hB3).trans rfl)
    have a4 : ∀ p : Later Y, p.w.cell? ⟨b4, 4, none⟩ = some (.slice none 0 0) := fun p => p.cell ((cell_of_row Y b4 4 _ _ _ hB3).trans rfl)
    have HY := Lib.hid hB1
    clear hB1 hB2 hB3 hB4 hB5
    refine wp_region_rel' 4 (by kernel_rfl) (by kernel_rfl) (fun Fin hFin => ?_)
    simp only [List.take_succ_cons, List.take_zero]
    (refine relGo_p (fun K hK => ?_); go_simp; refine hK _ ?_; clear hK K)
    refine relGo_r (IsBlk ([nm].flatMap vtext).toArray 1 Y.heap.size) (IsBlk.later _ _ _) ?_ ?_
    · intro w' hw'
      go_simp
      exact ⟨(Ext.refl w').alloc _, _, rfl, hw'.size_le', heap_alloc_new w' _⟩
    (refine relGo_p (fun K hK => ?_); go_simp; refine hK _ ?_; clear hK K)
    refine relGo_r (IsBlk ([nm].flatMap vtext).toArray 1 Y.heap.size) (IsBlk.later _ _ _) ?_ ?_
    · intro w' hw' v hv
      obtain ⟨q, rfl, hle, hcell⟩ : IsBlk ([nm].flatMap vtext).toArray 1 Y.heap.size v w' := hv (by kernel_rfl)
      have HS := Lib.hid (And.intro hle hcell)
      clear hv hle hcell
      go_simp
      exact ⟨_, rfl, HS.out⟩
    refine hFin _ _ (fun w9 hw9 => ?_)
    intro v1 hv1 v2 hv2
    obtain ⟨q1, rfl, _, _⟩ : IsBlk ([nm].flatMap vtext).toArray 1 Y.heap.size v1 w9 := hv1 (by kernel_rfl)
    obtain ⟨q2, rfl, hle, hcell⟩ : IsBlk ([nm].flatMap vtext).toArray 1 Y.heap.size v2 w9 := hv2 (by kernel_rfl)
    have HR := Lib.hid (And.intro hle (And.intro hcell hw9))
    clear hFin Fin hv1 hv2 hle hcell hw9
    simp only [fillE, List.drop_succ_cons, List.drop_zero, List.drop_nil]
    go_wp2_with fail
    go_ret2
    exact ⟨_, _, _, [nm].map textT, rfl, texts_rdn [nm] HR.out.2.1 (fun hk => by have := hk.2; have := HR.out.1; have := HY.out.size_le'; omega) (fun z hzz => HZ.out z (.inl (by simpa using hzz))) (Nat.le_refl 1) (by decide), HY.out.trans HR.out.2.2⟩
  · go_wp2_with fail
    have hB := HB.out
    clear HB p1
    revert hB
    generalize World.alloc y2 _ = Y
    generalize y2.heap.size = b6
    intro hB
    obtain ⟨hB1, hB2, hB3, hB4, hB5⟩ := hB
    have a0 : ∀ p : Later Y, p.w.cell? ⟨b4, 0, none⟩ = some (.int .i64 3) := fun p => p.cell ((cell_of_row Y b4 0 _ _ _ hB3).trans rfl)
    have a1 : ∀ p : Later Y, p.w.cell? ⟨b4, 1, none⟩ = some (.int .i64 0) := fun p => p.cell ((cell_of_row Y b4 1 _ _ _ hB3).trans rfl)
    have a2 : ∀ p : Later Y, p.w.cell? ⟨b4, 2, none⟩ = some (.float .f64 0) := fun p => p.cell ((cell_of_row Y b4 2 _ _ _ hB3).trans rfl)
    have a3 : ∀ p : Later Y, p.w.cell? ⟨b4, 3, none⟩ = some (.string nm) := fun p => p.cell ((cell_of_row Y b4 3 _ _ _ hB3).trans rfl)
    have a4 : ∀ p : Later Y, p.w.cell? ⟨b4, 4, none⟩ = some (.slice none 0 0) := fun p => p.cell ((cell_of_row Y b4 4 _ _ _ hB3).trans rfl)
    have f0 : ∀ p : Later Y, p.w.cell? ⟨b6, 0, none⟩ = some (.int .i64 3) := fun p => p.cell ((cell_of_row Y b6 0 _ _ _ hB5).trans rfl)
    have f1 : ∀ p : Later Y, p.w.cell? ⟨b6, 1, none⟩ = some (.int .i64 0) := fun p => p.cell ((cell_of_row Y b6 1 _ _ _ hB5).trans rfl)
    have f2 : ∀ p : Later Y, p.w.cell? ⟨b6, 2, none⟩ = some (.float .f64 0) := fun p => p.cell ((cell_of_row Y b6 2 _ _ _ hB5).trans rfl)
    have f3 : ∀ p : Later Y, p.w.cell? ⟨b6, 3, none⟩ = some (.string ss) := fun p => p.cell ((cell_of_row Y b6 3 _ _ _ hB5).trans rfl)
    have f4 : ∀ p : Later Y, p.w.cell? ⟨b6, 4, none⟩ = some (.slice none 0 0) := fun p => p.cell ((cell_of_row Y b6 4 _ _ _ hB5).trans rfl)
    have HY := Lib.hid hB1
    clear hB1 hB2 hB3 hB4 hB5
    refine wp_region_rel' 5 (by kernel_rfl) (by kernel_rfl) (fun Fin hFin => ?_)
    simp only [List.take_succ_cons, List.take_zero]
    (refine relGo_p (fun K hK => ?_); go_simp; refine hK _ ?_; clear hK K)
    (refine relGo_p (fun K hK => ?_); go_simp; refine hK _ ?_; clear hK K)
    refine relGo_r (IsBlk ([nm, ss].flatMap vtext).toArray 2 Y.heap.size) (IsBlk.later _ _ _) ?_ ?_
    · intro w' hw'
      go_simp
      exact ⟨(Ext.refl w').alloc _, _, rfl, hw'.size_le', heap_alloc_new w' _⟩
    (refine relGo_p (fun K hK => ?_); go_simp; refine hK _ ?_; clear hK K)
    refine relGo_r (IsBlk ([nm, ss].flatMap vtext).toArray 2 Y.heap.size) (IsBlk.later _ _ _) ?_ ?_
    · intro w' hw' v hv
      obtain ⟨q, rfl, hle, hcell⟩ : IsBlk ([nm, ss].flatMap vtext).toArray 2 Y.heap.size v w' := hv (by kernel_rfl)
      have HS := Lib.hid (And.intro hle hcell)
      clear hv hle hcell
      go_simp
      exact ⟨_, rfl, HS.out⟩
    refine hFin _ _ (fun w9 hw9 => ?_)
    intro v1 hv1 v2 hv2
    obtain ⟨q1, rfl, _, _⟩ : IsBlk ([nm, ss].flatMap vtext).toArray 2 Y.heap.size v1 w9 := hv1 (by kernel_rfl)
    obtain ⟨q2, rfl, hle, hcell⟩ : IsBlk ([nm, ss].flatMap vtext).toArray 2 Y.heap.size v2 w9 := hv2 (by kernel_rfl)
    have HR := Lib.hid (And.intro hle (And.intro hcell hw9))
    clear hFin Fin hv1 hv2 hle hcell hw9
    simp only [fillE, List.drop_succ_cons, List.drop_zero, List.drop_nil]
    go_wp2_with fail
    go_ret2
    exact ⟨_, _, _, [nm, ss].map textT, rfl, texts_rdn [nm, ss] HR.out.2.1 (fun hk => by have := hk.2; have := HR.out.1; have := HY.out.size_le'; omega) (fun z hzz => HZ.out z (by rcases (show z = nm ∨ z = ss by simpa using hzz) with e | e; exact .inl e; exact .inr (.inr e))) (Nat.le_refl 2) (by decide), HY.out.trans HR.out.2.2⟩
  · have HB2 := HB.out.1
    go_wp2_with fail
    go_ret2
    exact ⟨_, none, 0, [], rfl, ⟨Nat.le_refl _, Nat.zero_le _, fun h0 => absurd h0 (Nat.lt_irrefl 0)⟩, HB2⟩
  · go_wp2_with fail
    have hB := HB.out
    clear HB p1
    revert hB
    generalize World.alloc y2 _ = Y
    generalize y2.heap.size = b6
    intro hB
    obtain ⟨hB1, hB2, hB3, hB4, hB5⟩ := hB
    have a2 : ∀ p : Later Y, p.w.cell? ⟨bx, 2, none⟩ = some (.int .u8 K) := fun p => p.cell ((cell_of_row Y bx 2 _ _ _ hB2).trans rfl)
    have a3 : ∀ p : Later Y, p.w.cell? ⟨bx, 3, none⟩ = some (.slice A L.length c) := fun p => p.cell ((cell_of_row Y bx 3 _ _ _ hB2).trans rfl)
    have HY := Lib.hid hB1
    clear hB1 hB2 hB3 hB4 hB5
    have hk5 : ((j5 : Int) < 0) = False := by simp
    have hk5' : (j5 : Int) < 5 := by omega
    have hj5' : (K : Int).tmod 5 = (j5 : Int) := by rw [Int.tmod_eq_emod_of_nonneg (by omega)]; exact hj5
    refine wp_region_rel' 10 (by kernel_rfl) (by kernel_rfl) (fun Fin hFin => ?_)
    simp only [List.take_succ_cons, List.take_zero]
    refine relGo_r (IsRow l5) (IsRow.later _) ?_ ?_
    · intro w' hw'
      go_simp
      exact ⟨(Ext.refl w').alloc _, _, rfl, newrow w' l5 9⟩
    (refine relGo_p (fun K hK => ?_); go_simp; refine hK _ ?_; clear hK K)
    (refine relGo_p (fun K hK => ?_); go_simp; refine hK _ ?_; clear hK K)
    (refine relGo_p (fun K hK => ?_); go_simp; refine hK _ ?_; clear hK K)
    refine relGo_r (IsCell (l5.getD j5 ⟨#[]⟩)) (IsCell.later _) ?_ ?_
    · intro w' hw' v hv
      obtain ⟨A', rfl, hr⟩ : IsRow l5 v w' := hv (by kernel_rfl)
      obtain ⟨sb, so, rfl, hcell⟩ := hr (by decide)
      have hcs : w'.cell? ⟨sb, so + j5, none⟩ = some (.string (l5.getD j5 ⟨#[]⟩)) := hcell j5 _ (by
        rw [List.getD_eq_getElem?_getD, List.getElem?_eq_getElem (show j5 < l5.length from hl5)]
        rfl)
      have h3 : (j5 : Int) < (l5.length : Int) := hk5'
      have HS := Lib.hid hcs
      clear hv hr hcell hcs
      go_simp
      exact ⟨_, _, rfl, HS.out⟩
    refine relGo_q (.string (l5.getD j5 ⟨#[]⟩)) ?_ (fun K hK => ?_)
    · intro w' hw' v hv v2 hv2
      obtain ⟨sb, so, rfl, hcell⟩ : IsCell (l5.getD j5 ⟨#[]⟩) v2 w' := hv2 (by kernel_rfl)
      clear hv hv2
      go_simp
    go_simp; refine hK _ ?_; clear hK K
    (refine relGo_p (fun K hK => ?_); go_simp; refine hK _ ?_; clear hK K)
    (refine relGo_p (fun K hK => ?_); go_simp; refine hK _ ?_; clear hK K)
    (refine relGo_p (fun K hK => ?_); go_simp; refine hK _ ?_; clear hK K)
    (refine relGo_p (fun K hK => ?_); go_simp; refine hK _ ?_; clear hK K)
    refine hFin _ _ (fun w9 hw9 => ?_)
    intro v hv v2 hv2
    obtain ⟨A', rfl, _⟩ : IsRow l5 v w9 := hv (by kernel_rfl)
    obtain ⟨sb, so, rfl, _⟩ : IsCell (l5.getD j5 ⟨#[]⟩) v2 w9 := hv2 (by kernel_rfl)
    have HR := Lib.hid (HY.out.trans hw9)
    clear hFin Fin hv hv2 hw9 a2 a3
    simp only [fillE, List.drop_succ_cons, List.drop_zero, List.drop_nil]
    go_wp2_with fail
    go_ret2
    exact ⟨_, _, _, L, rfl, H.out.weak HR.out (fun k _ hk => hk.1), HR.out⟩
  · go_wp2_with fail
    have hB := HB.out
    clear HB p1
    revert hB
    generalize World.alloc y2 _ = Y
    generalize y2.heap.size = b6
    intro hB
    obtain ⟨hB1, hB2, hB3, hB4, hB5⟩ := hB
    have a0 : ∀ p : Later Y, p.w.cell? ⟨b4, 0, none⟩ = some (.int .i64 3) := fun p => p.cell ((cell_of_row Y b4 0 _ _ _ hB3).trans rfl)
    have a1 : ∀ p : Later Y, p.w.cell? ⟨b4, 1, none⟩ = some (.int .i64 0) := fun p => p.cell ((cell_of_row Y b4 1 _ _ _ hB3).trans rfl)
    have a2 : ∀ p : Later Y, p.w.cell? ⟨b4, 2, none⟩ = some (.float .f64 0) := fun p => p.cell ((cell_of_row Y b4 2 _ _ _ hB3).trans rfl)
    have a3 : ∀ p : Later Y, p.w.cell? ⟨b4, 3, none⟩ = some (.string nm) := fun p => p.cell ((cell_of_row Y b4 3 _ _ _ hB3).trans rfl)
    have a4 : ∀ p : Later Y, p.w.cell? ⟨b4, 4, none⟩ = some (.slice none 0 0) := fun p => p.cell ((cell_of_row Y b4 4 _ _ _ hB3).trans rfl)
    have k3 : ∀ p : Later Y, p.w.cell? ⟨bx, 3, none⟩ = some (.slice A L.length c) := fun p => p.cell ((cell_of_row Y bx 3 _ _ _ hB2).trans rfl)
    have HY := Lib.hid hB1
    clear hB1 hB2 hB3 hB4 hB5
    obtain ⟨hs, hsL, hsR, hsrc⟩ := H.out.heads
    have hlen : hs.length = L.length := by rw [← hsL, List.length_map]
    have HSrc : Hid (Src w 5 A L.length (hcells hs)) := Lib.hid ⟨by rw [hcells_length, hlen], ⟨hsrc.1, ⟨hsrc.2, hcells_one hs⟩⟩⟩
    have HH := Lib.hid (And.intro hsL (And.intro hsR hlen))
    clear hsL hsR hsrc hlen
    have hmm : 2000 ≤ maxLen := by decide
    refine wp_region_rel' 5 (by kernel_rfl) (by kernel_rfl) (fun Fin hFin => ?_)
    simp only [List.take_succ_cons, List.take_zero]
    (refine relGo_p (fun K hK => ?_); go_simp; refine hK _ ?_; clear hK K)
    (refine relGo_p (fun K hK => ?_); go_simp; refine hK _ ?_; clear hK K)
    refine relGo_r (IsV Y.heap.size hs) (IsV.later _ _) ?_ ?_
    · intro w' hw'
      refine stepR_append_full rfl Y.heap.size (.const (.slice none 0 0)) (.tmp 63) 26 rfl Try.underlying26 64 infoV (by omega) none 0 [] (hcells hs) A L.length c rfl (by simp [Act.eval, Act.put]) (CRow.nil w' _) (HSrc.out.ext (HY.out.trans hw')) hw'.size_le' (by omega) (by omega) ?_
      intro v2 w2 q1 q2 q3
      show CRow _ 5 w2 _ v2 _ _
      rw [HH.out.2.2]
      simpa using q1
    (refine relGo_p (fun K hK => ?_); go_simp; refine hK _ ?_; clear hK K)
    refine relGo_r (IsBlk ([nm].flatMap vtext).toArray 1 Y.heap.size) (IsBlk.later _ _ _) ?_ ?_
    · intro w' hw' v hv
      go_simp
      exact ⟨(Ext.refl w').alloc _, _, rfl, hw'.size_le', heap_alloc_new w' _⟩
    refine hFin _ _ (fun w9 hw9 => ?_)
    intro v1 hv1 v2 hv2
    have hrow : CRow 28 5 w9 Y.heap.size v1 L.length (hcells hs) := by
      rw [← HH.out.2.2]
      exact hv1 (by kernel_rfl)
    obtain ⟨q2, rfl, hle, hcell⟩ : IsBlk ([nm].flatMap vtext).toArray 1 Y.heap.size v2 w9 := hv2 (by kernel_rfl)
    obtain ⟨A6, c6, rfl, _⟩ := hrow.form
    have hsrc2 : Src w9 5 (some ⟨q2, 0, none⟩) 1 (vtext nm) := Src.at rfl (fun i u hu => by rw [Nat.zero_add, cell_of_row w9 q2 i _ _ _ hcell]; simpa using hu) (by
      intro u hu
      simp only [vtext, List.mem_cons, List.not_mem_nil, or_false] at hu
      rcases hu with rfl | rfl | rfl | rfl | rfl <;> rfl)
    have HR := Lib.hid (And.intro hrow (And.intro hsrc2 hw9))
    have hb9 := hw9.size_le'
    clear hFin Fin hv1 hv2 hle hcell hrow hsrc2 hw9 a0 a1 a2 a3 a4 k3
    simp only [fillE, List.drop_succ_cons, List.drop_zero, List.drop_nil]
    go_wp2_with (at_builtin; refine wpList_append_crow rfl Y.heap.size (.tmp 64) (.tmp 66) 26 rfl Try.underlying26 64 infoV (by omega) (.slice A6 L.length c6) L.length (hcells hs) (vtext nm) (some ⟨q2, 0, none⟩) 1 1 rfl rfl HR.out.1 HR.out.2.1 hb9 (by omega) (by omega) ?next)
    case next =>
      intro v1 w1 q1 q2' q3
      have e1 : hcells hs ++ vtext nm = hcells (hs ++ [(textT nm, none, 0)]) := by simp [hcells, vtext, textT, T.cells]
      rw [e1] at q1
      have hx1 : Ext Y w1 := Below.trans HR.out.2.2 ((Chg.of_grown q2').below hb9 (fun k hk => (HR.out.1.lt k hk.symm).1))
      have q4 : CRow 28 5 w1 Y.heap.size v1 (hs ++ [((textT nm, none, 0) : TH)]).length (hcells (hs ++ [(textT nm, none, 0)])) := by
        have e : (hs ++ [((textT nm, none, 0) : TH)]).length = L.length + 1 := by simp [HH.out.2.2]
        rw [e]
        exact q1
      obtain ⟨A7, c7, rfl, _⟩ := q4.form
      have hrd : ∀ x ∈ hs ++ [((textT nm, none, 0) : TH)], Rd w1 (fun k => S k ∧ k < w.heap.size) (n + 1) x.1 x.2.1 x.2.2 := fun x hxm => by
        rcases List.mem_append.1 hxm with hxm | hxm
        · exact Rd.up n _ _ _ (Rd.chg (Chg.of_ext (HY.out.trans hx1)) (fun _ _ h => h.elim) (fun k _ hk => hk.1) n _ _ _ (HH.out.2.1 x hxm))
        · obtain rfl := List.mem_singleton.1 hxm
          exact Rd.leaf (by simp only [inI]; decide) (by simp only [inI]; decide) (Nat.le_trans (HZ.out nm (.inl rfl)) (by decide)) n
      have hrs := rds_of q4 hrd (fun k hk hk2 => by have := hk2.2; have := HY.out.size_le'; omega)
      have HW := Lib.hid (And.intro hrs (HY.out.trans hx1))
      clear q1 q2' q3 q4 hrd hrs hx1
      go_wp2_with fail
      go_ret2
      have e9 : ((hs ++ [((textT nm, none, 0) : TH)]).map (·.1)).length = hs.length + 1 := by simp
      refine ⟨⟨#[99, 114, 101, 97, 116, 101]⟩, A7, c7, (hs ++ [((textT nm, none, 0) : TH)]).map (·.1), ?_, HW.out.1.2, HW.out.2⟩
      rw [e9]
      rfl
end Go.Proofs.Ytdcbpnkcpglhhaa
