/- known. -/
import Derived.Test.YtdcbpnkcpglhhaaGrpQ
namespace Go.Proofs.Ytdcbpnkcpglhhaa
open Go.RowKit
set_option linter.unusedVariables false
set_option linter.unusedSimpArgs false
set_option linter.unnecessarySimpa false
attribute [local go_sem] stepR givesR fillE Ext.refl run_store_float

theorem vtexts_at : ∀ (zs : List ByteArray) (j u : Nat) (z : ByteArray), zs[j]? = some z → u < 5 → (zs.flatMap vtext)[j * 5 + u]? = (vtext z)[u]?
  | [], j, u, z, h, _ => by simp at h
  | z' :: zs, 0, u, z, h, hu => by
    simp at h
    subst h
    simp only [List.flatMap_cons, Nat.zero_mul, Nat.zero_add]
    rw [List.getElem?_append_left (by simp [vtext]; omega)]
  | z' :: zs, j + 1, u, z, h, hu => by
    have e : (j + 1) * 5 + u = 5 + (j * 5 + u) := by omega
    simp only [List.flatMap_cons]
    rw [e, List.getElem?_append_right (by simp [vtext])]
    have e2 : 5 + (j * 5 + u) - (vtext z').length = j * 5 + u := by simp [vtext]
    rw [e2]
    exact vtexts_at zs j u z (by simpa using h) hu
/-- texts in a new row -/
theorem texts_rds {w : World} {S : Nat → Prop} {q c : Nat} {T0 : TypeId} (zs : List ByteArray) (hq : w.heap[q]? = some (.cells (zs.flatMap vtext).toArray T0 (0, 0))) (hS : ¬ S q) (hz : ∀ z ∈ zs, z.size ≤ 1000) (hc : zs.length ≤ c) (hc2 : c ≤ 1000) : Rds w S 1 (some ⟨q, 0, none⟩) c (zs.map textT) := by
  have hm : 1000 ≤ maxLen := by decide
  refine ⟨by simpa using hc, by omega, fun h0 => ⟨q, 0, rfl, hS, fun j t ht => ?_⟩⟩
  rw [List.getElem?_map] at ht
  obtain ⟨z, hzj, rfl⟩ := Option.map_eq_some_iff.1 ht
  have hk : ∀ u, u < 5 → w.cell? ⟨q, 0 + j * 5 + u, none⟩ = (vtext z)[u]? := fun u hu => by
    rw [cell_of_row w q _ _ _ _ hq, Nat.zero_add, List.getElem?_toArray, vtexts_at zs j u z hzj hu]
  exact ⟨none, 0, ⟨hk 0 (by omega), hk 1 (by omega), hk 2 (by omega), hk 3 (by omega), hk 4 (by omega)⟩, Rd.leaf (by simp only [inI]; decide) (by simp only [inI]; decide) (Nat.le_trans (hz z (List.mem_of_getElem? hzj)) hm) 0⟩
theorem Dr.below {T0 : TypeId} {w w' : World} {base g : Nat} {v : Value} {L : List Gp} (h : Dr T0 w base g v L) (hb : base ≤ w.heap.size) (hc : Chg (fun k => k = g ∨ some k = v.ownBlock) w w') : Below base w w' :=
  hc.below hb (fun k hk => by
    rcases hk with rfl | hk
    · exact h.low
    · exact (CRow.lt h.row k hk.symm).1)
theorem do_texts {w : World} {base g : Nat} {v : Value} {L : List Gp} {q c : Nat} {m : ByteArray} {r : List Gp × T × Int} {T0 : TypeId} (zs : List ByteArray) (h : Dr 57 w base g v L) (hbase : base ≤ w.heap.size) (hq : w.heap[q]? = some (.cells (zs.flatMap vtext).toArray T0 (0, 0))) (hqg : v.ownBlock ≠ some q) (hz : ∀ z ∈ zs, z.size ≤ 1000) (hc : zs.length ≤ c) (hc2 : c ≤ 1000) (hr : DoG L m (zs.map textT) = r) :
    Calls Try.prog 7 #[.pointer (some ⟨g, 0, none⟩), .string m, .slice (some ⟨q, 0, none⟩) zs.length c] w (DoP 57 w base g v r) := by
  have T1 := do_any (m := m) h hbase (texts_rds (S := fun k => v.ownBlock = some k) zs hq hqg hz hc hc2) (fun k hk => hk)
  rw [hr, List.length_map] at T1
  exact T1
/-- no argument at all -/
theorem do_none {w : World} {base g : Nat} {v : Value} {L : List Gp} {m : ByteArray} {r : List Gp × T × Int} (h : Dr 57 w base g v L) (hbase : base ≤ w.heap.size) (hr : DoG L m [] = r) :
    Calls Try.prog 7 #[.pointer (some ⟨g, 0, none⟩), .string m, .slice none 0 0] w (DoP 57 w base g v r) := by
  have T1 := do_any (m := m) (ts := []) (A := none) (c := 0) (n := 0) (S := fun k => v.ownBlock = some k) h hbase ⟨Nat.le_refl _, Nat.zero_le _, fun h0 => absurd h0 (Nat.lt_irrefl 0)⟩ (fun k hk => hk)
  rw [hr] at T1
  exact T1
def bA : ByteArray := ⟨#[97]⟩
def gA : Gp := ⟨bA, bQueue, 0, 1⟩
theorem known_1 : DoG [] bCreate [textT bA, textT bQueue, textT bActive] = ([gA], nilT, 0) := by
  rw [do_create (chk3 (by decide) (by decide) (by decide)), create_ok (by decide) (by decide) (by decide) classS_queue styS_active (by decide) rfl (by decide)]
  rfl
theorem gA_srt : Srt [gA] := List.pairwise_singleton _ _
theorem known_2 : DoG [gA] bCreate [textT bA, textT bQueue, textT bCold] = ([gA], nilT, 32) := by
  rw [do_create (chk3 (by decide) (by decide) (by decide)), create_is (by decide) (by decide) (by decide) classS_queue styS_cold (by decide) (show hasN [gA] bA = true from gA_srt.hasN_at (i := 0) (p := gA) rfl)]
set_option maxRecDepth 1000000 in
set_option maxHeartbeats 4000000 in
theorem known_any (w : World) : Calls Try.prog 5 #[] w (RetX (.bool true) w) := by
  have N1 := new_any w
  have hx0 := (Ext.refl w).alloc (.cells #[.slice none 0 0] 57)
  have hd0 := new_dir (base := w.heap.size) (heap_alloc_new w (.cells #[.slice none 0 0] 57)) (Nat.le_refl _)
  have H0 := Lib.hid (And.intro hx0 hd0)
  clear hx0 hd0
  go_enter Try.func5, Try.ntmps5
  go_wp2_with fail
  refine N1.mono ?_
  rintro e w1 ⟨rfl, rfl⟩
  have hx0 := H0.out.1
  have hd0 := H0.out.2
  clear H0 N1
  revert hx0 hd0
  generalize World.alloc _ _ = w1
  generalize hg : w.heap.size = g
  intro hx0 hd0
  have H1 := Lib.hid (And.intro hx0 (And.intro hd0 hg))
  clear hx0 hd0 hg
  go_wp2_with fail
  have HG := Lib.hid (Nat.le_of_eq H1.out.2.2)
  have H2 := Lib.hid (And.intro H1.out.1 H1.out.2.1)
  clear H1
  refine (rtext_any _ _).mono ?_
  rintro e y0 ⟨rfl, x0⟩
  go_wp2_with fail
  refine (rtext_any _ _).mono ?_
  rintro e y1 ⟨rfl, x1⟩
  go_wp2_with fail
  refine (rtext_any _ _).mono ?_
  rintro e y2 ⟨rfl, x2⟩
  have hy := H2.out.1.trans (x0.trans (x1.trans x2))
  have hd := H2.out.2.ext (x0.trans (x1.trans x2))
  have hx5 := (Ext.refl y2).alloc (.cells ([bA, bQueue, bActive].flatMap vtext).toArray 28)
  have T2 := do_texts (c := 3) (m := bCreate) [bA, bQueue, bActive] (hd.ext hx5) (Nat.le_of_lt (hd.ext hx5).lt) (heap_alloc_new y2 (.cells ([bA, bQueue, bActive].flatMap vtext).toArray 28)) (fun e => absurd (CRow.lt hd.row _ e).2.1 (Nat.lt_irrefl _)) (by decide) (by decide) (by decide) known_1
  have HH := Lib.hid (And.intro (hy.trans hx5) (hd.ext hx5))
  clear hy hd hx5 x0 x1 x2 H2
  go_wp2_with fail
  refine T2.mono ?_
  rintro e y3 ⟨v5, A5, c5, rfl, hd5, hr5, hc5, hf5⟩
  have hz := Below.trans HH.out.1 ((HH.out.2.below (Nat.le_of_lt HH.out.2.lt) hc5).mono HG.out)
  simp only [nilT, T.val, List.length_nil]
  have HK := Lib.hid (And.intro hz hd5)
  clear T2 HH hd5 hr5 hc5 hf5 hz
  go_wp2_with fail
  have hxa := (Ext.refl y3).alloc (.cells #[.int .i64 0, .int .i64 0, .float .f64 0, .string ⟨#[]⟩, .slice A5 0 c5] 28)
  have H3 : Hid (Ext w (y3.alloc (.cells #[.int .i64 0, .int .i64 0, .float .f64 0, .string ⟨#[]⟩, .slice A5 0 c5] 28)) ∧ Dr 57 (y3.alloc (.cells #[.int .i64 0, .int .i64 0, .float .f64 0, .string ⟨#[]⟩, .slice A5 0 c5] 28)) g g v5 [gA]) := Lib.hid (And.intro (Ext.trans HK.out.1 hxa) (HK.out.2.ext hxa))
  clear hxa HK
  generalize hyb : y3.heap.size = yb4
  clear hyb
  generalize World.alloc y3 _ = y4 at *
  refine (rtext_any _ _).mono ?_
  rintro e u0 ⟨rfl, x0⟩
  go_wp2_with fail
  refine (rtext_any _ _).mono ?_
  rintro e u1 ⟨rfl, x1⟩
  go_wp2_with fail
  refine (rtext_any _ _).mono ?_
  rintro e u2 ⟨rfl, x2⟩
  have hy := H3.out.1.trans (x0.trans (x1.trans x2))
  have hd := H3.out.2.ext (x0.trans (x1.trans x2))
  have hx5 := (Ext.refl u2).alloc (.cells ([bA, bQueue, bCold].flatMap vtext).toArray 28)
  have T2 := do_texts (c := 3) (m := bCreate) [bA, bQueue, bCold] (hd.ext hx5) (Nat.le_of_lt (hd.ext hx5).lt) (heap_alloc_new u2 (.cells ([bA, bQueue, bCold].flatMap vtext).toArray 28)) (fun e => absurd (CRow.lt hd.row _ e).2.1 (Nat.lt_irrefl _)) (by decide) (by decide) (by decide) known_2
  have HH := Lib.hid (And.intro (hy.trans hx5) (hd.ext hx5))
  clear hy hd hx5 x0 x1 x2 H3
  go_wp2_with fail
  refine T2.mono ?_
  rintro e u3 ⟨v6, A6, c6, rfl, hd5, hr5, hc5, hf5⟩
  have hz := Below.trans HH.out.1 ((HH.out.2.below (Nat.le_of_lt HH.out.2.lt) hc5).mono HG.out)
  simp only [nilT, T.val, List.length_nil]
  have HK := Lib.hid (And.intro hz hd5)
  clear T2 HH hd5 hr5 hc5 hf5 hz
  go_wp2_with fail
  have hxa := (Ext.refl u3).alloc (.cells #[.int .i64 0, .int .i64 0, .float .f64 0, .string ⟨#[]⟩, .slice A6 0 c6] 28)
  have H5 : Hid (Ext w (u3.alloc (.cells #[.int .i64 0, .int .i64 0, .float .f64 0, .string ⟨#[]⟩, .slice A6 0 c6] 28)) ∧ Dr 57 (u3.alloc (.cells #[.int .i64 0, .int .i64 0, .float .f64 0, .string ⟨#[]⟩, .slice A6 0 c6] 28)) g g v6 [gA]) := Lib.hid (And.intro (Ext.trans HK.out.1 hxa) (HK.out.2.ext hxa))
  clear hxa HK
  generalize hyb : u3.heap.size = yb5
  clear hyb
  generalize World.alloc u3 _ = y6 at *
  have T3 := do_none (m := bList) H5.out.2 (Nat.le_of_lt H5.out.2.lt) (do_list (L := [gA]))
  go_wp2_with fail
  refine T3.mono ?_
  rintro e y7 ⟨v7, A7, c7, rfl, hd7, hr7, hc7, hf7⟩
  have hz := Below.trans H5.out.1 ((H5.out.2.below (Nat.le_of_lt H5.out.2.lt) hc7).mono HG.out)
  have hll : ([gA].map rowT).length = 1 := rfl
  simp only [listT, T.val, hll]
  have hxa := (Ext.refl y7).alloc (.cells #[.int .i64 4, .int .i64 0, .float .f64 0, .string ⟨#[]⟩, .slice A7 1 c7] 28)
  have G1 := get_any (hd7.ext hxa) bA
  have e1 : getG [gA] bA = gA := gA_srt.getG_at (i := 0) (p := gA) rfl
  have e2 : hasN [gA] bA = true := gA_srt.hasN_at (i := 0) (p := gA) rfl
  rw [e1, e2] at G1
  have HK := Lib.hid (And.intro (Ext.trans hz hxa) (heap_alloc_new y7 (.cells #[.int .i64 4, .int .i64 0, .float .f64 0, .string ⟨#[]⟩, .slice A7 1 c7] 28)))
  clear hxa hz hd7 hr7 hc7 hf7 hll e1 e2 T3
  go_wp2_with fail
  refine G1.mono ?_
  rintro e y8 ⟨rfl, hx8⟩
  have ob8 := hx8.obj HK.out.2
  have c4 : y8.cell? ⟨y7.heap.size, 4, none⟩ = some (.slice A7 1 c7) := (cell_of_row y8 _ 4 _ _ _ ob8).trans rfl
  have hxb := (Ext.refl y8).alloc (.cells #[.string bA, .string bQueue, .int .i64 0, .int .u32 1] 36)
  have c5' := hxb.cell c4
  have ob9 := heap_alloc_new y8 (.cells #[.string bA, .string bQueue, .int .i64 0, .int .u32 1] 36)
  have d0 : (y8.alloc (.cells #[.string bA, .string bQueue, .int .i64 0, .int .u32 1] 36)).cell? ⟨y8.heap.size, 0, none⟩ = some (.string bA) := (cell_of_row _ _ 0 _ _ _ ob9).trans rfl
  have HL := Lib.hid (Ext.trans (Ext.trans HK.out.1 hx8) hxb)
  simp only [gA, Gp.val]
  clear hx8 ob8 ob9 hxb
  have hA : bA.toList = [97] := by rw [Lib.toList_data]; rfl
  have hQ : bQueue.toList = [113, 117, 101, 117, 101] := by rw [Lib.toList_data]; rfl
  go_wp2_with fail
  go_ret
  exact ⟨rfl, HL.out⟩
end Go.Proofs.Ytdcbpnkcpglhhaa
