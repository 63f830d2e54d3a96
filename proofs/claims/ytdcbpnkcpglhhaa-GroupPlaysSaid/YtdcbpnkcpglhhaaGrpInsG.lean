/- slices.Insert of one element ahead of the end: no room. -/
import Derived.Test.YtdcbpnkcpglhhaaGrpInsR
namespace Go.Proofs.Ytdcbpnkcpglhhaa
open Go.RowKit
set_option linter.unusedVariables false
set_option linter.unusedSimpArgs false

set_option maxRecDepth 100000 in
set_option maxHeartbeats 2000000 in
theorem insert_grow (w : World) (r n c base i vb vc : Nat) (cs vs : List Value) (h : CRow 36 4 w base (.slice (some ⟨r, 0, none⟩) n c) n cs) (hbase : base ≤ w.heap.size) (hone : ∀ u ∈ cs, u.oneCell' = true) (hi : i < n) (hn : n ≤ 1000) (hroom : c < n + 1)
    (hv : w.heap[vb]? = some (.cells vs.toArray 36 (0, 0))) (hvl : vs.length = 4) (hvo : ∀ u ∈ vs, u.oneCell' = true) :
    Calls Try.prog 41 #[.slice (some ⟨r, 0, none⟩) n c, .int .i64 i, .slice (some ⟨vb, 0, none⟩) 1 vc] w (InsPost w base (.slice (some ⟨r, 0, none⟩) n c) n i cs vs) := by
  obtain ⟨g, cur, hgr, hb, hg, hnc, hcs, hcm, hlen, htk⟩ := h.block (by simp)
  simp only [Option.some.injEq, Addr.mk.injEq, and_true] at hgr
  subst hgr
  have hmm : maxLen ≤ 9223372036854775807 := by decide
  have hmm2 : 2000 ≤ maxLen := by decide
  have e1 : (n - i) * 4 + i * 4 = n * 4 := by rw [← Nat.add_mul]; congr 1; omega
  have e2 : (i + 1) * 4 = i * 4 + 4 := by rw [Nat.add_mul, Nat.one_mul]
  have e3 : (n + 1) * 4 = n * 4 + 4 := by rw [Nat.add_mul, Nat.one_mul]
  have htl : (cs.drop (i * 4)).length = (n - i) * 4 := by rw [List.length_drop, hlen]; omega
  have hth : (cs.take (i * 4)).length = i * 4 := by rw [List.length_take, hlen]; omega
  have hsz : (Try.prog.info? 36).map (·.size) = some 4 := by kernel_rfl
  have hrlt : r < w.heap.size := (Array.getElem?_eq_some_iff.1 hg).1
  have hvlt : vb < w.heap.size := (Array.getElem?_eq_some_iff.1 hv).1
  have hInfo : (Try.prog.info? 36).map (fun i => (i.zero, i.size, i.bytes)) = some (some (.agg #[.string ⟨#[]⟩, .string ⟨#[]⟩, .int .i64 0, .int .u32 0]), 4, 48) := by kernel_rfl
  obtain ⟨i0, hi0, hz0, hzs, hzb⟩ := info_parts hInfo
  have hcell : ∀ j u, cs[j]? = some u → w.cell? ⟨r, j, none⟩ = some u := fun j u hu => by
    have hj : j < n * 4 := by have := (List.getElem?_eq_some_iff.1 hu).1; omega
    rw [cell_of_row w r _ cur 36 (0, 0) hg, ← hu, ← htk, List.getElem?_take, if_pos hj]
    simp
  have hold : (Builtin.firstCells i0.size i (.slice (some ⟨r, 0, none⟩) i c)).run Try.prog w.drew = .ok (cs.take (i * 4)).toArray w.drew := by
    rw [hzs]
    exact run_firstCells_some w.drew 4 i ⟨r, 0, none⟩ i c (cs.take (i * 4)) hth (fun j u hu => by
      rw [Addr.add_lit, Nat.zero_add]
      rw [List.getElem?_take] at hu
      split at hu
      · exact hcell j u hu
      · cases hu)
  have hik : i + (n + 1 - i) = n + 1 := by omega
  have hkk : (n : Int) + 1 - (i : Int) = ((n + 1 - i : Nat) : Int) := by omega
  have hrz : ∀ ty, (Builtin.append_ #[39, 3] ty #[.slice (some ⟨r, 0, none⟩) i c, .int .i64 ((n : Int) + 1 - (i : Int))]).run Try.prog w =
      .ok (.slice (some ⟨w.heap.size, 0, none⟩) (n + 1) (grownCap w (n + 1) c 36)) (w.drew.alloc (.cells ((cs.take (i * 4)).toArray ++ Builtin.zeroCells (.agg #[.string ⟨#[]⟩, .string ⟨#[]⟩, .int .i64 0, .int .u32 0] : Value).cells (n + 1 - i) ++ Builtin.zeroCells (.agg #[.string ⟨#[]⟩, .string ⟨#[]⟩, .int .i64 0, .int .u32 0] : Value).cells (grownCap w (n + 1) c 36 - (n + 1))) 36)) := fun ty => by
    have h := Lib.run_append_grow_zeros w 39 3 ty 36 i0 _ .i64 .i64 Try.underlying39 Try.underlying3 hi0 hz0 (some ⟨r, 0, none⟩) i c (cs.take (i * 4)) hold (n + 1 - i) (by omega) (by omega) (by omega) (by omega) (by rw [hzb]; omega) (by rw [hzb, hik]; exact growslice_fits hroom (by omega))
    rw [hik] at h
    rw [hkk]
    exact h
  obtain ⟨G, hG⟩ : ∃ G, G = grownCap w (n + 1) c 36 := ⟨_, rfl⟩
  obtain ⟨ROW, hROW⟩ : ∃ ROW : Array Value, ROW = (cs.take (i * 4)).toArray ++ Builtin.zeroCells (.agg #[.string ⟨#[]⟩, .string ⟨#[]⟩, .int .i64 0, .int .u32 0] : Value).cells (n + 1 - i) ++ Builtin.zeroCells (.agg #[.string ⟨#[]⟩, .string ⟨#[]⟩, .int .i64 0, .int .u32 0] : Value).cells (G - (n + 1)) := ⟨_, rfl⟩
  rw [← hG] at hrz
  rw [← hROW] at hrz
  have hGn : n + 1 ≤ G := by rw [hG]; exact grownCap_ge w _ _ _
  have hGm : G ≤ maxLen := by rw [hG]; exact grownCap_le_maxLen w (n + 1) c 36 (by omega)
  have hzc : (.agg #[.string ⟨#[]⟩, .string ⟨#[]⟩, .int .i64 0, .int .u32 0] : Value).cells.size = 4 := rfl
  have hRl : ROW.size = G * 4 := by
    have q1 : i * 4 + (n + 1 - i) * 4 = (n + 1) * 4 := by rw [← Nat.add_mul]; congr 1
    have q2 : (n + 1) * 4 + (G - (n + 1)) * 4 = G * 4 := by rw [← Nat.add_mul]; congr 1; omega
    rw [hROW]
    simp only [Array.size_append, List.size_toArray, size_zeroCells, hzc, hth]
    omega
  have hRt : ROW.toList.take (i * 4) = cs.take (i * 4) := by
    rw [hROW, Array.append_assoc, Array.toList_append, List.take_append_of_le_length (by rw [List.toList_toArray, hth]; exact Nat.le_refl _), List.take_of_length_le (by rw [List.toList_toArray, hth]; exact Nat.le_refl _)]
  have hG4 : (n + 1) * 4 ≤ G * 4 := Nat.mul_le_mul_right _ hGn
  obtain ⟨W1, hW1⟩ : ∃ W1, W1 = w.drew.alloc (.cells ROW 36) := ⟨_, rfl⟩
  rw [← hW1] at hrz
  obtain ⟨q, hq⟩ : ∃ q, q = w.heap.size := ⟨_, rfl⟩
  rw [← hq] at hrz
  have hg1 : W1.heap[q]? = some (.cells ROW 36 (0, 0)) := by rw [hW1, hq]; exact heap_alloc_new w.drew _
  have hx1 : Ext w W1 := by rw [hW1]; exact ((Ext.refl w).drew).alloc _
  have hv1 := hx1.obj hv
  -- the first copy
  have hcp1 := fun ty dc => run_copy_crow (P := Try.prog) W1 39 39 ty 36 q (i * 4) (n + 1 - i) dc ⟨vb, 0, none⟩ 1 vc 4 ROW 36 vs Try.underlying39 hsz hg1
    (by rw [hvl, show Nat.min 1 (n + 1 - i) = 1 by simp only [Nat.min_def]; split <;> omega])
    (fun j u hu => by rw [Addr.add_lit, Nat.zero_add, cell_of_row W1 vb j _ _ _ hv1]; simpa using hu)
    (by rw [hvl]; omega) hvo
  obtain ⟨cur1, hcur1⟩ : ∃ cur1 : Array Value, cur1 = (ROW.toList.take (i * 4) ++ vs ++ ROW.toList.drop (i * 4 + vs.length)).toArray := ⟨_, rfl⟩
  rw [← hcur1] at hcp1
  obtain ⟨W2, hW2⟩ : ∃ W2, W2 = W1.setRow q cur1 := ⟨_, rfl⟩
  rw [← hW2] at hcp1
  have hg2 : W2.heap[q]? = some (.cells cur1 36 (0, 0)) := by rw [hW2]; exact setRow_heap W1 q ROW _ 36 (0, 0) hg1
  have hs1 : cur1.size = G * 4 := by
    rw [hcur1, List.size_toArray, List.length_append, List.length_append, List.length_take, List.length_drop, hvl, Array.length_toList]
    omega
  have hqr : r ≠ q := by omega
  have hcell2 : ∀ j u, cs[j]? = some u → W2.cell? ⟨r, j, none⟩ = some u := fun j u hu => by
    have h1 := hx1.cell (hcell j u hu)
    rw [← h1]
    exact World.cell?_of_block (by rw [hW2]; exact setRow_other W1 q r _ hqr)
  -- the second
  have hcp2 := fun ty dc sc => run_copy_crow (P := Try.prog) W2.drew 39 39 ty 36 q ((i + 1) * 4) (n + 1 - (i + 1)) dc ⟨r, i * 4, none⟩ (n - i) sc 4 cur1 36 (cs.drop (i * 4)) Try.underlying39 hsz hg2
    (by rw [htl]; congr 1; simp only [Nat.min_def]; split <;> omega)
    (fun j u hu => by
      rw [Addr.add_lit]
      rw [List.getElem?_drop] at hu
      exact hcell2 _ u hu)
    (by rw [htl]; omega) (fun u hu => hone u (List.mem_of_mem_drop hu))
  obtain ⟨cur2, hcur2⟩ : ∃ cur2 : Array Value, cur2 = (cur1.toList.take ((i + 1) * 4) ++ cs.drop (i * 4) ++ cur1.toList.drop ((i + 1) * 4 + (cs.drop (i * 4)).length)).toArray := ⟨_, rfl⟩
  rw [← hcur2] at hcp2
  have hs2 : cur2.size = G * 4 := by
    rw [hcur2, List.size_toArray, List.length_append, List.length_append, List.length_take, List.length_drop (i := _ + _), htl, Array.length_toList]
    omega
  have htk2 : cur2.toList.take ((n + 1) * 4) = cs.take (i * 4) ++ vs ++ cs.drop (i * 4) := by
    have hA : cur1.toList.take ((i + 1) * 4) = cs.take (i * 4) ++ vs := by
      rw [hcur1]
      show List.take _ (ROW.toList.take (i * 4) ++ vs ++ ROW.toList.drop (i * 4 + vs.length)) = _
      rw [hRt, List.take_append_of_le_length (by rw [List.length_append, hth, hvl]; omega), List.take_of_length_le (by rw [List.length_append, hth, hvl]; omega)]
    rw [hcur2]
    show List.take _ (cur1.toList.take ((i + 1) * 4) ++ cs.drop (i * 4) ++ cur1.toList.drop _) = _
    rw [hA, List.take_append_of_le_length (by rw [List.length_append, List.length_append, hth, hvl, htl]; omega), List.take_of_length_le (by rw [List.length_append, List.length_append, hth, hvl, htl]; omega)]
  have HF : Hid (InsPost w base (.slice (some ⟨r, 0, none⟩) n c) n i cs vs (.returned (.slice (some ⟨q, 0, none⟩) (n + 1) G)) (W2.drew.setRow q cur2)) := Lib.hid (by
    refine ⟨_, rfl, .inr ⟨q, G, cur2, rfl, by omega, setRow_heap W2.drew q cur1 _ 36 (0, 0) hg2, hGn, by omega, hGm, ?_, htk2⟩, ?_, .inr ⟨q, rfl, by omega⟩⟩
    · rw [← htk2, List.length_take, Array.length_toList, hs2]
      omega
    · have h1 : Chg (fun k => some k = (Value.slice (some ⟨r, 0, none⟩) n c).ownBlock) w W2 := by rw [hW2]; exact ((Chg.of_ext hx1).mono (fun _ _ h => h.elim)).setRow q cur1 (fun hlt => by omega)
      exact h1.drew.setRow q cur2 (fun hlt => by omega))
  have HZ := Lib.hid hrz
  have H1 := Lib.hid hcp1
  have H2 := Lib.hid hcp2
  have hw1 : IntKind.i64.wrap ((i : Int) + 1) = (i : Int) + 1 := IntWalk.i64_in _ (by omega)
  have hw2 : IntKind.i64.wrap ((n : Int) + 1) = (n : Int) + 1 := IntWalk.i64_in _ (by omega)
  have hw3 : IntKind.i64.wrap ((n : Int) + 1 - (i : Int)) = (n : Int) + 1 - (i : Int) := IntWalk.i64_in _ (by omega)
  have hz2 : ((i : Int) == (n : Int)) = false := by simp; omega
  have hz3 : (c : Int) < (n : Int) + 1 := by omega
  have hb1 : (0 : Int) ≤ (i : Int) + 1 := by omega
  have htn : ((i : Int) + 1).toNat = i + 1 := by omega
  have hb2 : (c = i) = False := by simp; omega
  have hb3 : (G = i) = False := by simp; omega
  have hb4 : (G = i + 1) = False := by simp; omega
  have hb5 : (i : Int) + 1 ≤ (n : Int) + 1 := by omega
  have hb7 : (i : Int) ≤ (n : Int) := by omega
  have hb8 : (i : Int) ≤ (n : Int) + 1 := by omega
  have hb9 : (i : Int) ≤ (c : Int) := by omega
  have hb10 : (n : Int) ≤ (c : Int) := by omega
  have hb11 : (n : Int) + 1 ≤ (G : Int) := by omega
  clear hrz hcp1 hcp2 hW1 hW2 hg1 hg2 hs2 htk2 hlen htl hth htk hcur1 hcur2 hs1 hv1 hcs h hone hv hg e1 e2 e3 hmm hmm2 hcm hb hvo hvl hsz hold hik hkk hi0 hz0 hzs hzb hInfo hcell hcell2 hG hROW hRl hRt hG4 hGm hzc hx1 hq hrlt hvlt hqr
  go_enter Try.func41, Try.ntmps41
  go_wp2_with (at_builtin; refine Lib.wpList_append_run _ rfl _ _ _ _ rfl _ _ rfl rfl _ _ (HZ.out _) ?_)
  rw [H1.out]
  simp only [Result.andThen]
  rw [Oper.upon_value]
  go_wp2_with fail
  go_region_law (refine step_copy_run rfl _ _ 39 39 rfl (.slice (some ⟨q, (i + 1) * 4, none⟩) (n + 1 - (i + 1)) (G - (i + 1))) (.slice (some ⟨r, i * 4, none⟩) (n - i) (c - i)) (by simp [Act.eval, Act.put]) (by simp [Act.eval, Act.put]) (H2.out _ _ _) ?_)
  all_goals
    go_wp2_with fail
    go_ret
    exact HF.out
end Go.Proofs.Ytdcbpnkcpglhhaa
