/- slices.Insert of one element ahead of the end: with room. -/
import Derived.Test.YtdcbpnkcpglhhaaGrpIns
namespace Go.Proofs.Ytdcbpnkcpglhhaa
open Go.RowKit
set_option linter.unusedVariables false
set_option linter.unusedSimpArgs false

set_option maxRecDepth 100000 in
set_option maxHeartbeats 2000000 in
theorem insert_room (w : World) (r n c base i vb vc : Nat) (cs vs : List Value) (h : CRow 36 4 w base (.slice (some ⟨r, 0, none⟩) n c) n cs) (hone : ∀ u ∈ cs, u.oneCell' = true) (hi : i < n) (hroom : n + 1 ≤ c)
    (hv : w.heap[vb]? = some (.cells vs.toArray 36 (0, 0))) (hvr : vb ≠ r) (hvl : vs.length = 4) (hvo : ∀ u ∈ vs, u.oneCell' = true) :
    Calls Try.prog 41 #[.slice (some ⟨r, 0, none⟩) n c, .int .i64 i, .slice (some ⟨vb, 0, none⟩) 1 vc] w (InsPost w base (.slice (some ⟨r, 0, none⟩) n c) n i cs vs) := by
  obtain ⟨g, cur, hgr, hb, hg, hnc, hcs, hcm, hlen, htk⟩ := h.block (by simp)
  simp only [Option.some.injEq, Addr.mk.injEq, and_true] at hgr
  subst hgr
  have hmm : maxLen ≤ 9223372036854775807 := by decide
  have e1 : (n - i) * 4 + i * 4 = n * 4 := by rw [← Nat.add_mul]; congr 1; omega
  have e2 : (i + 1) * 4 = i * 4 + 4 := by rw [Nat.add_mul, Nat.one_mul]
  have e3 : (n + 1) * 4 = n * 4 + 4 := by rw [Nat.add_mul, Nat.one_mul]
  have e4 : (n + 1) * 4 ≤ c * 4 := Nat.mul_le_mul_right _ hroom
  have htl : (cs.drop (i * 4)).length = (n - i) * 4 := by rw [List.length_drop, hlen]; omega
  have hsz : (Try.prog.info? 36).map (·.size) = some 4 := by kernel_rfl
  have hcur : cur.toList.length = cur.size := Array.length_toList
  -- the first copy
  have hcp1 := fun ty dc sc => run_copy_crow (P := Try.prog) w.drew 39 39 ty 36 r ((i + 1) * 4) (n + 1 - (i + 1)) dc ⟨r, i * 4, none⟩ (n + 1 - i) sc 4 cur 36 (cs.drop (i * 4)) Try.underlying39 hsz hg
    (by rw [htl]; congr 1; simp only [Nat.min_def]; split <;> omega)
    (fun j u hu => by
      rw [Addr.add_lit]
      show w.cell? _ = _
      have hj : j < (n - i) * 4 := by have := (List.getElem?_eq_some_iff.1 hu).1; omega
      rw [List.getElem?_drop] at hu
      rw [cell_of_row w r _ cur 36 (0, 0) hg, ← hu, ← htk, List.getElem?_take, if_pos (by omega)]
      simp)
    (by rw [htl]; omega) (fun u hu => hone u (List.mem_of_mem_drop hu))
  obtain ⟨cur1, hcur1⟩ : ∃ cur1 : Array Value, cur1 = (cur.toList.take ((i + 1) * 4) ++ cs.drop (i * 4) ++ cur.toList.drop ((i + 1) * 4 + (cs.drop (i * 4)).length)).toArray := ⟨_, rfl⟩
  rw [← hcur1] at hcp1
  obtain ⟨W1, hW1⟩ : ∃ W1, W1 = w.drew.setRow r cur1 := ⟨_, rfl⟩
  rw [← hW1] at hcp1
  have hg1 : W1.heap[r]? = some (.cells cur1 36 (0, 0)) := by rw [hW1]; exact setRow_heap w.drew r cur _ 36 (0, 0) hg
  have hv1 : W1.heap[vb]? = some (.cells vs.toArray 36 (0, 0)) := by rw [hW1, setRow_other _ _ _ _ hvr]; exact hv
  have hs1 : cur1.size = cur.size := by
    rw [hcur1, List.size_toArray, List.length_append, List.length_append, List.length_take, List.length_drop (i := _ + _), htl]
    omega
  -- the second
  have hcp2 := fun ty dc => run_copy_crow (P := Try.prog) W1 39 39 ty 36 r (i * 4) (n + 1 - i) dc ⟨vb, 0, none⟩ 1 vc 4 cur1 36 vs Try.underlying39 hsz hg1
    (by rw [hvl, show Nat.min 1 (n + 1 - i) = 1 by simp only [Nat.min_def]; split <;> omega])
    (fun j u hu => by rw [Addr.add_lit, Nat.zero_add, cell_of_row W1 vb j _ _ _ hv1]; simpa using hu)
    (by rw [hvl]; omega) hvo
  obtain ⟨cur2, hcur2⟩ : ∃ cur2 : Array Value, cur2 = (cur1.toList.take (i * 4) ++ vs ++ cur1.toList.drop (i * 4 + vs.length)).toArray := ⟨_, rfl⟩
  rw [← hcur2] at hcp2
  have hs2 : cur2.size = cur.size := by
    rw [hcur2, List.size_toArray, List.length_append, List.length_append, List.length_take, List.length_drop, hvl, Array.length_toList]
    omega
  have htk2 : cur2.toList.take ((n + 1) * 4) = cs.take (i * 4) ++ vs ++ cs.drop (i * 4) := by
    have hA : cur1.toList = cur.toList.take ((i + 1) * 4) ++ (cs.drop (i * 4) ++ cur.toList.drop ((i + 1) * 4 + (cs.drop (i * 4)).length)) := by rw [hcur1, List.append_assoc]
    have hl1 : (cur.toList.take ((i + 1) * 4)).length = (i + 1) * 4 := by rw [List.length_take]; omega
    have hB : cur1.toList.take (i * 4) = cs.take (i * 4) := by
      rw [hA, List.take_append_of_le_length (by omega), List.take_take, ← htk, List.take_take]
      congr 1
      omega
    have hC : cur1.toList.drop (i * 4 + vs.length) = cs.drop (i * 4) ++ cur.toList.drop ((i + 1) * 4 + (cs.drop (i * 4)).length) := by
      rw [hA, hvl, ← e2, List.drop_append, List.drop_of_length_le (by omega), List.nil_append, hl1, Nat.sub_self, List.drop_zero]
    rw [hcur2]
    show List.take _ (cur1.toList.take (i * 4) ++ vs ++ cur1.toList.drop (i * 4 + vs.length)) = _
    rw [hB, hC, ← List.append_assoc, List.take_append_of_le_length, List.take_of_length_le]
    · rw [List.length_append, List.length_append, List.length_take, htl, hlen, hvl]; omega
    · rw [List.length_append, List.length_append, List.length_take, htl, hlen, hvl]; omega
  -- apart
  have hov : ∀ lb cb, (callFunc 62 #[.slice (some ⟨vb, 0, none⟩) 1 vc, .slice (some ⟨r, (i + 1) * 4, none⟩) lb cb]).run Try.prog w = .ok (.value (.bool false)) w := fun lb cb => by
    rw [run_callFunc_extern Try.func62 (by kernel_rfl) (by kernel_rfl) (by kernel_rfl) (e := Extern.SlicesOverlaps.overlaps #[39, 39] #[4]) (by kernel_rfl),
      Lib.run_overlaps_apart w 39 4 36 Try.underlying39 4 (fun w => Try.sizeOf36 w) ⟨vb, 0, none⟩ ⟨r, (i + 1) * 4, none⟩ 1 vc lb cb hvr 36 36 vs.toArray.size cur.size (by simp [World.shape?, hv]) (by simp [World.shape?, hg]) (by omega) (by simp [World.frozen?, hv]) (by simp [World.frozen?, hv])]
    rfl
  have HV := Lib.hid hov
  have H1 := Lib.hid hcp1
  have H2 := Lib.hid hcp2
  have HE := Lib.hid (And.intro hW1 (And.intro hg1 (And.intro hs2 htk2)))
  have HL := Lib.hid (And.intro hlen htl)
  have hw1 : IntKind.i64.wrap ((i : Int) + 1) = (i : Int) + 1 := IntWalk.i64_in _ (by omega)
  have hw2 : IntKind.i64.wrap ((n : Int) + 1) = (n : Int) + 1 := IntWalk.i64_in _ (by omega)
  have hz2 : ((i : Int) == (n : Int)) = false := by simp; omega
  have hz3 : decide ((c : Int) < (n : Int) + 1) = false := decide_eq_false (by omega)
  have hb1 : (0 : Int) ≤ (i : Int) + 1 := by omega
  have hbn : (0 : Int) ≤ (n : Int) + 1 := by omega
  have htn : ((i : Int) + 1).toNat = i + 1 := by omega
  have htn2 : ((n : Int) + 1).toNat = n + 1 := by omega
  have hb2 : (c = i + 1) = False := by simp; omega
  have hb4 : (c = i) = False := by simp; omega
  have hb5 : (i : Int) + 1 ≤ (n : Int) + 1 := by omega
  have hb6 : (n : Int) + 1 ≤ (c : Int) := by omega
  have hb7 : (i : Int) ≤ (n : Int) := by omega
  have hb8 : (i : Int) ≤ (n : Int) + 1 := by omega
  have HC := Lib.hid (And.intro hcs (And.intro hs1 (And.intro hcm (And.intro hb hroom))))
  have HM := Lib.hid (And.intro e1 (And.intro e2 (And.intro e3 e4)))
  clear hov hcp1 hcp2 hW1 hg1 hs2 htk2 hlen htl htk hcur hcur1 hcur2 hs1 hv1 hcs h hone hv hg e1 e2 e3 e4 hmm hcm hb hvo hvl hsz
  go_enter Try.func41, Try.ntmps41
  go_wp2_with (simp only [HV.out])
  go_region_law (refine step_copy_run rfl _ _ 39 39 rfl (.slice (some ⟨r, (i + 1) * 4, none⟩) (n + 1 - (i + 1)) (c - (i + 1))) (.slice (some ⟨r, i * 4, none⟩) (n + 1 - i) (c - i)) (by simp [Act.eval, Act.put]) (by simp [Act.eval, Act.put]) (H1.out _ _ _) ?_)
  all_goals
    go_wp2_with fail
    rw [H2.out]
    simp only [Result.andThen]
    rw [Oper.upon_value]
    go_wp2_with fail
    go_ret
    obtain ⟨hW1, hg1, hs2, htk2⟩ := HE.out
    obtain ⟨hlen, htl⟩ := HL.out
    obtain ⟨hcs, hs1, hcm, hb, hroom'⟩ := HC.out
    obtain ⟨e1, e2, e3, e4⟩ := HM.out
    refine ⟨_, rfl, .inr ⟨r, c, cur2, rfl, hb, setRow_heap W1 r cur1 _ 36 (0, 0) hg1, hroom', by rw [hs2]; exact hcs, hcm, ?_, htk2⟩, ?_, .inl rfl⟩
    · rw [← htk2, List.length_take, Array.length_toList, hs2]
      omega
    · have h1 : Chg (fun k => some k = (Value.slice (some ⟨r, 0, none⟩) n c).ownBlock) w W1 := by rw [hW1]; exact ((Chg.refl _ _).drew).setRow r cur1 (fun _ => by simp [Value.ownBlock])
      exact h1.setRow r cur2 (fun _ => by simp [Value.ownBlock])
end Go.Proofs.Ytdcbpnkcpglhhaa
