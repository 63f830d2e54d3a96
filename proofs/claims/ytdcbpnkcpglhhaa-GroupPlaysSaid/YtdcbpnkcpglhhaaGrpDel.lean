/- slices.Delete of one element, at elements of 4 cells. -/
import Derived.Test.YtdcbpnkcpglhhaaProg
import Derived.Test.YtdcbpnkcpglhhaaKit
import Derived.WalkSpells
import Derived.WalkLawsBesides
namespace Go.Proofs.Ytdcbpnkcpglhhaa
open Go.RowKit
set_option linter.unusedVariables false
set_option linter.unusedSimpArgs false

theorem infoE : (Try.prog.info? 36).map (fun i => (i.zero.map (·.cells.size), i.size, i.bytes)) = some (some 4, 4, 48) := by kernel_rfl
theorem zeroE : ∀ w, (zeroValue 36).run Try.prog w = .ok (.agg #[.string ⟨#[]⟩, .string ⟨#[]⟩, .int .i64 0, .int .u32 0]) w := by intro w; kernel_rfl

def DelPost (w : World) (r n cap i : Nat) (cs : List Value) (base : Nat) (e : Ending) (w' : World) : Prop :=
  e = .returned (.slice (some ⟨r, 0, none⟩) (n - 1) cap) ∧ CRow 36 4 w' base (.slice (some ⟨r, 0, none⟩) (n - 1) cap) (n - 1) (cs.take (i * 4) ++ cs.drop ((i + 1) * 4)) ∧ Chg (fun k => k = r) w w'
set_option maxRecDepth 100000 in
set_option maxHeartbeats 1000000 in
theorem delete_any (w : World) (r n cap i base : Nat) (cs : List Value) (h : CRow 36 4 w base (.slice (some ⟨r, 0, none⟩) n cap) n cs) (hone : ∀ u ∈ cs, u.oneCell' = true) (hi : i < n) :
    Calls Try.prog 43 #[.slice (some ⟨r, 0, none⟩) n cap, .int .i64 i, .int .i64 ((i : Int) + 1)] w (DelPost w r n cap i cs base) := by
  obtain ⟨g, cur, hgr, hb, hg, hnc, hcs, hcm, hlen, htk⟩ := h.block (by simp)
  simp only [Option.some.injEq, Addr.mk.injEq, and_true] at hgr
  subst hgr
  have hlt : r < w.heap.size := (Array.getElem?_eq_some_iff.1 hg).1
  have e3 : (i + 1) * 4 + (n - (i + 1)) * 4 = n * 4 := by rw [← Nat.add_mul]; congr 1; omega
  have e4 : n * 4 ≤ cap * 4 := Nat.mul_le_mul_right _ hnc
  have hnl : (cs.drop ((i + 1) * 4)).length = (n - (i + 1)) * 4 := by rw [List.length_drop, hlen]; omega
  -- where the tail lies
  obtain ⟨A, hA, hsrc⟩ : ∃ A : Addr, (if cap = i + 1 then some (⟨r, 0, none⟩ : Addr) else some ⟨r, (i + 1) * 4, none⟩) = some A ∧ Hid (∀ j u, (cs.drop ((i + 1) * 4))[j]? = some u → w.drew.cell? (A.add j) = some u) := by
    by_cases hc : cap = i + 1
    · refine ⟨⟨r, 0, none⟩, by simp [hc], fun j u hu => ?_⟩
      have h0 : (cs.drop ((i + 1) * 4)).length = 0 := by rw [hnl]; omega
      rw [List.eq_nil_of_length_eq_zero h0] at hu
      simp at hu
    · refine ⟨⟨r, (i + 1) * 4, none⟩, by simp [hc], fun j u hu => ?_⟩
      rw [List.getElem?_drop] at hu
      have hj : (i + 1) * 4 + j < n * 4 := by
        have := (List.getElem?_eq_some_iff.1 hu).1
        omega
      rw [Addr.add_lit]
      show w.cell? _ = _
      rw [cell_of_row w r _ cur 36 (0, 0) hg, ← hu, ← htk, List.getElem?_take, if_pos hj]
      simp
  have hrun := fun ty (i0 : TypeInfo) (hi0 : Try.prog.info? 36 = some i0) (hz1 : i0.size = 4) => run_append_room (P := Try.prog) w.drew 39 ty 36 i0 Try.underlying39 hi0 r i cap cur hg A (n - (i + 1)) (cap - (i + 1)) (cs.drop ((i + 1) * 4)) (by rw [hz1]; exact hnl) hsrc.out (fun u hu => hone u (List.mem_of_mem_drop hu)) (by omega) (by rw [hz1, hnl]; omega)
  obtain ⟨i0, hi0, hzz⟩ := Option.map_eq_some_iff.1 infoE
  simp only [Prod.mk.injEq] at hzz
  have hz1 := hzz.2.1
  have hrun := fun ty => hrun ty i0 hi0 hz1
  rw [hz1] at hrun
  obtain ⟨cur1, hcur1⟩ : ∃ cur1 : Array Value, cur1 = (cur.toList.take (i * 4) ++ cs.drop ((i + 1) * 4) ++ cur.toList.drop (i * 4 + (cs.drop ((i + 1) * 4)).length)).toArray := ⟨_, rfl⟩
  rw [← hcur1] at hrun
  obtain ⟨W1, hW1⟩ : ∃ W1, W1 = w.drew.setRow r cur1 := ⟨_, rfl⟩
  rw [← hW1] at hrun
  have hn1 : i + (n - (i + 1)) = n - 1 := by omega
  rw [hn1] at hrun
  have hg1 : W1.heap[r]? = some (.cells cur1 36 (0, 0)) := by rw [hW1]; exact setRow_heap w.drew r cur _ 36 (0, 0) hg
  have hs1 : cur1.size = cur.size := by
    rw [hcur1, List.size_toArray, List.length_append, List.length_append, List.length_take, List.length_drop (i := i * 4 + _), hnl, Array.length_toList]
    omega
  have hz : (.agg #[.string ⟨#[]⟩, .string ⟨#[]⟩, .int .i64 0, .int .u32 0] : Value).cells.size = 4 := rfl
  have e5 : (n - 1) * 4 + (n - (n - 1)) * 4 = n * 4 := by rw [← Nat.add_mul]; congr 1; omega
  have hcl := fun ty => run_clear_row (P := Try.prog) W1 39 36 ty (.agg #[.string ⟨#[]⟩, .string ⟨#[]⟩, .int .i64 0, .int .u32 0]) Try.underlying39 zeroE (by intro u hu; simp [Value.cells] at hu; rcases hu with rfl | rfl | rfl | rfl <;> rfl) r ((n - 1) * 4) (n - (n - 1)) (cap - (n - 1)) (by omega) cur1 36 hg1 (by rw [hz, hs1]; omega)
  obtain ⟨cur2, hcl2, hs2, ht2⟩ : ∃ cur2 : Array Value, (∀ ty, (Builtin.clear_ #[39] ty #[.slice (some ⟨r, (n - 1) * 4, none⟩) (n - (n - 1)) (cap - (n - 1))]).run Try.prog W1 = .ok (.tuple #[]) (W1.setRow r cur2)) ∧ cur2.size = cur1.size ∧ cur2.toList.take ((n - 1) * 4) = cur1.toList.take ((n - 1) * 4) := by
    obtain ⟨cs0, q1, q2, q3⟩ := hcl 0
    exact ⟨cs0, fun ty => q1, q2, q3⟩
  have H1 := Lib.hid (And.intro hg1 (And.intro hcur1 (And.intro hs1 (And.intro hs2 ht2))))
  have HW := Lib.hid hW1
  have HR := Lib.hid hrun
  have HL := Lib.hid (And.intro hlen (And.intro htk (And.intro hnl hg)))
  have hic : (i : Int) + 1 ≤ (n : Int) := by omega
  have hicN : i ≤ cap := by omega
  have h01 : (0 : Int) ≤ (i : Int) + 1 := by omega
  have hjcN : i + 1 ≤ cap := by omega
  have hncc : (n : Int) ≤ (cap : Int) := by omega
  clear hg1 hcur1 hs1 hs2 ht2 hrun hlen htk hnl hW1 hsrc hg h hcl hi0 hzz hz1 hz hone
  go_enter Try.func43, Try.ntmps43
  go_wp2_with fail
  go_region_law (refine step_append_run rfl (.tmp 22) (.tmp 25) 39 rfl (.slice (some ⟨r, 0, none⟩) i cap) (.slice (some A) (n - (i + 1)) (cap - (i + 1))) _ W1 (by simp [Act.eval, Act.put]) (by simp [Act.eval, Act.put]) HR.out ?_)
  all_goals
    go_wp2_with fail
    go_ret
    obtain ⟨hg1, hcur1, hs1, hs2, ht2⟩ := H1.out
    obtain ⟨hlen, htk, hnl, hg⟩ := HL.out
    refine ⟨rfl, .inr ⟨r, cap, cur2, rfl, hb, setRow_heap W1 r cur1 _ 36 (0, 0) hg1, by omega, by omega, hcm, ?_, ?_⟩, ?_⟩
    · rw [List.length_append, List.length_take, hnl, hlen]
      have : i * 4 + (n - (i + 1)) * 4 = (n - 1) * 4 := by rw [← Nat.add_mul]; congr 1
      have : i * 4 ≤ n * 4 := Nat.mul_le_mul_right _ (by omega)
      omega
    · rw [ht2, hcur1]
      have hl2 : (cur.toList.take (i * 4)).length = i * 4 := by
        rw [List.length_take, Array.length_toList]
        have : i * 4 ≤ n * 4 := Nat.mul_le_mul_right _ (by omega)
        omega
      have hl3 : i * 4 + (n - (i + 1)) * 4 = (n - 1) * 4 := by rw [← Nat.add_mul]; congr 1
      have hle : (n - 1) * 4 ≤ ((cur.toList.take (i * 4)) ++ cs.drop ((i + 1) * 4)).length := by
        rw [List.length_append, hl2, hnl]; omega
      rw [List.take_append_of_le_length hle, List.take_of_length_le (by rw [List.length_append, hl2, hnl]; omega)]
      congr 1
      rw [← htk, List.take_take]
      congr 1
      have : i * 4 ≤ n * 4 := Nat.mul_le_mul_right _ (by omega)
      omega
    · have h1 : Chg (fun k => k = r) w W1 := by rw [HW.out]; exact ((Chg.refl _ _).drew).setRow r cur1 (fun _ => rfl)
      exact h1.setRow r cur2 (fun _ => rfl)
end Go.Proofs.Ytdcbpnkcpglhhaa
