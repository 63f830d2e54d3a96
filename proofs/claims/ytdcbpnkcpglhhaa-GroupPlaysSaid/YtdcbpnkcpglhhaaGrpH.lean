/- Insert of a group into a row. -/
import Derived.Test.YtdcbpnkcpglhhaaGrpG
import Derived.Test.YtdcbpnkcpglhhaaGrpInsG
namespace Go.Proofs.Ytdcbpnkcpglhhaa
open Go.RowKit
set_option linter.unusedVariables false
set_option linter.unusedSimpArgs false
set_option linter.unnecessarySimpa false

def GInsPost (w : World) (base : Nat) (v : Value) (L : List Gp) (e : Ending) (w' : World) : Prop := ∃ v', e = .returned v' ∧ GRow w' base v' L ∧ Chg (fun k => some k = v.ownBlock) w w' ∧ Fresh w v v'
theorem gcells_ins (L : List Gp) (i : Nat) (p : Gp) : (gcells L).take (i * 4) ++ p.cells ++ (gcells L).drop (i * 4) = gcells (L.take i ++ p :: L.drop i) := by
  rw [gcells_take, gcells_drop, gcells_append, List.append_assoc]
  rfl
theorem ginsert_any {w : World} {base : Nat} {A : Option Addr} {n c : Nat} {L : List Gp} (h : GRow w base (.slice A n c) L) (hn : n = L.length) (hbase : base ≤ w.heap.size) (hf : L.length ≤ 16) {vb vc : Nat} (p : Gp) (hv : w.heap[vb]? = some (.cells #[.string p.name, .string p.cls, .int .i64 p.sty, .int .u32 p.ver] 36 (0, 0))) (hne : (Value.slice A n c).ownBlock ≠ some vb) (i : Nat) (hi : i ≤ L.length) :
    Calls Try.prog 41 #[.slice A n c, .int .i64 i, .slice (some ⟨vb, 0, none⟩) 1 vc] w (GInsPost w base (.slice A n c) (L.take i ++ p :: L.drop i)) := by
  subst hn
  have hvo : ∀ u ∈ p.cells, u.oneCell' = true := by
    intro u hu
    simp only [Gp.cells, List.mem_cons, List.not_mem_nil, or_false] at hu
    rcases hu with rfl | rfl | rfl | rfl <;> rfl
  have hlen : (L.take i ++ p :: L.drop i).length = L.length + 1 := by
    rw [List.length_append, List.length_take, List.length_cons, List.length_drop]
    omega
  have key : ∀ e w', InsPost w base (.slice A L.length c) L.length i (gcells L) p.cells e w' → GInsPost w base (.slice A L.length c) (L.take i ++ p :: L.drop i) e w' := by
    rintro e w' ⟨v', rfl, h1, h2, h3⟩
    refine ⟨v', rfl, ?_, h2, h3⟩
    unfold GRow
    rw [hlen, ← gcells_ins]
    exact h1
  have hnc : L.length ≤ c := by
    obtain ⟨A', c', e, hl, _⟩ := h.form
    injection e with e1 e2 e3
    omega
  rcases Nat.lt_or_eq_of_le hi with hlt | rfl
  · rcases A with _ | a
    · exfalso
      obtain ⟨A', c', e, _, _, h0⟩ := h.form
      injection e with e1 e2 e3
      have := h0 e1.symm
      omega
    · obtain ⟨r, hr, _⟩ := h.rd (by omega)
      obtain rfl : a = ⟨r, 0, none⟩ := by simpa using hr
      have hvr : vb ≠ r := fun e => hne (by rw [e]; rfl)
      by_cases hroom : L.length + 1 ≤ c
      · exact (insert_room w r L.length c base i vb vc (gcells L) p.cells h (gcells_one L) hlt hroom hv hvr rfl hvo).mono key
      · exact (insert_grow w r L.length c base i vb vc (gcells L) p.cells h hbase (gcells_one L) hlt (by omega) (by omega) hv rfl hvo).mono key
  · exact (insert_end w A L.length c base vb vc (gcells L) p.cells h hbase (by omega) hv rfl hvo).mono key
end Go.Proofs.Ytdcbpnkcpglhhaa
