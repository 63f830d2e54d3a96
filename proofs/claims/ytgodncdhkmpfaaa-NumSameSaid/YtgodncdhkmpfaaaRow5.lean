/- A row of float values that grows by append. -/
import Derived.Test.YtgodncdhkmpfaaaSums
import Derived.Maps.AppendAt
namespace Go.Proofs.Ytgodncdhkmpfaaa
open Go.RowKit
set_option linter.unusedVariables false
set_option linter.unusedSimpArgs false
attribute [local go_sem] stepR givesR fillE Ext.refl

/-- a float value's cells -/
def fcells (f : Nat) : List Value := [.int .i64 2, .int .i64 0, .float .f64 f, .string ⟨#[]⟩, .slice none 0 0]
def rowCells (F : List Nat) : List Value := F.flatMap fcells
theorem rowCells_length (F : List Nat) : (rowCells F).length = F.length * 5 := by
  induction F with
  | nil => rfl
  | cons f F ih => simp only [rowCells, List.flatMap_cons, List.length_append, List.length_cons] at *; rw [ih]; simp [fcells]; omega
theorem rowCells_snoc (F : List Nat) (f : Nat) : rowCells F ++ fcells f = rowCells (F ++ [f]) := by simp [rowCells]
def Own (w : World) (base : Nat) (v : Value) (F : List Nat) : Prop := w.ownsRow base 31 5 v F.length (rowCells F)
theorem info31 : (Try.prog.info? 31).map (fun i => (i.zero.map (·.cells.size), i.size, i.bytes)) = some (some 5, 5, 64) := by kernel_rfl
theorem wpList_append_val {ops : Array Oper} {rest : List Oper} {o : Oper} {a : Act} {w : World} {Q : Exit → Act → World → Prop} (hgd : o.guard = none) (s x : Operand)
    (ho : o.op = .call { callee := .builtin .append, args := #[s, x], argTypes := #[28, 28] }) (base : Nat) (v : Value) (F : List Nat) (f : Nat) (hs : a.eval s = v) (g c : Nat) (hx : a.eval x = .slice (some ⟨g, 0, none⟩) 1 c)
    (V : VAt w g 2 0 f ⟨#[]⟩ (.slice none 0 0)) (hown : Own w base v F) (hlen : F.length ≤ 1000) (hbase : base ≤ w.heap.size)
    (h : ∀ v' w', Own w' base v' (F ++ [f]) → w.grownBy w' v.ownBlock → wpList Try.prog ops Q rest (a.put o.dst v') w') : wpList Try.prog ops Q (o :: rest) a w := by
  obtain ⟨i, hi, hzz⟩ := Option.map_eq_some_iff.1 info31
  simp only [Prod.mk.injEq] at hzz
  obtain ⟨hz0, hz1, hz2⟩ := hzz
  obtain ⟨z, hz, hzc⟩ := Option.map_eq_some_iff.1 hz0
  have hmm : maxLen > 2000 := by decide
  refine wpList_append_own_at (P := Try.prog) w hgd s x 28 ho base 31 i z 5 64 Try.underlying28 hi hz hz1 hz2 hzc (by omega) v F.length (rowCells F) hs hown ⟨g, 0, none⟩ 1 c (fcells f) hx rfl ?_ ?_ (by omega) (by omega) hbase ?_
  · intro j u hu
    rw [Addr.add_lit, Nat.zero_add]
    exact V.cell j u hu
  · intro u hu
    simp only [fcells, List.mem_cons, List.not_mem_nil, or_false] at hu
    rcases hu with rfl | rfl | rfl | rfl | rfl <;> rfl
  · intro v' w' h1 h2 _ _
    refine h v' w' ?_ h2
    unfold Own
    rw [← rowCells_snoc, List.length_append]
    exact h1

def fval (f : Nat) : Val := ⟨2, 0, f, ⟨#[]⟩, none, 0, 0⟩
theorem rowCells_at : ∀ (F : List Nat) (j q : Nat) (hj : j < F.length) (hq : q < 5), (rowCells F)[j * 5 + q]? = (fcells (F.getD j 0))[q]?
  | [], j, q, hj, _ => by simp at hj
  | f :: F, 0, q, _, hq => by
    simp only [rowCells, List.flatMap_cons, Nat.zero_mul, Nat.zero_add, List.getD_cons_zero]
    rw [List.getElem?_append_left (by simp [fcells]; omega)]
  | f :: F, j + 1, q, hj, hq => by
    have e : (j + 1) * 5 + q = 5 + (j * 5 + q) := by omega
    simp only [rowCells, List.flatMap_cons, List.getD_cons_succ]
    rw [e, List.getElem?_append_right (by simp [fcells])]
    have e2 : 5 + (j * 5 + q) - (fcells f).length = j * 5 + q := by simp [fcells]
    rw [e2]
    exact rowCells_at F j q (by simpa using hj) hq
/-- the row reads as values -/
theorem Own.vals {w : World} {base : Nat} {v : Value} {F : List Nat} (h : Own w base v F) (hF : ∀ f ∈ F, f < 18446744073709551616) : ∃ A c, v = .slice A F.length c ∧ Vals w 1 A F.length c ∧ RowV w 1 A F.length (fun j => fval (F.getD j 0)) ∧ (F.length ≤ c ∧ c ≤ maxLen) := by
  obtain ⟨hl, h⟩ := h
  rcases h with ⟨rfl, h0⟩ | ⟨g, cap, cur, rfl, _, hg, hn, hm, hc, ht⟩
  · rw [h0]
    exact ⟨none, 0, rfl, ⟨Nat.le_refl _, Nat.zero_le _, fun h => absurd h (Nat.lt_irrefl 0)⟩, fun h => absurd h (Nat.lt_irrefl 0), Nat.le_refl _, Nat.zero_le _⟩
  · have hcell : ∀ j q u, j < F.length → q < 5 → (fcells (F.getD j 0))[q]? = some u → w.cell? ⟨g, j * 5 + q, none⟩ = some u := by
      intro j q u hj hq hu
      rw [cell_of_row w g (j * 5 + q) cur 31 (0, 0) hg, ← hu, ← rowCells_at F j q hj hq, ← ht, List.getElem?_take, if_pos (by omega)]
      simp
    have hat : ∀ j, j < F.length → At w g (0 + j * 5) (fval (F.getD j 0)) ∧ Tree w 1 (fval (F.getD j 0)) := by
      intro j hj
      rw [Nat.zero_add]
      refine ⟨⟨hcell j 0 _ hj (by omega) rfl, hcell j 1 _ hj (by omega) rfl, hcell j 2 _ hj (by omega) rfl, hcell j 3 _ hj (by omega) rfl, hcell j 4 _ hj (by omega) rfl⟩, ?_⟩
      refine ⟨(show inR 2 by decide), (show inR 0 by decide), hF _ ?_, Nat.zero_le _, Nat.le_refl _, Nat.zero_le _, fun h => absurd h (Nat.lt_irrefl 0)⟩
      show F.getD j 0 ∈ F
      rw [List.getD_eq_getElem?_getD, List.getElem?_eq_getElem hj]
      exact List.getElem_mem hj
    exact ⟨some ⟨g, 0, none⟩, cap, rfl, ⟨hn, hm, fun _ => ⟨g, 0, rfl, fun j hj => ⟨_, hat j hj⟩⟩⟩, fun _ => ⟨g, 0, rfl, hat⟩, hn, hm⟩
/-- what the sums come to over floats alone: never an error -/
theorem acc_float (F : Nat → Nat) : ∀ j, acc (fun j => fval (F j)) j = ⟨1, 0, 0, 0⟩ ∧ j = 0 ∨ ∃ x, acc (fun j => fval (F j)) j = ⟨2, 0, x, 0⟩
  | 0 => .inl ⟨rfl, rfl⟩
  | j + 1 => by
    right
    rcases acc_float F j with ⟨h, _⟩ | ⟨x, h⟩
    · exact ⟨_, by rw [acc, h]; rfl⟩
    · exact ⟨_, by rw [acc, h]; rfl⟩
theorem acc_fine (F : Nat → Nat) (j : Nat) : (acc (fun j => fval (F j)) j).e = 0 := by
  rcases acc_float F j with ⟨h, _⟩ | ⟨x, h⟩ <;> rw [h]
theorem sum_fine (F : Nat → Nat) : ∀ n j, sumFrom (fun j => fval (F j)) n j = acc (fun j => fval (F j)) (j + n)
  | 0, j => rfl
  | n + 1, j => by
    rw [sumFrom, if_pos (acc_fine F _), sum_fine F n (j + 1)]
    congr 1
    omega
theorem acc_congr {g h : Nat → Val} : ∀ j, (∀ i, i < j → g i = h i) → acc g j = acc h j
  | 0, _ => rfl
  | j + 1, e => by rw [acc, acc, acc_congr j (fun i hi => e i (by omega)), e j (by omega)]
end Go.Proofs.Ytgodncdhkmpfaaa
