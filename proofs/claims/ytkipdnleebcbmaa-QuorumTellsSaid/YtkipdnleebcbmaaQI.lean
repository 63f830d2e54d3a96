/- Rows of whole numbers that grow; two of them, apart. -/
import Derived.Test.YtkipdnleebcbmaaQF
import Derived.Maps.AppendAt
namespace Go.Proofs.Ytkipdnleebcbmaa
open Go.RowKit
set_option linter.unusedVariables false
set_option linter.unusedSimpArgs false

def OwnI (w : World) (base : Nat) (v : Value) (zs : List Int) : Prop := w.ownsRow base 3 1 v zs.length (ints zs)
theorem OwnI.nil (w : World) (base : Nat) : OwnI w base (.slice none 0 0) [] := World.ownsRow_nil _ _ _ _
theorem OwnI.ext {w w' : World} {base : Nat} {v : Value} {F : List Int} (h : OwnI w base v F) (hx : Ext w w') : OwnI w' base v F := by
  obtain ⟨h1, h⟩ := h
  refine ⟨h1, ?_⟩
  rcases h with h | ⟨g, cap, cur, e, hb, hg, h⟩
  · exact .inl h
  · exact .inr ⟨g, cap, cur, e, hb, (hx.block g (Array.getElem?_eq_some_iff.1 hg).1).trans hg, h⟩
theorem OwnI.kept {w w' : World} {base : Nat} {v : Value} {F : List Int} {row : Option Nat} (h : OwnI w base v F) (hg : w.grownBy w' row) (hne : ∀ k, v.ownBlock = some k → row ≠ some k) : OwnI w' base v F := by
  refine World.ownsRow.kept h hg ?_
  cases hv : v.ownBlock with
  | none => exact .inl rfl
  | some k => exact .inr (fun e => hne k hv e.symm)
theorem OwnI.form {w : World} {base : Nat} {v : Value} {F : List Int} (h : OwnI w base v F) : ∃ A c, v = .slice A F.length c ∧ F.length ≤ c ∧ c ≤ maxLen ∧ Ints w A F.length F := by
  obtain ⟨hl, h⟩ := h
  rcases h with ⟨rfl, h0⟩ | ⟨g, cap, cur, rfl, _, hg, hn, hm, hc, ht⟩
  · rw [h0]
    exact ⟨none, 0, rfl, Nat.le_refl _, Nat.zero_le _, h0, fun h => absurd h (Nat.lt_irrefl 0)⟩
  · refine ⟨_, cap, rfl, hn, hm, rfl, fun _ => ⟨g, 0, rfl, fun j hj => ?_⟩⟩
    rw [Nat.zero_add, cell_of_row w g j cur _ (0, 0) hg]
    have : (cur.toList.take (F.length * 1))[j]? = (ints F)[j]? := by rw [ht]
    rw [List.getElem?_take, if_pos (by omega)] at this
    rw [← Array.getElem?_toList, this]
    simp [ints, List.getElem?_eq_getElem hj, List.getD_eq_getElem?_getD]
def Apart (v u : Value) : Prop := ∀ k, v.ownBlock = some k → u.ownBlock ≠ some k
theorem Apart.symm {v u : Value} (h : Apart v u) : Apart u v := fun k hk hk' => h k hk' hk
theorem Apart.fresh {w : World} {base : Nat} {v v' u : Value} {F : List Int} (h : Apart v u) (hu : OwnI w base u F) {m : Nat} (hm : w.heap.size ≤ m) (hf : v'.ownBlock = v.ownBlock ∨ v'.ownBlock = some m) : Apart v' u := by
  intro k hk hk'
  rcases hf with e | e
  · exact h k (e ▸ hk) hk'
  · rw [e] at hk
    injection hk with hk
    have := (World.ownsRow.lt hu k hk').2
    omega

theorem wpList_append_int {ops : Array Oper} {rest : List Oper} {o : Oper} {a : Act} {w : World} {Q : Exit → Act → World → Prop} (hgd : o.guard = none) (s x : Operand)
    (ho : o.op = .call { callee := .builtin .append, args := #[s, x], argTypes := #[23, 23] }) (base : Nat) (v : Value) (F : List Int) (y : Int) (hs : a.eval s = v) (g c : Nat) (hx : a.eval x = .slice (some ⟨g, 0, none⟩) 1 c)
    (hc : w.cell? ⟨g, 0, none⟩ = some (.int .i64 y)) (hown : OwnI w base v F) (hlen : F.length ≤ 1000) (hbase : base ≤ w.heap.size)
    (h : ∀ v' w', OwnI w' base v' (F ++ [y]) → w.grownBy w' v.ownBlock → (v'.ownBlock = v.ownBlock ∨ v'.ownBlock = some w.heap.size) → wpList Try.prog ops Q rest (a.put o.dst v') w') : wpList Try.prog ops Q (o :: rest) a w := by
  obtain ⟨i, hi, hz0, hz1, hz2⟩ := info_parts info3
  have hmm : maxLen > 2000 := by decide
  refine wpList_append_own_at (P := Try.prog) w hgd s x 23 ho base 3 i (.int .i64 0) 1 8 Try.underlying23 hi hz0 hz1 hz2 rfl (by omega) v F.length (ints F) hs hown ⟨g, 0, none⟩ 1 c [.int .i64 y] hx rfl ?_ ?_ (by omega) (by omega) hbase ?_
  · intro j u hu
    match j, hu with
    | 0, hu => simp at hu; subst hu; simpa [Addr.add] using hc
  · intro u hu
    simp only [List.mem_cons, List.not_mem_nil, or_false] at hu
    subst hu; rfl
  · intro v' w' h1 h2 _ h4
    refine h v' w' ?_ h2 h4
    unfold OwnI
    rw [List.length_append]
    simpa [ints] using h1
end Go.Proofs.Ytkipdnleebcbmaa
