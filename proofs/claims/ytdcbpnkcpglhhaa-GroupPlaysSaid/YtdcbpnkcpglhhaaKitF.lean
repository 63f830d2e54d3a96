/- append onto a row whose capacity is cut to its length: nothing old is written. -/
import Derived.Test.YtdcbpnkcpglhhaaKit
namespace Go.Proofs.Ytdcbpnkcpglhhaa
open Go.RowKit
set_option linter.unusedVariables false

section
variable {E : TypeId} {sz : Nat} {P : Program}
theorem run_append_full (w : World) (base : Nat) (t ty : TypeId) (i : TypeInfo) (z : Value) (bytes : Nat) (ht : P.underlying t = some (.slice E)) (hi : P.info? E = some i) (hz0 : i.zero = some z) (hz1 : i.size = sz) (hz2 : i.bytes = bytes) (hzs : z.cells.size = sz) (hsz : 0 < sz)
    (B : Option Addr) (n : Nat) (xs : List Value) (A : Option Addr) (m c : Nat) (news : List Value) (HO : CRow E sz w base (.slice B n n) n xs) (HR : Src w sz A m news) (hbase : base ≤ w.heap.size) (h63 : n + m ≤ maxLen) (hby : (n + m) * bytes ≤ 140737488355328) :
    ∃ v1 w1, (Builtin.append_ #[t, t] ty #[.slice B n n, .slice A m c]).run P w = .ok v1 w1 ∧ CRow E sz w1 base v1 (n + m) (xs ++ news) ∧ Ext w w1 ∧ Fresh w (.slice B n n) v1 := by
  obtain ⟨hlen, hnone, hcells, hone⟩ := HR
  rcases A with _ | ad
  · obtain rfl := hnone rfl
    obtain rfl : news = [] := List.eq_nil_of_length_eq_zero (by simpa using hlen)
    refine ⟨.slice B n n, w, ?_, by simpa using HO, Ext.refl w, .inl rfl⟩
    rcases HO with ⟨h', rfl, rfl⟩ | ⟨g, cap, cur, h', _, _, hnc, _⟩
    · injection h' with h1 h2 h3
      subst h1
      simp [Builtin.append_, run_underlying ht, sizeOf, typeInfo, hi, Builtin.lenOf, Builtin.firstCells]
    · injection h' with h1 h2 h3
      subst h1
      simp [Builtin.append_, run_underlying ht, sizeOf, typeInfo, hi, Builtin.lenOf, Builtin.firstCells, storeCells]
  · have hcells := hcells ad rfl
    have hn0 : B = none → n = 0 := by
      intro h
      obtain ⟨_, _, e, _, _, hh⟩ := HO.form
      injection e with e1 e2 e3
      subst e1
      exact (hh h).1
    by_cases hB : B = none
    · subst hB
      obtain rfl := hn0 rfl
      have hx : xs = [] := List.eq_nil_of_length_eq_zero (by simpa using HO.length)
      subst hx
      obtain ⟨v1, w1, hr, h2, h3, _, h5⟩ := run_append_own_at (P := P) w base t ty E i z sz bytes ht hi hz0 hz1 hz2 hzs hsz (.slice none 0 0) 0 [] (World.ownsRow_nil w _ _ _) ad m c news hlen hcells hone h63 hby hbase
      refine ⟨v1, w1, hr, CRow.of_own h2, ⟨h3.os, h3.tape, h3.output, h3.size, fun k hk => h3.block k hk (by simp [Value.ownBlock])⟩, ?_⟩
      rcases h5 with h5 | h5
      · exact .inl h5
      · exact .inr ⟨_, h5, Nat.le_refl _⟩
    · obtain ⟨g, cur, rfl, hb, hg, _, hcs, hcm, hxl, htk⟩ := HO.block hB
      rcases Nat.eq_zero_or_pos m with hm | hm
      · subst hm
        obtain rfl : news = [] := List.eq_nil_of_length_eq_zero (by simpa using hlen)
        refine ⟨.slice (some ⟨g, 0, none⟩) n n, w, ?_, by simpa using HO, Ext.refl w, .inl rfl⟩
        have hr := run_append_room (P := P) w t ty E i ht hi g n n cur hg ad 0 c [] (by simp) hcells hone (by omega) (by rw [hz1]; simpa using hcs)
        rw [hr]
        simp only [Nat.add_zero, List.append_nil, List.length_nil, List.take_append_drop, Array.toArray_toList]
        rw [setRow_self w g cur E (0, 0) hg]
      · obtain ⟨v1, w1, hr, h2, h3⟩ := run_append_arg_grows (P := P) w t ty E i z sz bytes ht hi hz0 hz1 hz2 hzs hsz ⟨g, 0, none⟩ n n xs hxl (by
            intro j u hu
            rw [Addr.add_lit, Nat.zero_add, cell_of_row w g j cur E (0, 0) hg]
            rw [← htk, List.getElem?_take] at hu
            split at hu
            · simpa using hu
            · cases hu) ad m c news hlen hcells (by omega) h63 hby
        have h2' := h2
        refine ⟨v1, w1, hr, (CRow.of_own h2).lower hbase, ⟨h3.os, h3.tape, h3.output, h3.size, fun k hk => h3.block k hk (by simp)⟩, ?_⟩
        have hm1 : 0 < n + m := by omega
        obtain ⟨g', cap', rfl, hge, _⟩ := h2'.form hm1
        exact .inr ⟨g', rfl, hge⟩

theorem wp_append_full {ops : Array Oper} {o : Oper} {a : Act} {w : World} {K : Act → World → Prop} {Q : Exit → Act → World → Prop} (base : Nat) (s x : Operand) (t : TypeId)
    (ho : o.op = .call { callee := .builtin .append, args := #[s, x], argTypes := #[t, t] }) (ht : P.underlying t = some (.slice E)) (bytes : Nat) (hinfo : (P.info? E).map (fun i => (i.zero.map (·.cells.size), i.size, i.bytes)) = some (some sz, sz, bytes)) (hsz : 0 < sz)
    (B : Option Addr) (n : Nat) (xs news : List Value) (A : Option Addr) (m c : Nat) (hs : a.eval s = .slice B n n) (hx : a.eval x = .slice A m c) (HO : CRow E sz w base (.slice B n n) n xs) (HR : Src w sz A m news) (hbase : base ≤ w.heap.size) (h63 : n + m ≤ maxLen) (hby : (n + m) * bytes ≤ 140737488355328)
    (h : ∀ v1 w1, CRow E sz w1 base v1 (n + m) (xs ++ news) → Ext w w1 → Fresh w (.slice B n n) v1 → K (a.put o.dst v1) w1) : o.wp P a w K Q := by
  obtain ⟨i0, hi, hzz⟩ := Option.map_eq_some_iff.1 hinfo
  simp only [Prod.mk.injEq] at hzz
  obtain ⟨hz0, hz1, hz2⟩ := hzz
  obtain ⟨z, hz, hzc⟩ := Option.map_eq_some_iff.1 hz0
  obtain ⟨v1, w1, hr, h2, h3, h4⟩ := run_append_full (P := P) w base t o.type i0 z bytes ht hi hz hz1 hz2 hzc hsz B n xs A m c news HO HR hbase h63 hby
  unfold Oper.wp execOp
  simp only [ho, resolve, invoke, builtin, Sem.run_bind, Sem.run_pure, Result.andThen_ok, List.map_toArray, List.map_cons, List.map_nil, hs, hx, hr]
  exact h v1 w1 h2 h3 h4
/-- in the list of a plain region -/
theorem wpList_append_full {ops : Array Oper} {rest : List Oper} {o : Oper} {a : Act} {w : World} {Q : Exit → Act → World → Prop} (hgd : o.guard = none) (base : Nat) (s x : Operand) (t : TypeId)
    (ho : o.op = .call { callee := .builtin .append, args := #[s, x], argTypes := #[t, t] }) (ht : P.underlying t = some (.slice E)) (bytes : Nat) (hinfo : (P.info? E).map (fun i => (i.zero.map (·.cells.size), i.size, i.bytes)) = some (some sz, sz, bytes)) (hsz : 0 < sz)
    (B : Option Addr) (n : Nat) (xs news : List Value) (A : Option Addr) (m c : Nat) (hs : a.eval s = .slice B n n) (hx : a.eval x = .slice A m c) (HO : CRow E sz w base (.slice B n n) n xs) (HR : Src w sz A m news) (hbase : base ≤ w.heap.size) (h63 : n + m ≤ maxLen) (hby : (n + m) * bytes ≤ 140737488355328)
    (h : ∀ v1 w1, CRow E sz w1 base v1 (n + m) (xs ++ news) → Ext w w1 → Fresh w (.slice B n n) v1 → wpList P ops Q rest (a.put o.dst v1) w1) : wpList P ops Q (o :: rest) a w :=
  wpList_plain hgd fun _ hK => wp_append_full (ops := ops) base s x t ho ht bytes hinfo hsz B n xs news A m c hs hx HO HR hbase h63 hby fun v1 w1 h2 h3 h4 => hK _ _ (h v1 w1 h2 h3 h4)
/-- at a step of a region that draws -/
theorem step_append_full {ops : Array Oper} {o : Oper} {a : Act} {w : World} {K : Act → World → Prop} {Q : Exit → Act → World → Prop} {F : Prop} (hgd : o.guard = none) (base : Nat) (s x : Operand) (t : TypeId)
    (ho : o.op = .call { callee := .builtin .append, args := #[s, x], argTypes := #[t, t] }) (ht : P.underlying t = some (.slice E)) (bytes : Nat) (hinfo : (P.info? E).map (fun i => (i.zero.map (·.cells.size), i.size, i.bytes)) = some (some sz, sz, bytes)) (hsz : 0 < sz)
    (B : Option Addr) (n : Nat) (xs news : List Value) (A : Option Addr) (m c : Nat) (hs : a.eval s = .slice B n n) (hx : a.eval x = .slice A m c) (HO : CRow E sz w base (.slice B n n) n xs) (HR : Src w sz A m news) (hbase : base ≤ w.heap.size) (h63 : n + m ≤ maxLen) (hby : (n + m) * bytes ≤ 140737488355328)
    (h : ∀ v1 w1, CRow E sz w1 base v1 (n + m) (xs ++ news) → Ext w w1 → Fresh w (.slice B n n) v1 → K (a.put o.dst v1) w1) :
    if Region.wanted o (yielded ops a.tmps) = true then Oper.wp P o a w K Q else F := by
  have hw : Region.wanted o (yielded ops a.tmps) = true := by simp [Region.wanted, hgd]
  rw [if_pos hw]
  exact wp_append_full (ops := ops) base s x t ho ht bytes hinfo hsz B n xs news A m c hs hx HO HR hbase h63 hby h
end
end Go.Proofs.Ytdcbpnkcpglhhaa
