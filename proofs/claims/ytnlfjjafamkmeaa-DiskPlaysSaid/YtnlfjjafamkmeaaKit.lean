/- Words for rows of bytes: what a slice of bytes reads as, a row of bytes of the call's own that may have less capacity than its block has cells, what a step leaves alone; append onto such a row. -/
import Derived.WalkKit
import Derived.Maps.AppendAt
import Derived.Deep.AppendLies
import Derived.Lib.Hide
namespace Go.Proofs.Ytnlfjjafamkmeaa
open Go.RowKit

/-- the cells of bytes -/
def u8s (xs : List Int) : List Value := xs.map (Value.int .u8)
theorem u8s_length (xs : List Int) : (u8s xs).length = xs.length := by simp [u8s]
theorem u8s_append (xs ys : List Int) : u8s (xs ++ ys) = u8s xs ++ u8s ys := by simp [u8s]
theorem u8s_take (xs : List Int) (n : Nat) : u8s (xs.take n) = (u8s xs).take n := by simp [u8s]
theorem u8s_one (xs : List Int) : ∀ u ∈ u8s xs, u.oneCell' = true := by
  intro u hu
  simp only [u8s, List.mem_map] at hu
  obtain ⟨q, _, rfl⟩ := hu
  rfl
theorem u8s_at {xs : List Int} {j : Nat} (h : j < xs.length) : (u8s xs)[j]? = some (.int .u8 (xs.getD j 0)) := by
  simp [u8s, List.getElem?_eq_getElem h, List.getD_eq_getElem?_getD]

/-- a step that touches, of the old blocks, those of T alone -/
structure Chg (T : Nat → Prop) (w w' : World) : Prop where
  os : w'.os = w.os
  tape : w'.tape = w.tape
  output : w'.output = w.output
  size : w.heap.size ≤ w'.heap.size
  block : ∀ k, k < w.heap.size → ¬ T k → w'.heap[k]? = w.heap[k]?

theorem Chg.refl (T : Nat → Prop) (w : World) : Chg T w w := ⟨rfl, rfl, rfl, Nat.le_refl _, fun _ _ _ => rfl⟩
theorem Chg.mono {T T' : Nat → Prop} {w w' : World} (h : Chg T w w') (hT : ∀ k, T k → T' k) : Chg T' w w' := ⟨h.os, h.tape, h.output, h.size, fun k hk hn => h.block k hk (fun ht => hn (hT k ht))⟩
/-- two steps; of what the second touches only the old blocks count -/
theorem Chg.trans {T T1 T2 : Nat → Prop} {a b c : World} (h : Chg T1 a b) (k : Chg T2 b c) (h1 : ∀ i, i < a.heap.size → T1 i → T i) (h2 : ∀ i, i < a.heap.size → T2 i → T i) : Chg T a c :=
  ⟨k.os.trans h.os, k.tape.trans h.tape, k.output.trans h.output, Nat.le_trans h.size k.size, fun i hi hn => (k.block i (Nat.lt_of_lt_of_le hi h.size) (fun ht => hn (h2 i hi ht))).trans (h.block i hi (fun ht => hn (h1 i hi ht)))⟩
theorem Chg.drew {T : Nat → Prop} {a w : World} (h : Chg T a w) : Chg T a w.drew := ⟨h.os, h.tape, h.output, h.size, h.block⟩
theorem Chg.of_drew {T : Nat → Prop} {a w : World} (h : Chg T a.drew w) : Chg T a w := ⟨h.os, h.tape, h.output, h.size, h.block⟩
theorem Chg.alloc {T : Nat → Prop} {a w : World} (h : Chg T a w) (o : Obj) : Chg T a (w.alloc o) :=
  ⟨h.os, h.tape, h.output, by have := h.size; simp; omega, fun k hk hn => (Below.heap_alloc w o k (by have := h.size; omega)).trans (h.block k hk hn)⟩
theorem Chg.setCell {T : Nat → Prop} {a w : World} (h : Chg T a w) (p : Addr) (u : Value) (hp : p.block < a.heap.size → T p.block) : Chg T a (w.setCell p u) :=
  ⟨h.os, h.tape, h.output, by simpa using h.size, fun k hk hn => (Below.heap_setCell w p u k (fun e => hn (by rw [e] at hk ⊢; exact hp hk))).trans (h.block k hk hn)⟩
theorem Chg.of_grown {w w' : World} {row : Option Nat} (h : w.grownBy w' row) : Chg (fun k => some k = row) w w' := ⟨h.os, h.tape, h.output, h.size, fun k hk hn => h.block k hk hn⟩
theorem Chg.grown {T : Nat → Prop} {a w w' : World} {row : Option Nat} (h : Chg T a w) (hg : w.grownBy w' row) (hr : ∀ k, row = some k → k < a.heap.size → T k) : Chg T a w' :=
  h.trans (Chg.of_grown hg) (fun _ _ h => h) (fun i hi e => hr i e.symm hi)
theorem Chg.of_below {w w' : World} (h : Below w.heap.size w w') : Chg (fun _ => False) w w' := ⟨h.os, h.tape, h.output, h.size, fun k hk _ => h.block k hk⟩
theorem Chg.below {T : Nat → Prop} {B : Nat} {w w' : World} (h : Chg T w w') (hB : B ≤ w.heap.size) (hT : ∀ k, T k → B ≤ k) : Below B w w' :=
  ⟨h.os, h.tape, h.output, h.size, fun k hk => h.block k (by omega) (fun ht => by have := hT k ht; omega)⟩

/-- a slice of bytes that is read: address, length, what it holds -/
def Rd (w : World) (A : Option Addr) (n : Nat) (xs : List Int) : Prop :=
  xs.length = n ∧ (0 < n → ∃ b off, A = some ⟨b, off, none⟩ ∧ ∀ j, j < n → w.cell? ⟨b, off + j, none⟩ = some (.int .u8 (xs.getD j 0)))
theorem Rd.chg {T : Nat → Prop} {w w' : World} {A : Option Addr} {n : Nat} {xs : List Int} (h : Rd w A n xs) (hc : Chg T w w') (hT : ∀ a, A = some a → ¬ T a.block) : Rd w' A n xs := by
  refine ⟨h.1, fun hn => ?_⟩
  obtain ⟨b, off, rfl, hcell⟩ := h.2 hn
  refine ⟨b, off, rfl, fun j hj => ?_⟩
  have h1 := hcell j hj
  have hlt := World.block_lt_of_cell? w _ h1
  exact (World.cell?_of_block (hc.block b hlt (hT _ rfl))).trans h1
theorem Rd.below {w w' : World} {A : Option Addr} {n : Nat} {xs : List Int} (h : Rd w A n xs) (hb : Below w.heap.size w w') : Rd w' A n xs := h.chg (Chg.of_below hb) (fun _ _ h => h)
theorem Rd.drew {w : World} {A : Option Addr} {n : Nat} {xs : List Int} (h : Rd w A n xs) : Rd w.drew A n xs := h
theorem Rd.take {w : World} {A : Option Addr} {n : Nat} {xs : List Int} (h : Rd w A n xs) (i : Nat) (hi : i ≤ n) : Rd w A i (xs.take i) := by
  refine ⟨by rw [List.length_take, h.1]; omega, fun hp => ?_⟩
  obtain ⟨b, off, rfl, hc⟩ := h.2 (by omega)
  refine ⟨b, off, rfl, fun j hj => ?_⟩
  rw [hc j (by omega)]
  simp [List.getD_eq_getElem?_getD, hj]
/-- what it holds, as a string -/
theorem Rd.string {P : Program} {w : World} {A : Option Addr} {n c : Nat} {xs : List Int} (src e : TypeId) (hs : P.underlying src = some (.slice e)) (he : P.underlying e = some (.int .u8)) (h : Rd w A n xs) :
    ∀ dst, P.underlying dst = some .string → (convert src dst (.slice A n c)).run P w = .ok (.string (strOfNums xs)) w := by
  intro dst hd
  rcases A with _ | ad
  · have h0 : n = 0 := by
      rcases Nat.eq_zero_or_pos n with h0 | h0
      · exact h0
      · obtain ⟨b, off, h', _⟩ := h.2 h0
        cases h'
    have hx : xs = [] := List.eq_nil_of_length_eq_zero (h.1.trans h0)
    subst h0 hx
    exact run_convert_bytes_nil w src e hs he 0 c dst hd
  · rcases Nat.eq_zero_or_pos n with h0 | h0
    · have hx : xs = [] := List.eq_nil_of_length_eq_zero (h.1.trans h0)
      subst h0 hx
      rw [run_convert_bytes_string w src dst e _ 0 c hs he hd, run_bytesToString w ad 0 c [] (by simp [loadCells, loadCellsFrom, Sem.run_pure])]
      rfl
    · obtain ⟨b, off, h', hc⟩ := h.2 h0
      injection h' with h'
      subst h'
      exact run_convert_bytes_arg w src e hs he b off n c xs h.1 hc dst hd

/-- a row of bytes of the call's own; its capacity may be less than its block has cells -/
def Row (w : World) (base : Nat) (v : Value) (xs : List Int) : Prop :=
  (v = .slice none 0 0 ∧ xs = []) ∨
  ∃ g cap cur, v = .slice (some ⟨g, 0, none⟩) xs.length cap ∧ base ≤ g ∧ w.heap[g]? = some (.cells cur 5 (0, 0)) ∧ xs.length ≤ cap ∧ cap ≤ cur.size ∧ cap ≤ maxLen ∧ cur.toList.take xs.length = u8s xs
theorem Row.nil (w : World) (base : Nat) : Row w base (.slice none 0 0) [] := .inl ⟨rfl, rfl⟩
theorem Row.form {w : World} {base : Nat} {v : Value} {xs : List Int} (h : Row w base v xs) : ∃ A c, v = .slice A xs.length c ∧ xs.length ≤ c := by
  rcases h with ⟨rfl, rfl⟩ | ⟨g, cap, cur, rfl, _, _, hl, _⟩
  · exact ⟨none, 0, rfl, Nat.le_refl _⟩
  · exact ⟨_, cap, rfl, hl⟩
theorem Row.lt {w : World} {base : Nat} {v : Value} {xs : List Int} (h : Row w base v xs) : ∀ k, v.ownBlock = some k → base ≤ k ∧ k < w.heap.size ∧ ∃ cur, w.heap[k]? = some (.cells cur 5 (0, 0)) := by
  intro k hk
  rcases h with ⟨rfl, rfl⟩ | ⟨g, cap, cur, rfl, hb, hg, _⟩
  · simp [Value.ownBlock] at hk
  · have : g = k := by simpa [Value.ownBlock] using hk
    subst this
    exact ⟨hb, (Array.getElem?_eq_some_iff.1 hg).1, cur, hg⟩
theorem Row.move {w w' : World} {base : Nat} {v : Value} {xs : List Int} (h : Row w base v xs) (hm : ∀ k, v.ownBlock = some k → w'.heap[k]? = w.heap[k]?) : Row w' base v xs := by
  rcases h with h | ⟨g, cap, cur, rfl, hb, hg, r⟩
  · exact .inl h
  · exact .inr ⟨g, cap, cur, rfl, hb, (hm g (by simp [Value.ownBlock])).trans hg, r⟩
theorem Row.chg {T : Nat → Prop} {w w' : World} {base : Nat} {v : Value} {xs : List Int} (h : Row w base v xs) (hc : Chg T w w') (hT : ∀ k, v.ownBlock = some k → ¬ T k) : Row w' base v xs :=
  h.move fun k hk => hc.block k (h.lt k hk).2.1 (hT k hk)
theorem Row.below {w w' : World} {base : Nat} {v : Value} {xs : List Int} (h : Row w base v xs) (hb : Below w.heap.size w w') : Row w' base v xs := h.move fun k hk => hb.block k (h.lt k hk).2.1
theorem Row.lower {w : World} {base base' : Nat} {v : Value} {xs : List Int} (h : Row w base v xs) (hb : base' ≤ base) : Row w base' v xs := by
  rcases h with h | ⟨g, cap, cur, rfl, hg, r⟩
  · exact .inl h
  · exact .inr ⟨g, cap, cur, rfl, by omega, r⟩
/-- of another type's block -/
theorem Row.ne {w : World} {base : Nat} {v : Value} {xs : List Int} (h : Row w base v xs) {g : Nat} {T : TypeId} {cs : Array Value} {fr : Nat × Nat} (hg : w.heap[g]? = some (.cells cs T fr)) (hT : T ≠ 5) : v.ownBlock ≠ some g := by
  intro hk
  obtain ⟨_, _, cur, hc⟩ := h.lt g hk
  rw [hg] at hc
  injection hc with hc
  injection hc with _ hc
  exact hT hc
theorem Row.rd {w : World} {base : Nat} {A : Option Addr} {n c : Nat} {xs : List Int} (h : Row w base (.slice A n c) xs) : Rd w A n xs ∧ n = xs.length := by
  rcases h with ⟨h', rfl⟩ | ⟨g, cap, cur, h', _, hg, hl, hs, _, ht⟩
  · injection h' with h1 h2 h3
    subst h1 h2
    exact ⟨⟨rfl, fun h => absurd h (by omega)⟩, rfl⟩
  · injection h' with h1 h2 h3
    subst h1 h2
    refine ⟨⟨rfl, fun _ => ⟨g, 0, rfl, fun j hj => ?_⟩⟩, rfl⟩
    rw [cell_of_row w g (0 + j) cur 5 (0, 0) hg, Nat.zero_add]
    have := u8s_at hj
    rw [← ht, List.getElem?_take, if_pos hj] at this
    simpa using this
/-- out of what a law on append or make leaves -/
theorem Row.of_own {w : World} {base : Nat} {v : Value} {n : Nat} {xs : List Int} (h : w.ownsRow base 5 1 v n (u8s xs)) : Row w base v xs := by
  have hl : xs.length = n := by have := h.1; simpa [u8s] using this
  rcases h.2 with ⟨rfl, h0⟩ | ⟨g, cap, cur, rfl, hb, hg, hn, hm, hs, ht⟩
  · exact .inl ⟨rfl, List.eq_nil_of_length_eq_zero (by omega)⟩
  · subst hl
    exact .inr ⟨g, cap, cur, rfl, hb, hg, hn, by omega, hm, by simpa using ht⟩
/-- its first elements, with whatever capacity up to its own -/
theorem Row.clip {w : World} {base : Nat} {A : Option Addr} {n c : Nat} {xs : List Int} (h : Row w base (.slice A n c) xs) (k c' : Nat) (hk : k ≤ n) (hc : k ≤ c') (hc' : c' ≤ c) : Row w base (.slice A k c') (xs.take k) := by
  rcases h with ⟨h', rfl⟩ | ⟨g, cap, cur, h', hb, hg, hl, hs, hm, ht⟩
  · injection h' with h1 h2 h3
    subst h1 h2 h3
    obtain rfl : k = 0 := by omega
    obtain rfl : c' = 0 := by omega
    exact .inl ⟨rfl, rfl⟩
  · injection h' with h1 h2 h3
    subst h1 h2 h3
    have hlen : (xs.take k).length = k := by rw [List.length_take]; omega
    refine .inr ⟨g, c', cur, by rw [hlen], hb, hg, by omega, by omega, by omega, ?_⟩
    rw [hlen, u8s_take, ← ht, List.take_take, Nat.min_eq_left hk]

/-- a new row is an old one's or lies in a new block -/
def Fresh (w : World) (v v' : Value) : Prop := v'.ownBlock = v.ownBlock ∨ ∃ k, v'.ownBlock = some k ∧ w.heap.size ≤ k

section
variable {P : Program}
/-- append(v, ys...) onto a row of one's own -/
theorem run_append_row (w : World) (base : Nat) (t ty : TypeId) (i : TypeInfo) (ht : P.underlying t = some (.slice 5)) (hi : P.info? 5 = some i) (hz0 : i.zero = some (.int .u8 0)) (hz1 : i.size = 1) (hz2 : i.bytes = 1)
    (v : Value) (xs ys : List Int) (A : Option Addr) (m c : Nat) (HO : Row w base v xs) (HR : Rd w A m ys) (hbase : base ≤ w.heap.size) (hl : xs.length + ys.length ≤ 140737488355328) :
    ∃ v1 w1, (Builtin.append_ #[t, t] ty #[v, .slice A m c]).run P w = .ok v1 w1 ∧ Row w1 base v1 (xs ++ ys) ∧ w.grownBy w1 v.ownBlock ∧ Fresh w v v1 := by
  have hm : ys.length = m := HR.1
  have h63 : xs.length + m ≤ maxLen := by simp only [maxLen]; omega
  rcases A with _ | ad
  · have h0 : m = 0 := by
      rcases Nat.eq_zero_or_pos m with h0 | h0
      · exact h0
      · obtain ⟨b, off, h, _⟩ := HR.2 h0
        cases h
    subst h0
    obtain rfl : ys = [] := List.eq_nil_of_length_eq_zero hm
    refine ⟨v, w, ?_, by simpa using HO, World.grownBy.refl w _, .inl rfl⟩
    rcases HO with ⟨rfl, rfl⟩ | ⟨g, cap, cur, rfl, _, _, hnc, _⟩
    · simp [Builtin.append_, run_underlying ht, sizeOf, typeInfo, hi, Builtin.lenOf, Builtin.firstCells]
    · simp [Builtin.append_, run_underlying ht, sizeOf, typeInfo, hi, Builtin.lenOf, Builtin.firstCells, hnc, storeCells]
  · have hcells : ∀ j u, (u8s ys)[j]? = some u → w.cell? (ad.add j) = some u := by
      intro j u hu
      have hj : j < ys.length := by
        rcases Nat.lt_or_ge j ys.length with h | h
        · exact h
        · rw [List.getElem?_eq_none (by rw [u8s_length]; exact h)] at hu; cases hu
      obtain ⟨b, off, h', hc⟩ := HR.2 (by omega)
      injection h' with h'
      subst h'
      have hadd : (⟨b, off, none⟩ : Addr).add j = ⟨b, off + j, none⟩ := by unfold Addr.add; split <;> simp_all
      rw [hadd, hc j (by omega), ← u8s_at hj]
      exact hu
    rcases HO with ⟨rfl, rfl⟩ | ⟨g, cap, cur, rfl, hb, hg, hnc, hcs, hcm, htk⟩
    · obtain ⟨v1, w1, hr, h2, h3, _, h5⟩ := run_append_own_at (P := P) w base t ty 5 i (.int .u8 0) 1 1 ht hi hz0 hz1 hz2 rfl (by omega) (.slice none 0 0) 0 [] (World.ownsRow_nil w _ _ _) ad m c (u8s ys) (by simp [u8s, hm]) hcells (u8s_one ys) (by simpa using h63) (by simp at hl; omega) hbase
      refine ⟨v1, w1, hr, Row.of_own (n := 0 + m) (by simpa using h2), h3, ?_⟩
      rcases h5 with h5 | h5
      · exact .inl h5
      · exact .inr ⟨_, h5, Nat.le_refl _⟩
    · by_cases hroom : xs.length + m ≤ cap
      · have hlt : g < w.heap.size := (Array.getElem?_eq_some_iff.1 hg).1
        refine ⟨_, _, run_append_room w t ty 5 i ht hi g xs.length cap cur hg ad m c (u8s ys) (by rw [u8s_length, hz1]; omega) hcells (u8s_one ys) hroom (by rw [u8s_length, hz1]; omega), ?_, ?_, .inl rfl⟩
        · refine .inr ⟨g, cap, _, by rw [List.length_append, hm], hb, setRow_heap w g cur _ 5 (0, 0) hg, by rw [List.length_append]; omega, ?_, hcm, ?_⟩
          · simp [u8s_length, hz1]; omega
          · simp only [hz1, Nat.mul_one, htk]
            rw [List.length_append, u8s_append]
            simp [u8s_length, List.take_append, List.take_of_length_le]
        · exact ⟨rfl, rfl, rfl, by simp, fun k hk hne => setRow_other w g k _ (fun e => hne (by simp [Value.ownBlock, e]))⟩
      · obtain ⟨v1, w1, hr, h2, h3⟩ := run_append_arg_grows (P := P) w t ty 5 i (.int .u8 0) 1 1 ht hi hz0 hz1 hz2 rfl (by omega) ⟨g, 0, none⟩ xs.length cap (u8s xs) (by simp [u8s]) (by
            intro j u hu
            rw [Addr.add_lit, Nat.zero_add, cell_of_row w g j cur 5 (0, 0) hg]
            rw [← htk, List.getElem?_take] at hu
            split at hu
            · simpa using hu
            · cases hu) ad m c (u8s ys) (by simp [u8s, hm]) hcells (by omega) h63 (by omega)
        rw [← u8s_append] at h2
        have h2' := h2
        refine ⟨v1, w1, hr, (Row.of_own h2).lower hbase, ⟨h3.os, h3.tape, h3.output, h3.size, fun k hk _ => h3.block k hk (by simp)⟩, ?_⟩
        obtain ⟨g', cap', rfl, hge, _⟩ := h2'.form (by omega)
        exact .inr ⟨g', rfl, hge⟩

/-- at the operation -/
theorem wp_append_row {o : Oper} {a : Act} {w : World} {K : Act → World → Prop} {Q : Exit → Act → World → Prop} (base : Nat) (s x : Operand) (t : TypeId)
    (ho : o.op = .call { callee := .builtin .append, args := #[s, x], argTypes := #[t, t] }) (ht : P.underlying t = some (.slice 5)) (hinfo : (P.info? 5).map (fun i => (i.zero, i.size, i.bytes)) = some (some (.int .u8 0), 1, 1))
    (v : Value) (xs ys : List Int) (A : Option Addr) (m c : Nat) (hs : a.eval s = v) (hx : a.eval x = .slice A m c) (HO : Row w base v xs) (HR : Rd w A m ys) (hbase : base ≤ w.heap.size) (hl : xs.length + ys.length ≤ 140737488355328)
    (h : ∀ v1 w1, Row w1 base v1 (xs ++ ys) → w.grownBy w1 v.ownBlock → Fresh w v v1 → K (a.put o.dst v1) w1) : o.wp P a w K Q := by
  obtain ⟨i0, hi, hzz⟩ := Option.map_eq_some_iff.1 hinfo
  simp only [Prod.mk.injEq] at hzz
  obtain ⟨hz0, hz1, hz2⟩ := hzz
  obtain ⟨v1, w1, hr, h2, h3, h4⟩ := run_append_row (P := P) w base t o.type i0 ht hi hz0 hz1 hz2 v xs ys A m c HO HR hbase hl
  unfold Oper.wp execOp
  simp only [ho, resolve, invoke, builtin, Sem.run_bind, Sem.run_pure, Result.andThen_ok, List.map_toArray, List.map_cons, List.map_nil, hs, hx, hr]
  exact h v1 w1 h2 h3 h4
/-- in the list of a plain region -/
theorem wpList_append_row {ops : Array Oper} {rest : List Oper} {o : Oper} {a : Act} {w : World} {Q : Exit → Act → World → Prop} (hgd : o.guard = none) (base : Nat) (s x : Operand) (t : TypeId)
    (ho : o.op = .call { callee := .builtin .append, args := #[s, x], argTypes := #[t, t] }) (ht : P.underlying t = some (.slice 5)) (hinfo : (P.info? 5).map (fun i => (i.zero, i.size, i.bytes)) = some (some (.int .u8 0), 1, 1))
    (v : Value) (xs ys : List Int) (A : Option Addr) (m c : Nat) (hs : a.eval s = v) (hx : a.eval x = .slice A m c) (HO : Row w base v xs) (HR : Rd w A m ys) (hbase : base ≤ w.heap.size) (hl : xs.length + ys.length ≤ 140737488355328)
    (h : ∀ v1 w1, Row w1 base v1 (xs ++ ys) → w.grownBy w1 v.ownBlock → Fresh w v v1 → wpList P ops Q rest (a.put o.dst v1) w1) : wpList P ops Q (o :: rest) a w :=
  wpList_plain hgd fun _ hK => wp_append_row base s x t ho ht hinfo v xs ys A m c hs hx HO HR hbase hl fun v1 w1 h2 h3 h4 => hK _ _ (h v1 w1 h2 h3 h4)
/-- at a step of a region that draws -/
theorem step_append_row {ops : Array Oper} {o : Oper} {a : Act} {w : World} {K : Act → World → Prop} {Q : Exit → Act → World → Prop} {E : Prop} (hgd : o.guard = none) (base : Nat) (s x : Operand) (t : TypeId)
    (ho : o.op = .call { callee := .builtin .append, args := #[s, x], argTypes := #[t, t] }) (ht : P.underlying t = some (.slice 5)) (hinfo : (P.info? 5).map (fun i => (i.zero, i.size, i.bytes)) = some (some (.int .u8 0), 1, 1))
    (v : Value) (xs ys : List Int) (A : Option Addr) (m c : Nat) (hs : a.eval s = v) (hx : a.eval x = .slice A m c) (HO : Row w base v xs) (HR : Rd w A m ys) (hbase : base ≤ w.heap.size) (hl : xs.length + ys.length ≤ 140737488355328)
    (h : ∀ v1 w1, Row w1 base v1 (xs ++ ys) → w.grownBy w1 v.ownBlock → Fresh w v v1 → K (a.put o.dst v1) w1) :
    if Region.wanted o (yielded ops a.tmps) = true then Oper.wp P o a w K Q else E := by
  have hw : Region.wanted o (yielded ops a.tmps) = true := by simp [Region.wanted, hgd]
  rw [if_pos hw]
  exact wp_append_row base s x t ho ht hinfo v xs ys A m c hs hx HO HR hbase hl h
end

/-- a disk behind a pointer: its row of bytes, how many are sure -/
def DiskAt (T : TypeId) (w : World) (base g : Nat) (v : Value) (bs : List Int) (s : Int) : Prop :=
  w.heap[g]? = some (.cells #[v, .int .i64 s] T (0, 0)) ∧ base ≤ g ∧ Row w base v bs ∧ bs.length ≤ 1000000 ∧ 0 ≤ s ∧ s ≤ bs.length
theorem DiskAt.cells {T : TypeId} {w : World} {base g : Nat} {v : Value} {bs : List Int} {s : Int} (h : DiskAt T w base g v bs s) :
    w.cell? ⟨g, 0, none⟩ = some v ∧ w.cell? ⟨g, 1, none⟩ = some (.int .i64 s) ∧ w.frozen? ⟨g, 0, none⟩ = false ∧ w.frozen? ⟨g, 1, none⟩ = false := by
  refine ⟨?_, ?_, ?_, ?_⟩
  · rw [cell_of_row w g 0 _ T (0, 0) h.1]; rfl
  · rw [cell_of_row w g 1 _ T (0, 0) h.1]; rfl
  · simp [World.frozen?, h.1]
  · simp [World.frozen?, h.1]
theorem DiskAt.lt {T : TypeId} {w : World} {base g : Nat} {v : Value} {bs : List Int} {s : Int} (h : DiskAt T w base g v bs s) : g < w.heap.size := (Array.getElem?_eq_some_iff.1 h.1).1
theorem DiskAt.chg {T : TypeId} {U : Nat → Prop} {w w' : World} {base g : Nat} {v : Value} {bs : List Int} {s : Int} (h : DiskAt T w base g v bs s) (hc : Chg U w w') (h0 : ¬ U g) (h1 : ∀ k, v.ownBlock = some k → ¬ U k) : DiskAt T w' base g v bs s :=
  ⟨(hc.block g h.lt h0).trans h.1, h.2.1, h.2.2.1.chg hc h1, h.2.2.2⟩
theorem DiskAt.below {T : TypeId} {w w' : World} {base g : Nat} {v : Value} {bs : List Int} {s : Int} (h : DiskAt T w base g v bs s) (hb : Below w.heap.size w w') : DiskAt T w' base g v bs s := h.chg (Chg.of_below hb) (fun h => h) (fun _ _ h => h)
/-- both fields written -/
theorem disk_put {T : TypeId} {w : World} {g : Nat} {u v x y : Value} (h : w.heap[g]? = some (.cells #[u, x] T (0, 0))) : (w.setCell ⟨g, 0, none⟩ v).heap[g]? = some (.cells #[v, x] T (0, 0)) ∧ (w.setCell ⟨g, 1, none⟩ y).heap[g]? = some (.cells #[u, y] T (0, 0)) := by
  constructor <;> (simp only [World.setCell, Array.getElem?_modify, if_true, h]; rfl)
end Go.Proofs.Ytnlfjjafamkmeaa
