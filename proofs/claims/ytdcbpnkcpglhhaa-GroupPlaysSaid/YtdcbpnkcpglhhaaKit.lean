/- Words for rows of elements of whatever size that a call has made itself, and whose capacity may be less than the block has cells; what a step leaves alone; append onto such a row, clear of its end. -/
import Derived.WalkKit
import Derived.Maps.AppendAt
import Derived.Deep.AppendLies
import Derived.Deep.RegionLaw
import Derived.Lib.Hide
import Derived.Test.YtdcbpnkcpglhhaaRel
namespace Go.Proofs.Ytdcbpnkcpglhhaa
open Go.RowKit
set_option linter.unusedVariables false

/-- a step that touches, of the old blocks, those of T alone -/
structure Chg (T : Nat → Prop) (w w' : World) : Prop where
  os : w'.os = w.os
  tape : w'.tape = w.tape
  output : w'.output = w.output
  size : w.heap.size ≤ w'.heap.size
  block : ∀ k, k < w.heap.size → ¬ T k → w'.heap[k]? = w.heap[k]?

theorem Chg.refl (T : Nat → Prop) (w : World) : Chg T w w := ⟨rfl, rfl, rfl, Nat.le_refl _, fun _ _ _ => rfl⟩
theorem Chg.mono {T T' : Nat → Prop} {w w' : World} (h : Chg T w w') (hT : ∀ k, k < w.heap.size → T k → T' k) : Chg T' w w' := ⟨h.os, h.tape, h.output, h.size, fun k hk hn => h.block k hk (fun ht => hn (hT k hk ht))⟩
/-- two steps; of what the second touches only the old blocks count -/
theorem Chg.trans {T T1 T2 : Nat → Prop} {a b c : World} (h : Chg T1 a b) (k : Chg T2 b c) (h1 : ∀ i, i < a.heap.size → T1 i → T i) (h2 : ∀ i, i < a.heap.size → T2 i → T i) : Chg T a c :=
  ⟨k.os.trans h.os, k.tape.trans h.tape, k.output.trans h.output, Nat.le_trans h.size k.size, fun i hi hn => (k.block i (Nat.lt_of_lt_of_le hi h.size) (fun ht => hn (h2 i hi ht))).trans (h.block i hi (fun ht => hn (h1 i hi ht)))⟩
theorem Chg.drew {T : Nat → Prop} {a w : World} (h : Chg T a w) : Chg T a w.drew := ⟨h.os, h.tape, h.output, h.size, h.block⟩
theorem Chg.drewN {T : Nat → Prop} {a w : World} (h : Chg T a w) (n : Nat) : Chg T a (w.drewN n) := ⟨h.os, h.tape, h.output, h.size, h.block⟩
theorem Chg.of_drew {T : Nat → Prop} {a w : World} (h : Chg T a.drew w) : Chg T a w := ⟨h.os, h.tape, h.output, h.size, h.block⟩
theorem Chg.alloc {T : Nat → Prop} {a w : World} (h : Chg T a w) (o : Obj) : Chg T a (w.alloc o) :=
  ⟨h.os, h.tape, h.output, by have := h.size; simp; omega, fun k hk hn => (Below.heap_alloc w o k (by have := h.size; omega)).trans (h.block k hk hn)⟩
theorem Chg.setCell {T : Nat → Prop} {a w : World} (h : Chg T a w) (p : Addr) (u : Value) (hp : p.block < a.heap.size → T p.block) : Chg T a (w.setCell p u) :=
  ⟨h.os, h.tape, h.output, by simpa using h.size, fun k hk hn => (Below.heap_setCell w p u k (fun e => hn (by rw [e] at hk ⊢; exact hp hk))).trans (h.block k hk hn)⟩
theorem Chg.setRow {T : Nat → Prop} {a w : World} (h : Chg T a w) (g : Nat) (cs : Array Value) (hp : g < a.heap.size → T g) : Chg T a (w.setRow g cs) :=
  ⟨h.os, h.tape, h.output, by simpa using h.size, fun k hk hn => (setRow_other w g k cs (fun e => hn (by rw [e] at hk ⊢; exact hp hk))).trans (h.block k hk hn)⟩
theorem Chg.of_grown {w w' : World} {row : Option Nat} (h : w.grownBy w' row) : Chg (fun k => some k = row) w w' := ⟨h.os, h.tape, h.output, h.size, fun k hk hn => h.block k hk hn⟩
theorem Chg.grown {T : Nat → Prop} {a w w' : World} {row : Option Nat} (h : Chg T a w) (hg : w.grownBy w' row) (hr : ∀ k, row = some k → k < a.heap.size → T k) : Chg T a w' :=
  h.trans (Chg.of_grown hg) (fun _ _ h => h) (fun i hi e => hr i e.symm hi)
theorem Chg.of_ext {w w' : World} (h : Ext w w') : Chg (fun _ => False) w w' := ⟨h.os, h.tape, h.output, h.size, fun k hk _ => h.block k hk⟩
theorem Chg.ext {T : Nat → Prop} {a w w' : World} (h : Chg T a w) (hx : Ext w w') : Chg T a w' := h.trans (Chg.of_ext hx) (fun _ _ h => h) (fun _ _ h => h.elim)
theorem Chg.below {T : Nat → Prop} {B : Nat} {w w' : World} (h : Chg T w w') (hB : B ≤ w.heap.size) (hT : ∀ k, T k → B ≤ k) : Below B w w' :=
  ⟨h.os, h.tape, h.output, h.size, fun k hk => h.block k (by omega) (fun ht => by have := hT k ht; omega)⟩
theorem Chg.cell {T : Nat → Prop} {w w' : World} (h : Chg T w w') {a : Addr} {v : Value} (hc : w.cell? a = some v) (hn : ¬ T a.block) : w'.cell? a = some v :=
  (World.cell?_of_block (h.block a.block (World.block_lt_of_cell? w a hc) hn)).trans hc
theorem Chg.obj {T : Nat → Prop} {w w' : World} (h : Chg T w w') {g : Nat} {o : Obj} (hc : w.heap[g]? = some o) (hn : ¬ T g) : w'.heap[g]? = some o :=
  (h.block g (Array.getElem?_eq_some_iff.1 hc).1 hn).trans hc
theorem Ext.drewN {w w' : World} (h : Ext w w') (n : Nat) : Ext w (w'.drewN n) := ⟨h.os, h.tape, h.output, h.size, h.block⟩
theorem Ext.obj {w w' : World} (h : Ext w w') {g : Nat} {o : Obj} (hc : w.heap[g]? = some o) : w'.heap[g]? = some o := (h.block g (Array.getElem?_eq_some_iff.1 hc).1).trans hc
theorem Ext.size_le' {w w' : World} (h : Ext w w') : w.heap.size ≤ w'.heap.size := h.size

/-- a slice of bytes that is read, in a block that S doesn't hold -/
def Bt (w : World) (S : Nat → Prop) (A : Option Addr) (n : Nat) (xs : List Int) : Prop :=
  xs.length = n ∧ (0 < n → ∃ b off, A = some ⟨b, off, none⟩ ∧ ¬ S b ∧ ∀ j, j < n → w.cell? ⟨b, off + j, none⟩ = some (.int .u8 (xs.getD j 0)))
theorem Bt.chg {T S S' : Nat → Prop} {w w' : World} {A : Option Addr} {n : Nat} {xs : List Int} (h : Bt w S A n xs) (hc : Chg T w w') (hT : ∀ k, k < w.heap.size → T k → S k) (hS : ∀ k, k < w.heap.size → S' k → S k) : Bt w' S' A n xs := by
  refine ⟨h.1, fun hn => ?_⟩
  obtain ⟨b, off, rfl, hb, hcell⟩ := h.2 hn
  have hlt := World.block_lt_of_cell? w _ (hcell 0 hn)
  exact ⟨b, off, rfl, fun h' => hb (hS b hlt h'), fun j hj => hc.cell (hcell j hj) (fun ht => hb (hT b hlt ht))⟩
theorem Bt.ext {S : Nat → Prop} {w w' : World} {A : Option Addr} {n : Nat} {xs : List Int} (h : Bt w S A n xs) (hx : Ext w w') : Bt w' S A n xs := h.chg (Chg.of_ext hx) (fun _ _ h => h.elim) (fun _ _ h => h)
theorem Bt.nil (w : World) (S : Nat → Prop) (A : Option Addr) : Bt w S A 0 [] := ⟨rfl, fun h => absurd h (Nat.lt_irrefl 0)⟩
/-- what it holds, as a string -/
theorem Bt.string {P : Program} {w : World} {S : Nat → Prop} {A : Option Addr} {n c : Nat} {xs : List Int} (src e : TypeId) (hs : P.underlying src = some (.slice e)) (he : P.underlying e = some (.int .u8)) (h : Bt w S A n xs) :
    ∀ dst, P.underlying dst = some .string → (convert src dst (.slice A n c)).run P w = .ok (.string (strOfNums xs)) w := by
  intro dst hd
  rcases A with _ | ad
  · have h0 : n = 0 := by
      rcases Nat.eq_zero_or_pos n with h0 | h0
      · exact h0
      · obtain ⟨b, off, h', _⟩ := h.2 h0
        cases h'
    have hx : xs = [] := List.eq_nil_of_length_eq_zero (h.1.trans h0)
    subst h0 hx
    exact run_convert_bytes_nil w src e hs he 0 c dst hd
  · rcases Nat.eq_zero_or_pos n with h0 | h0
    · have hx : xs = [] := List.eq_nil_of_length_eq_zero (h.1.trans h0)
      subst h0 hx
      rw [run_convert_bytes_string w src dst e _ 0 c hs he hd, run_bytesToString w ad 0 c [] (by simp [loadCells, loadCellsFrom, Sem.run_pure])]
      rfl
    · obtain ⟨b, off, h', _, hc⟩ := h.2 h0
      injection h' with h'
      subst h'
      exact run_convert_bytes_arg w src e hs he b off n c xs h.1 hc dst hd

/-- a row of n elements of sz cells each, of the call's own; its capacity may be less than its block has cells -/
def CRow (E : TypeId) (sz : Nat) (w : World) (base : Nat) (v : Value) (n : Nat) (cs : List Value) : Prop :=
  (v = .slice none 0 0 ∧ n = 0 ∧ cs = []) ∨
  ∃ g cap cur, v = .slice (some ⟨g, 0, none⟩) n cap ∧ base ≤ g ∧ w.heap[g]? = some (.cells cur E (0, 0)) ∧ n ≤ cap ∧ cap * sz ≤ cur.size ∧ cap ≤ maxLen ∧ cs.length = n * sz ∧ cur.toList.take (n * sz) = cs
section
variable {E : TypeId} {sz : Nat}
theorem CRow.nil (w : World) (base : Nat) : CRow E sz w base (.slice none 0 0) 0 [] := .inl ⟨rfl, rfl, rfl⟩
theorem CRow.length {w : World} {base : Nat} {v : Value} {n : Nat} {cs : List Value} (h : CRow E sz w base v n cs) : cs.length = n * sz := by
  rcases h with ⟨rfl, rfl, rfl⟩ | ⟨_, _, _, _, _, _, _, _, _, h, _⟩
  · simp
  · exact h
theorem CRow.form {w : World} {base : Nat} {v : Value} {n : Nat} {cs : List Value} (h : CRow E sz w base v n cs) : ∃ A c, v = .slice A n c ∧ n ≤ c ∧ c ≤ maxLen ∧ (A = none → n = 0 ∧ c = 0) := by
  rcases h with ⟨rfl, rfl, rfl⟩ | ⟨g, cap, cur, rfl, _, _, hl, _, hm, _⟩
  · exact ⟨none, 0, rfl, Nat.le_refl _, Nat.zero_le _, fun _ => ⟨rfl, rfl⟩⟩
  · exact ⟨_, cap, rfl, hl, hm, fun h => by cases h⟩
theorem CRow.lt {w : World} {base : Nat} {v : Value} {n : Nat} {cs : List Value} (h : CRow E sz w base v n cs) : ∀ k, v.ownBlock = some k → base ≤ k ∧ k < w.heap.size ∧ ∃ cur, w.heap[k]? = some (.cells cur E (0, 0)) := by
  intro k hk
  rcases h with ⟨rfl, _, _⟩ | ⟨g, cap, cur, rfl, hb, hg, _⟩
  · simp [Value.ownBlock] at hk
  · have : g = k := by simpa [Value.ownBlock] using hk
    subst this
    exact ⟨hb, (Array.getElem?_eq_some_iff.1 hg).1, cur, hg⟩
theorem CRow.move {w w' : World} {base : Nat} {v : Value} {n : Nat} {cs : List Value} (h : CRow E sz w base v n cs) (hm : ∀ k, v.ownBlock = some k → w'.heap[k]? = w.heap[k]?) : CRow E sz w' base v n cs := by
  rcases h with h | ⟨g, cap, cur, rfl, hb, hg, r⟩
  · exact .inl h
  · exact .inr ⟨g, cap, cur, rfl, hb, (hm g (by simp [Value.ownBlock])).trans hg, r⟩
theorem CRow.chg {T : Nat → Prop} {w w' : World} {base : Nat} {v : Value} {n : Nat} {cs : List Value} (h : CRow E sz w base v n cs) (hc : Chg T w w') (hT : ∀ k, v.ownBlock = some k → ¬ T k) : CRow E sz w' base v n cs :=
  h.move fun k hk => hc.block k (h.lt k hk).2.1 (hT k hk)
theorem CRow.ext {w w' : World} {base : Nat} {v : Value} {n : Nat} {cs : List Value} (h : CRow E sz w base v n cs) (hb : Ext w w') : CRow E sz w' base v n cs := h.move fun k hk => hb.block k (h.lt k hk).2.1
theorem CRow.lower {w : World} {base base' : Nat} {v : Value} {n : Nat} {cs : List Value} (h : CRow E sz w base v n cs) (hb : base' ≤ base) : CRow E sz w base' v n cs := by
  rcases h with h | ⟨g, cap, cur, rfl, hg, r⟩
  · exact .inl h
  · exact .inr ⟨g, cap, cur, rfl, by omega, r⟩
/-- of another type's block -/
theorem CRow.ne {w : World} {base : Nat} {v : Value} {n : Nat} {cs : List Value} (h : CRow E sz w base v n cs) {g : Nat} {T : TypeId} {cur : Array Value} {fr : Nat × Nat} (hg : w.heap[g]? = some (.cells cur T fr)) (hT : T ≠ E) : v.ownBlock ≠ some g := by
  intro hk
  obtain ⟨_, _, cur, hc⟩ := h.lt g hk
  rw [hg] at hc
  injection hc with hc
  injection hc with _ hc
  exact hT hc
theorem CRow.cell {w : World} {base : Nat} {A : Option Addr} {n m c : Nat} {cs : List Value} (h : CRow E sz w base (.slice A n c) m cs) (h0 : 0 < n) : ∃ g, A = some ⟨g, 0, none⟩ ∧ base ≤ g ∧ g < w.heap.size ∧ n = m ∧ ∀ j, j < n * sz → w.cell? ⟨g, j, none⟩ = cs[j]? ∧ w.frozen? ⟨g, j, none⟩ = false := by
  rcases h with ⟨h', _, _⟩ | ⟨g, cap, cur, h', hb, hg, hl, hs, _, hn, ht⟩
  · injection h' with h1 h2 h3
    omega
  · injection h' with h1 h2 h3
    subst h1 h2
    refine ⟨g, rfl, hb, (Array.getElem?_eq_some_iff.1 hg).1, rfl, fun j hj => ⟨?_, by simp [World.frozen?, hg]⟩⟩
    rw [cell_of_row w g j cur E (0, 0) hg, ← ht, List.getElem?_take, if_pos hj]
    simp
/-- out of what a law on append or make leaves -/
theorem CRow.of_own {w : World} {base : Nat} {v : Value} {n : Nat} {cs : List Value} (h : w.ownsRow base E sz v n cs) : CRow E sz w base v n cs := by
  rcases h.2 with ⟨rfl, h0⟩ | ⟨g, cap, cur, rfl, hb, hg, hn, hm, hs, ht⟩
  · have := h.1
    subst h0
    exact .inl ⟨rfl, rfl, List.eq_nil_of_length_eq_zero (by simpa using this)⟩
  · exact .inr ⟨g, cap, cur, rfl, hb, hg, hn, by omega, hm, h.1, ht⟩
/-- its first elements, with whatever capacity up to its own -/
theorem CRow.clip {w : World} {base : Nat} {A : Option Addr} {n c : Nat} {cs : List Value} (h : CRow E sz w base (.slice A n c) n cs) (k c' : Nat) (hk : k ≤ n) (hc : k ≤ c') (hc' : c' ≤ c) : CRow E sz w base (.slice A k c') k (cs.take (k * sz)) := by
  rcases h with ⟨h', _, rfl⟩ | ⟨g, cap, cur, h', hb, hg, hl, hs, hm, hn, ht⟩
  · injection h' with h1 h2 h3
    subst h1 h2 h3
    obtain rfl : k = 0 := by omega
    obtain rfl : c' = 0 := by omega
    exact .inl ⟨rfl, rfl, by simp⟩
  · injection h' with h1 h2 h3
    subst h1 h3
    have e1 : k * sz ≤ n * sz := Nat.mul_le_mul_right _ hk
    have e2 : c' * sz ≤ c * sz := Nat.mul_le_mul_right _ hc'
    refine .inr ⟨g, c', cur, rfl, hb, hg, hc, by omega, by omega, by rw [List.length_take, hn]; omega, ?_⟩
    rw [← ht, List.take_take, Nat.min_eq_left e1]
theorem CRow.block {w : World} {base : Nat} {A : Option Addr} {n c : Nat} {cs : List Value} (h : CRow E sz w base (.slice A n c) n cs) (h0 : A ≠ none) : ∃ g cur, A = some ⟨g, 0, none⟩ ∧ base ≤ g ∧ w.heap[g]? = some (.cells cur E (0, 0)) ∧ n ≤ c ∧ c * sz ≤ cur.size ∧ c ≤ maxLen ∧ cs.length = n * sz ∧ cur.toList.take (n * sz) = cs := by
  rcases h with ⟨h', _, _⟩ | ⟨g, cap, cur, h', r⟩
  · injection h' with h1 h2 h3
    exact absurd h1 h0
  · injection h' with h1 h2 h3
    subst h1 h3
    exact ⟨g, cur, rfl, r⟩

/-- a new row is an old one's or lies in a new block -/
def Fresh (w : World) (v v' : Value) : Prop := v'.ownBlock = v.ownBlock ∨ ∃ k, v'.ownBlock = some k ∧ w.heap.size ≤ k
/-- what is appended: m elements' cells -/
def Src (w : World) (sz : Nat) (A : Option Addr) (m : Nat) (news : List Value) : Prop :=
  news.length = m * sz ∧ (A = none → m = 0) ∧ (∀ ad, A = some ad → ∀ j u, news[j]? = some u → w.cell? (ad.add j) = some u) ∧ ∀ u ∈ news, u.oneCell' = true
theorem Src.at {w : World} {sz g o m : Nat} {news : List Value} (hl : news.length = m * sz) (hc : ∀ j u, news[j]? = some u → w.cell? ⟨g, o + j, none⟩ = some u) (h1 : ∀ u ∈ news, u.oneCell' = true) : Src w sz (some ⟨g, o, none⟩) m news :=
  ⟨hl, ⟨fun h => (by cases h), ⟨fun ad e j u hu => (by cases e; rw [Addr.add_lit]; exact hc j u hu), h1⟩⟩⟩
theorem Src.ext {w w' : World} {A : Option Addr} {m : Nat} {news : List Value} (h : Src w sz A m news) (hx : Ext w w') : Src w' sz A m news := ⟨h.1, h.2.1, fun ad e j u hu => hx.cell (h.2.2.1 ad e j u hu), h.2.2.2⟩

variable {P : Program}
/-- append(v, ys...) onto a row of one's own -/
theorem run_append_crow (w : World) (base : Nat) (t ty : TypeId) (i : TypeInfo) (z : Value) (bytes : Nat) (ht : P.underlying t = some (.slice E)) (hi : P.info? E = some i) (hz0 : i.zero = some z) (hz1 : i.size = sz) (hz2 : i.bytes = bytes) (hzs : z.cells.size = sz) (hsz : 0 < sz)
    (v : Value) (n : Nat) (xs : List Value) (A : Option Addr) (m c : Nat) (news : List Value) (HO : CRow E sz w base v n xs) (HR : Src w sz A m news) (hbase : base ≤ w.heap.size) (h63 : n + m ≤ maxLen) (hby : (n + m) * bytes ≤ 140737488355328) :
    ∃ v1 w1, (Builtin.append_ #[t, t] ty #[v, .slice A m c]).run P w = .ok v1 w1 ∧ CRow E sz w1 base v1 (n + m) (xs ++ news) ∧ w.grownBy w1 v.ownBlock ∧ Fresh w v v1 := by
  obtain ⟨hlen, hnone, hcells, hone⟩ := HR
  rcases A with _ | ad
  · obtain rfl := hnone rfl
    obtain rfl : news = [] := List.eq_nil_of_length_eq_zero (by simpa using hlen)
    refine ⟨v, w, ?_, by simpa using HO, World.grownBy.refl w _, .inl rfl⟩
    rcases HO with ⟨rfl, rfl, rfl⟩ | ⟨g, cap, cur, rfl, _, _, hnc, _⟩
    · simp [Builtin.append_, run_underlying ht, sizeOf, typeInfo, hi, Builtin.lenOf, Builtin.firstCells]
    · simp [Builtin.append_, run_underlying ht, sizeOf, typeInfo, hi, Builtin.lenOf, Builtin.firstCells, hnc, storeCells]
  · have hcells := hcells ad rfl
    rcases HO with ⟨rfl, rfl, rfl⟩ | ⟨g, cap, cur, rfl, hb, hg, hnc, hcs, hcm, hxl, htk⟩
    · obtain ⟨v1, w1, hr, h2, h3, _, h5⟩ := run_append_own_at (P := P) w base t ty E i z sz bytes ht hi hz0 hz1 hz2 hzs hsz (.slice none 0 0) 0 [] (World.ownsRow_nil w _ _ _) ad m c news hlen hcells hone h63 hby hbase
      refine ⟨v1, w1, hr, CRow.of_own h2, h3, ?_⟩
      rcases h5 with h5 | h5
      · exact .inl h5
      · exact .inr ⟨_, h5, Nat.le_refl _⟩
    · by_cases hroom : n + m ≤ cap
      · have hlt : g < w.heap.size := (Array.getElem?_eq_some_iff.1 hg).1
        have hfit : (n + m) * sz ≤ cur.size := Nat.le_trans (Nat.mul_le_mul_right _ hroom) hcs
        rw [Nat.add_mul] at hfit
        refine ⟨_, _, run_append_room w t ty E i ht hi g n cap cur hg ad m c news (by rw [hz1]; exact hlen) hcells hone hroom (by rw [hz1, hlen]; exact hfit), ?_, ?_, .inl rfl⟩
        · refine .inr ⟨g, cap, _, rfl, hb, setRow_heap w g cur _ E (0, 0) hg, by omega, ?_, hcm, by rw [List.length_append, hxl, hlen, Nat.add_mul], ?_⟩
          · simp only [hz1, List.size_toArray, List.length_append, List.length_take, List.length_drop, Array.length_toList]
            omega
          · simp only [hz1, htk]
            rw [Nat.add_mul, List.append_assoc, ← List.append_assoc xs]
            rw [List.take_append_of_le_length (by rw [List.length_append, hxl, hlen]; exact Nat.le_refl _), List.take_of_length_le (by rw [List.length_append, hxl, hlen]; exact Nat.le_refl _)]
        · exact ⟨rfl, rfl, rfl, by simp, fun k hk hne => setRow_other w g k _ (fun e => hne (by simp [Value.ownBlock, e]))⟩
      · obtain ⟨v1, w1, hr, h2, h3⟩ := run_append_arg_grows (P := P) w t ty E i z sz bytes ht hi hz0 hz1 hz2 hzs hsz ⟨g, 0, none⟩ n cap xs hxl (by
            intro j u hu
            rw [Addr.add_lit, Nat.zero_add, cell_of_row w g j cur E (0, 0) hg]
            rw [← htk, List.getElem?_take] at hu
            split at hu
            · simpa using hu
            · cases hu) ad m c news hlen hcells (by omega) h63 hby
        have h2' := h2
        refine ⟨v1, w1, hr, (CRow.of_own h2).lower hbase, ⟨h3.os, h3.tape, h3.output, h3.size, fun k hk _ => h3.block k hk (by simp)⟩, ?_⟩
        have hm1 : 0 < n + m := by omega
        obtain ⟨g', cap', rfl, hge, _⟩ := h2'.form hm1
        exact .inr ⟨g', rfl, hge⟩

theorem wp_append_crow {ops : Array Oper} {o : Oper} {a : Act} {w : World} {K : Act → World → Prop} {Q : Exit → Act → World → Prop} (base : Nat) (s x : Operand) (t : TypeId)
    (ho : o.op = .call { callee := .builtin .append, args := #[s, x], argTypes := #[t, t] }) (ht : P.underlying t = some (.slice E)) (bytes : Nat) (hinfo : (P.info? E).map (fun i => (i.zero.map (·.cells.size), i.size, i.bytes)) = some (some sz, sz, bytes)) (hsz : 0 < sz)
    (v : Value) (n : Nat) (xs news : List Value) (A : Option Addr) (m c : Nat) (hs : a.eval s = v) (hx : a.eval x = .slice A m c) (HO : CRow E sz w base v n xs) (HR : Src w sz A m news) (hbase : base ≤ w.heap.size) (h63 : n + m ≤ maxLen) (hby : (n + m) * bytes ≤ 140737488355328)
    (h : ∀ v1 w1, CRow E sz w1 base v1 (n + m) (xs ++ news) → w.grownBy w1 v.ownBlock → Fresh w v v1 → K (a.put o.dst v1) w1) : o.wp P a w K Q := by
  obtain ⟨i0, hi, hzz⟩ := Option.map_eq_some_iff.1 hinfo
  simp only [Prod.mk.injEq] at hzz
  obtain ⟨hz0, hz1, hz2⟩ := hzz
  obtain ⟨z, hz, hzc⟩ := Option.map_eq_some_iff.1 hz0
  obtain ⟨v1, w1, hr, h2, h3, h4⟩ := run_append_crow (P := P) w base t o.type i0 z bytes ht hi hz hz1 hz2 hzc hsz v n xs A m c news HO HR hbase h63 hby
  unfold Oper.wp execOp
  simp only [ho, resolve, invoke, builtin, Sem.run_bind, Sem.run_pure, Result.andThen_ok, List.map_toArray, List.map_cons, List.map_nil, hs, hx, hr]
  exact h v1 w1 h2 h3 h4
/-- in the list of a plain region -/
theorem wpList_append_crow {ops : Array Oper} {rest : List Oper} {o : Oper} {a : Act} {w : World} {Q : Exit → Act → World → Prop} (hgd : o.guard = none) (base : Nat) (s x : Operand) (t : TypeId)
    (ho : o.op = .call { callee := .builtin .append, args := #[s, x], argTypes := #[t, t] }) (ht : P.underlying t = some (.slice E)) (bytes : Nat) (hinfo : (P.info? E).map (fun i => (i.zero.map (·.cells.size), i.size, i.bytes)) = some (some sz, sz, bytes)) (hsz : 0 < sz)
    (v : Value) (n : Nat) (xs news : List Value) (A : Option Addr) (m c : Nat) (hs : a.eval s = v) (hx : a.eval x = .slice A m c) (HO : CRow E sz w base v n xs) (HR : Src w sz A m news) (hbase : base ≤ w.heap.size) (h63 : n + m ≤ maxLen) (hby : (n + m) * bytes ≤ 140737488355328)
    (h : ∀ v1 w1, CRow E sz w1 base v1 (n + m) (xs ++ news) → w.grownBy w1 v.ownBlock → Fresh w v v1 → wpList P ops Q rest (a.put o.dst v1) w1) : wpList P ops Q (o :: rest) a w :=
  wpList_plain hgd fun _ hK => wp_append_crow (ops := ops) base s x t ho ht bytes hinfo hsz v n xs news A m c hs hx HO HR hbase h63 hby fun v1 w1 h2 h3 h4 => hK _ _ (h v1 w1 h2 h3 h4)
/-- at a step of a region that draws -/
theorem step_append_crow {ops : Array Oper} {o : Oper} {a : Act} {w : World} {K : Act → World → Prop} {Q : Exit → Act → World → Prop} {F : Prop} (hgd : o.guard = none) (base : Nat) (s x : Operand) (t : TypeId)
    (ho : o.op = .call { callee := .builtin .append, args := #[s, x], argTypes := #[t, t] }) (ht : P.underlying t = some (.slice E)) (bytes : Nat) (hinfo : (P.info? E).map (fun i => (i.zero.map (·.cells.size), i.size, i.bytes)) = some (some sz, sz, bytes)) (hsz : 0 < sz)
    (v : Value) (n : Nat) (xs news : List Value) (A : Option Addr) (m c : Nat) (hs : a.eval s = v) (hx : a.eval x = .slice A m c) (HO : CRow E sz w base v n xs) (HR : Src w sz A m news) (hbase : base ≤ w.heap.size) (h63 : n + m ≤ maxLen) (hby : (n + m) * bytes ≤ 140737488355328)
    (h : ∀ v1 w1, CRow E sz w1 base v1 (n + m) (xs ++ news) → w.grownBy w1 v.ownBlock → Fresh w v v1 → K (a.put o.dst v1) w1) :
    if Region.wanted o (yielded ops a.tmps) = true then Oper.wp P o a w K Q else F := by
  have hw : Region.wanted o (yielded ops a.tmps) = true := by simp [Region.wanted, hgd]
  rw [if_pos hw]
  exact wp_append_crow (ops := ops) base s x t ho ht bytes hinfo hsz v n xs news A m c hs hx HO HR hbase h63 hby h
end
section
variable {P : Program}
/-- an append whose run is known, at a step of a region that draws -/
theorem step_append_run {ops : Array Oper} {o : Oper} {a : Act} {w : World} {K : Act → World → Prop} {Q : Exit → Act → World → Prop} {F : Prop} (hgd : o.guard = none) (s x : Operand) (t : TypeId)
    (ho : o.op = .call { callee := .builtin .append, args := #[s, x], argTypes := #[t, t] }) (v y v1 : Value) (w1 : World) (hs : a.eval s = v) (hx : a.eval x = y) (hrun : ∀ ty, (Builtin.append_ #[t, t] ty #[v, y]).run P w = .ok v1 w1)
    (h : K (a.put o.dst v1) w1) : if Region.wanted o (yielded ops a.tmps) = true then Oper.wp P o a w K Q else F := by
  have hw : Region.wanted o (yielded ops a.tmps) = true := by simp [Region.wanted, hgd]
  rw [if_pos hw]
  unfold Oper.wp execOp
  simp only [ho, resolve, invoke, builtin, Sem.run_bind, Sem.run_pure, Result.andThen_ok, List.map_toArray, List.map_cons, List.map_nil, hs, hx, hrun]
  exact h
theorem wpList_append_run {ops : Array Oper} {rest : List Oper} {o : Oper} {a : Act} {w : World} {Q : Exit → Act → World → Prop} (hgd : o.guard = none) (s x : Operand) (t : TypeId)
    (ho : o.op = .call { callee := .builtin .append, args := #[s, x], argTypes := #[t, t] }) (v y v1 : Value) (w1 : World) (hs : a.eval s = v) (hx : a.eval x = y) (hrun : ∀ ty, (Builtin.append_ #[t, t] ty #[v, y]).run P w = .ok v1 w1)
    (h : wpList P ops Q rest (a.put o.dst v1) w1) : wpList P ops Q (o :: rest) a w := by
  refine wpList_plain hgd fun K hK => ?_
  unfold Oper.wp execOp
  simp only [ho, resolve, invoke, builtin, Sem.run_bind, Sem.run_pure, Result.andThen_ok, List.map_toArray, List.map_cons, List.map_nil, hs, hx, hrun]
  exact hK _ _ h
end
/-- zero values stored over the end of a block -/
theorem run_clear_row {P : Program} (w : World) (t e ty : TypeId) (z : Value) (ht : P.underlying t = some (.slice e)) (hv : ∀ w, (zeroValue e).run P w = .ok z w) (h1 : ∀ u ∈ z.cells, u.oneCell' = true) (g o n c : Nat) (hn : 0 < n) (cur : Array Value) (E : TypeId) (hg : w.heap[g]? = some (.cells cur E (0, 0))) (hfit : o + n * z.cells.size ≤ cur.size) :
    ∃ cs : Array Value, (Builtin.clear_ #[t] ty #[.slice (some ⟨g, o, none⟩) n c]).run P w = .ok (.tuple #[]) (w.setRow g cs) ∧ cs.size = cur.size ∧ cs.toList.take o = cur.toList.take o := by
  obtain ⟨m, rfl⟩ : ∃ m, n = m + 1 := ⟨n - 1, by omega⟩
  have hl : (Builtin.zeroCells z.cells (m + 1)).toList.length = (m + 1) * z.cells.size := by simp [size_zeroCells]
  have h1' : ∀ u ∈ (Builtin.zeroCells z.cells (m + 1)).toList, u.oneCell' = true := by
    intro u hu
    simp only [Builtin.zeroCells, Array.toList_map, List.mem_map, Array.mem_toList_iff, Array.mem_range] at hu
    obtain ⟨i, hi, rfl⟩ := hu
    have hp : 0 < z.cells.size := by
      rcases Nat.eq_zero_or_pos z.cells.size with h | h
      · rw [h] at hi; simp at hi
      · exact h
    have hlt : i % z.cells.size < z.cells.size := Nat.mod_lt _ hp
    rw [getElem!_pos z.cells _ hlt]
    exact h1 _ (Array.getElem_mem hlt)
  have hst := run_storeCells_at P g o E (Builtin.zeroCells z.cells (m + 1)).toList 0 cur w hg (by rw [hl]; omega) h1'
  simp only [Nat.add_zero] at hst
  refine ⟨(cur.toList.take o ++ (Builtin.zeroCells z.cells (m + 1)).toList ++ cur.toList.drop (o + (Builtin.zeroCells z.cells (m + 1)).toList.length)).toArray, ?_, ?_, ?_⟩
  · simp [Builtin.clear_, run_underlying ht, hv, hst]
  · rw [List.size_toArray, List.length_append, List.length_append, hl, List.length_take, List.length_drop, Array.length_toList]
    omega
  · rw [List.append_assoc, List.take_append_of_le_length (by rw [List.length_take, Array.length_toList]; omega), List.take_take, Nat.min_self]
end Go.Proofs.Ytdcbpnkcpglhhaa
