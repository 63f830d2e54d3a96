/- The law DiskPlays, walked. -/
import Derived.Test.YtnlfjjafamkmeaaLaw2
namespace Go.Proofs.Ytnlfjjafamkmeaa
open Go.RowKit
set_option linter.unusedVariables false
attribute [local go_sem] stepR givesR fillE Ext.refl

theorem pw_cell {w w1 : World} (h : Below w.heap.size w w1) {a : Addr} {v : Value} (hc : w.cell? a = some v) : w1.cell? a = some v := (h.cell (World.block_lt_of_cell? w a hc)).trans hc
/-- an act that came in, at its three cells -/
structure ActV where
  what : Int
  num : Int
  A : Option Addr
  len : Nat
  cap : Nat
  xs : List Int
def ActAt (w : World) (b off : Nat) (x : ActV) : Prop :=
  w.cell? ⟨b, off, none⟩ = some (.int .u8 x.what) ∧ w.cell? ⟨b, off + 1, none⟩ = some (.int .i64 x.num) ∧ w.cell? ⟨b, off + 2, none⟩ = some (.slice x.A x.len x.cap) ∧ Rd w x.A x.len x.xs ∧ x.len ≤ x.cap ∧ 0 ≤ x.what ∧ x.what ≤ 255
def Acts (w : World) (A : Option Addr) (n : Nat) (f : Nat → ActV) : Prop := 0 < n → ∃ b off, A = some ⟨b, off, none⟩ ∧ ∀ j, j < n → ActAt w b (off + j * 3) (f j)

def Apart (v u : Value) : Prop := ∀ k, v.ownBlock = some k → u.ownBlock ≠ some k
/-- the disk and the reference's, alike -/
def Pair (W w : World) (g h : Nat) (bs : List Int) (s : Int) : Prop :=
  ∃ v u, DiskAt 40 w W.heap.size g v bs s ∧ DiskAt 34 w W.heap.size h u bs s ∧ Apart v u ∧ Below W.heap.size W w

/-- the disk, the reference's, a twin that stays -/
def Trio (X : Nat × Array Value) (W w : World) (g h g2 : Nat) (bs : List Int) (s : Int) (bs' : List Int) (s' : Int) (cb : List Int) (cs : Int) : Prop :=
  ∃ v u x, DiskAt 40 w W.heap.size g v bs s ∧ DiskAt 34 w W.heap.size h u bs' s' ∧ DiskAt 40 w W.heap.size g2 x cb cs ∧ Apart v u ∧ Apart v x ∧ Apart u x ∧ g ≠ g2 ∧ Below W.heap.size W w ∧ w.heap[X.1]? = some (.cells X.2 36 (0, 0))
def TStep (X : Nat × Array Value) (W : World) (g h g2 : Nat) (bs : List Int) (s : Int) (bs' : List Int) (s' : Int) (cb : List Int) (cs : Int) (e : Ending) (w' : World) : Prop := e = .returned (.tuple #[]) ∧ Trio X W w' g h g2 bs s bs' s' cb cs
theorem Trio.below {X : Nat × Array Value} {W w w' : World} {g h g2 : Nat} {bs : List Int} {s : Int} {bs' : List Int} {s' : Int} {cb : List Int} {cs : Int} (t : Trio X W w g h g2 bs s bs' s' cb cs) (hb : Below w.heap.size w w') : Trio X W w' g h g2 bs s bs' s' cb cs := by
  obtain ⟨v, u, x, h1, h2, h3, a1, a2, a3, hne, hB, hX⟩ := t
  exact ⟨v, u, x, h1.below hb, h2.below hb, h3.below hb, a1, a2, a3, hne, hB.trans (hb.mono hB.size), (hb.block X.1 (Array.getElem?_eq_some_iff.1 hX).1).trans hX⟩
theorem apart_fresh {T : TypeId} {w : World} {base g : Nat} {v v' u : Value} {bs : List Int} {s : Int} (hu : DiskAt T w base g u bs s) (hf : Fresh w v v') (ha : Apart v u) : Apart v' u := by
  intro k hk hk'
  rcases hf with hf | ⟨j, hj, hle⟩
  · exact ha k (hf ▸ hk) hk'
  · rw [hj] at hk
    injection hk with hk
    have := (hu.2.2.1.lt k hk').2.1
    omega
theorem Apart.symm {v u : Value} (h : Apart v u) : Apart u v := fun k hk hk' => h k hk' hk
theorem touch_row {T T' : TypeId} {w : World} {base base' g g' : Nat} {v u : Value} {bs bs' : List Int} {s s' : Int} (hd : DiskAt T w base g v bs s) (hu : DiskAt T' w base' g' u bs' s') (hT : T ≠ 5) (hT' : T' ≠ 5) (hne : g' ≠ g) (ha : Apart v u) : (¬ (g' = g ∨ some g' = v.ownBlock)) ∧ ∀ k, u.ownBlock = some k → ¬ (k = g ∨ some k = v.ownBlock) := by
  refine ⟨fun h => ?_, fun k hk h => ?_⟩
  · rcases h with h | h
    · exact hne h
    · exact hd.2.2.1.ne hu.1 hT' h.symm
  · rcases h with h | h
    · subst h
      exact hu.2.2.1.ne hd.1 hT hk
    · exact ha k h.symm hk
theorem types_ne {T T' : TypeId} {w : World} {base base' g g' : Nat} {v u : Value} {bs bs' : List Int} {s s' : Int} (hd : DiskAt T w base g v bs s) (hu : DiskAt T' w base' g' u bs' s') (hT : T ≠ T') : g' ≠ g := by
  rintro rfl
  have h1 := hd.1
  rw [hu.1] at h1
  injection h1 with h1
  injection h1 with _ h1
  exact hT h1.symm
theorem turned_below {T : TypeId} {W w w' : World} {g : Nat} {v : Value} {bs : List Int} {s : Int} (hd : DiskAt T w W.heap.size g v bs s) (hB : Below W.heap.size W w) (hc : Chg (fun k => k = g ∨ some k = v.ownBlock) w w') : Below W.heap.size W w' := by
  refine hB.trans (hc.below hB.size (fun k hk => ?_))
  rcases hk with rfl | hk
  · exact hd.2.1
  · exact (hd.2.2.1.lt k hk.symm).1
theorem touch_x {T : TypeId} {w w' : World} {base g q : Nat} {v : Value} {bs : List Int} {s : Int} {cs : Array Value} (hd : DiskAt T w base g v bs s) (hT : T ≠ 36) (h5 : (36 : TypeId) ≠ 5) (hc : Chg (fun k => k = g ∨ some k = v.ownBlock) w w') (hq : w.heap[q]? = some (.cells cs 36 (0, 0))) : w'.heap[q]? = some (.cells cs 36 (0, 0)) := by
  refine (hc.block q (Array.getElem?_eq_some_iff.1 hq).1 (fun h => ?_)).trans hq
  rcases h with rfl | h
  · have h1 := hd.1
    rw [hq] at h1
    injection h1 with h1
    injection h1 with _ h1
    exact hT h1.symm
  · exact hd.2.2.1.ne hq h5 h.symm
theorem tr_d {X : Nat × Array Value} {W w : World} {g h g2 : Nat} {bs : List Int} {s : Int} {bs' : List Int} {s' : Int} {cb : List Int} {cs : Int} (t : Trio X W w g h g2 bs s bs' s' cb cs) {P : Program} {f : FuncId} {args : Array Value} {bs1 : List Int} {s1 : Int}
    (hc : ∀ v, DiskAt 40 w W.heap.size g v bs s → W.heap.size ≤ w.heap.size → Calls P f args w (Turned 40 w W.heap.size g v bs1 s1)) : Calls P f args w (TStep X W g h g2 bs1 s1 bs' s' cb cs) := by
  obtain ⟨v, u, x, h1, h2, h3, a1, a2, a3, hne, hB, hX⟩ := t
  refine (hc v h1 hB.size).mono fun e w' ⟨v', he, d1, fr, ch⟩ => ⟨he, v', u, x, d1, ?_, ?_, apart_fresh h2 fr a1, apart_fresh h3 fr a2, a3, hne, turned_below h1 hB ch, touch_x h1 (by decide) (by decide) ch hX⟩
  · obtain ⟨t1, t2⟩ := touch_row h1 h2 (by decide) (by decide) (types_ne h1 h2 (by decide)) a1
    exact h2.chg ch t1 t2
  · obtain ⟨t1, t2⟩ := touch_row h1 h3 (by decide) (by decide) (Ne.symm hne) a2
    exact h3.chg ch t1 t2
theorem tr_r {X : Nat × Array Value} {W w : World} {g h g2 : Nat} {bs : List Int} {s : Int} {bs' : List Int} {s' : Int} {cb : List Int} {cs : Int} (t : Trio X W w g h g2 bs s bs' s' cb cs) {P : Program} {f : FuncId} {args : Array Value} {bs1 : List Int} {s1 : Int}
    (hc : ∀ v, DiskAt 34 w W.heap.size h v bs' s' → W.heap.size ≤ w.heap.size → Calls P f args w (Turned 34 w W.heap.size h v bs1 s1)) : Calls P f args w (TStep X W g h g2 bs s bs1 s1 cb cs) := by
  obtain ⟨v, u, x, h1, h2, h3, a1, a2, a3, hne, hB, hX⟩ := t
  refine (hc u h2 hB.size).mono fun e w' ⟨u', he, d1, fr, ch⟩ => ⟨he, v, u', x, ?_, d1, ?_, (apart_fresh h1 fr a1.symm).symm, a2, apart_fresh h3 fr a3, hne, turned_below h2 hB ch, touch_x h2 (by decide) (by decide) ch hX⟩
  · obtain ⟨t1, t2⟩ := touch_row h2 h1 (by decide) (by decide) (types_ne h2 h1 (by decide)) a1.symm
    exact h1.chg ch t1 t2
  · obtain ⟨t1, t2⟩ := touch_row h2 h3 (by decide) (by decide) (types_ne h2 h3 (by decide)) a3
    exact h3.chg ch t1 t2
/-- the reference's sync, a store of the law's own -/
theorem tr_rsync {X : Nat × Array Value} {W w : World} {g h g2 : Nat} {bs : List Int} {s : Int} {bs' : List Int} {s' : Int} {cb : List Int} {cs : Int} (t : Trio X W w g h g2 bs s bs' s' cb cs) : Trio X W (w.setCell ⟨h, 1, none⟩ (.int .i64 bs'.length)) g h g2 bs s bs' bs'.length cb cs := by
  obtain ⟨v, u, x, h1, h2, h3, a1, a2, a3, hne, hB, hX⟩ := t
  have ch : Chg (fun k => k = h ∨ some k = u.ownBlock) w (w.setCell ⟨h, 1, none⟩ (.int .i64 bs'.length)) := (Chg.refl _ _).setCell _ _ (fun _ => .inl rfl)
  have ch' : Chg (fun k => k = h) w (w.setCell ⟨h, 1, none⟩ (.int .i64 bs'.length)) := (Chg.refl _ _).setCell _ _ (fun _ => rfl)
  refine ⟨v, u, x, ?_, ⟨(disk_put (v := undef) h2.1).2, h2.2.1, h2.2.2.1.chg ch' (fun k hk e => h2.2.2.1.ne h2.1 (by decide) (e ▸ hk)), h2.2.2.2.1, by omega, Int.le_refl _⟩, ?_, a1, a2, a3, hne, turned_below h2 hB ch, touch_x h2 (by decide) (by decide) ch hX⟩
  · obtain ⟨t1, t2⟩ := touch_row h2 h1 (by decide) (by decide) (types_ne h2 h1 (by decide)) a1.symm
    exact h1.chg ch t1 t2
  · obtain ⟨t1, t2⟩ := touch_row h2 h3 (by decide) (by decide) (types_ne h2 h3 (by decide)) a3
    exact h3.chg ch t1 t2
def TwinStep (X : Nat × Array Value) (W : World) (g h : Nat) (bs : List Int) (s : Int) (e : Ending) (w' : World) : Prop := ∃ g2, e = .returned (.pointer (some ⟨g2, 0, none⟩)) ∧ Trio X W w' g h g2 bs s bs s bs s
theorem tr_twin (X : Nat × Array Value) {W w : World} {g h : Nat} {bs : List Int} {s : Int} (p : Pair W w g h bs s) (hX : w.heap[X.1]? = some (.cells X.2 36 (0, 0))) : Calls Try.prog 13 #[.pointer (some ⟨g, 0, none⟩)] w (TwinStep X W g h bs s) := by
  obtain ⟨v, u, h1, h2, a1, hB⟩ := p
  refine (twin_any g _ v bs s w h1).mono fun e w' ⟨g2, x, he, hg2, hx, hb⟩ => ⟨g2, he, v, u, x, h1.below hb, h2.below hb, hx.lower hB.size, a1, ?_, ?_, ?_, hB.trans (hb.mono hB.size), (hb.block X.1 (Array.getElem?_eq_some_iff.1 hX).1).trans hX⟩
  · intro k hk hk'
    have := (h1.2.2.1.lt k hk).2.1
    have := (hx.2.2.1.lt k hk').1
    omega
  · intro k hk hk'
    have := (h2.2.2.1.lt k hk).2.1
    have := (hx.2.2.1.lt k hk').1
    omega
  · have := h1.lt
    omega
theorem Pair.below {W w w' : World} {g h : Nat} {bs : List Int} {s : Int} (p : Pair W w g h bs s) (hb : Below w.heap.size w w') : Pair W w' g h bs s := by
  obtain ⟨v, u, h1, h2, a1, hB⟩ := p
  exact ⟨v, u, h1.below hb, h2.below hb, a1, hB.trans (hb.mono hB.size)⟩
theorem Trio.pair {X : Nat × Array Value} {W w : World} {g h g2 : Nat} {bs : List Int} {s : Int} {cb : List Int} {cs : Int} (t : Trio X W w g h g2 bs s bs s cb cs) : Pair W w g h bs s := by
  obtain ⟨v, u, x, h1, h2, h3, a1, a2, a3, hne, hB, hX⟩ := t
  exact ⟨v, u, h1, h2, a1, hB⟩
theorem Trio.st {X : Nat × Array Value} {W w : World} {g h g2 : Nat} {bs : List Int} {s : Int} {bs' : List Int} {s' : Int} {cb : List Int} {cs : Int} (t : Trio X W w g h g2 bs s bs' s' cb cs) : St W w g bs s ∧ St W w g2 cb cs ∧ Below W.heap.size W w := by
  obtain ⟨v, u, x, h1, h2, h3, a1, a2, a3, hne, hB, hX⟩ := t
  exact ⟨⟨⟨v, h1⟩, hB⟩, ⟨⟨x, h3⟩, hB⟩, hB⟩
/-- what the law reads of the reference's -/
theorem Trio.ref {X : Nat × Array Value} {W w : World} {g h g2 : Nat} {bs : List Int} {s : Int} {bs' : List Int} {s' : Int} {cb : List Int} {cs : Int} (t : Trio X W w g h g2 bs s bs' s' cb cs) :
    ∃ A c, w.cell? ⟨h, 0, none⟩ = some (.slice A bs'.length c) ∧ w.cell? ⟨h, 1, none⟩ = some (.int .i64 s') ∧ w.frozen? ⟨h, 1, none⟩ = false ∧ Rd w A bs'.length bs' := by
  obtain ⟨v, u, x, h1, h2, h3, a1, a2, a3, hne, hB, hX⟩ := t
  obtain ⟨c0, c1, f0, f1⟩ := h2.cells
  obtain ⟨A, c, rfl, _⟩ := h2.2.2.1.form
  exact ⟨A, c, c0, c1, f1, h2.2.2.1.rd.1⟩

theorem Trio.act {q : Nat} {cs : Array Value} {W w : World} {g h g2 : Nat} {bs : List Int} {s : Int} {bs' : List Int} {s' : Int} {cb : List Int} {cs' : Int} (t : Trio (q, cs) W w g h g2 bs s bs' s' cb cs') (i : Nat) (v : Value) (hi : cs[i]? = some v) : w.cell? ⟨q, i, none⟩ = some v := by
  obtain ⟨v, u, x, h1, h2, h3, a1, a2, a3, hne, hB, hX⟩ := t
  exact (cell_of_row w q i _ 36 (0, 0) hX).trans hi

def PairK (W w : World) (g h k : Nat) : Prop := ∃ bs s, Pair W w g h bs s ∧ bs.length ≤ 60 * k
theorem pair_start {W w : World} {g : Nat} (h : St W w g [] 0) : PairK W (w.alloc (.cells #[.slice none 0 0, .int .i64 0] 34)) g w.heap.size 0 := by
  obtain ⟨⟨v, hd⟩, hb⟩ := (h.alloc (.cells #[.slice none 0 0, .int .i64 0] 34))
  exact ⟨[], 0, ⟨v, .slice none 0 0, hd, ⟨heap_alloc_new w _, h.2.size, Row.nil _ _, by simp, Int.le_refl _, Int.le_refl _⟩, fun k hk => by simp [Value.ownBlock], hb⟩, by simp⟩

set_option maxRecDepth 100000 in
set_option maxHeartbeats 4000000 in
theorem plays_law (A : Option Addr) (n c : Nat) (f : Nat → ActV) (w : World) (ha : Acts w A n f) (hnc : n ≤ c) : Calls Try.prog 4 #[.slice A n c] w (TruePost w) := by
  have HA := Lib.hid ha
  clear ha
  by_cases hn : 60 < n
  · have hn' : (60 : Int) < (n : Int) := by omega
    go_enter Try.func4, Try.ntmps4
    go_wp2_with (go_at_call 6; refine (known_any _).mono ?_; rintro e w1 ⟨rfl, h1⟩)
    go_ret
    exact ⟨rfl, h1⟩
  have hn' : ((60 : Int) < (n : Int)) = False := by simp; omega
  go_enter Try.func4, Try.ntmps4
  go_wp2_with (go_at_call 6; refine (known_any _).mono ?_; rintro e w1 ⟨rfl, h1⟩; have H1 := Lib.hid h1; clear h1)
  refine (st_new w w1 H1.out).mono ?_
  rintro e w2 ⟨g, rfl, h2⟩
  have H2 := Lib.hid h2
  clear h2
  go_wp2_with fail
  have HP : Hid (PairK w (w2.alloc (.cells #[.slice none 0 0, .int .i64 0] 34)) g w2.heap.size 0) := Lib.hid (pair_start H2.out)
  obtain ⟨hh, hhe⟩ : ∃ hh, hh = w2.heap.size := ⟨_, rfl⟩
  obtain ⟨w3, hw3⟩ : ∃ w3, w3 = w2.alloc (.cells #[.slice none 0 0, .int .i64 0] 34) := ⟨_, rfl⟩
  rw [← hhe, ← hw3]
  rw [← hhe, ← hw3] at HP
  clear hhe hw3
  go_loopw [5] (fun i wr => ∃ k : Nat, k ≤ n ∧ i = .int .i64 k ∧ PairK w wr g hh k) (fun i _ => n - (intOf i).toNat)
  case atStart => exact ⟨0, Nat.zero_le _, rfl, HP.out⟩
  case round =>
    obtain ⟨k, hk, rfl, hp⟩ := hrel
    by_cases hlt : k < n
    · obtain ⟨bs, s, hp, hl⟩ := hp
      obtain ⟨b, off, rfl, hact⟩ := HA.out (by omega)
      obtain ⟨e0, e1, e2, e3, e4, e5, e6⟩ := hact k hlt
      have hBw : Below w.heap.size w wr := by obtain ⟨_, _, _, _, _, hB⟩ := hp; exact hB
      have c0 := pw_cell hBw e0
      have c1 := pw_cell hBw e1
      have c2 := pw_cell hBw e2
      obtain ⟨⟨what, num, B, m, d, xs⟩, hfk⟩ : ∃ x, f k = x := ⟨_, rfl⟩
      rw [hfk] at e3 e4 e5 e6 c0 c1 c2
      clear hfk
      simp only at e3 e4 e5 e6 c0 c1 c2
      have HR := Lib.hid (And.intro (e3.below hBw) (And.intro hp (And.intro hl e3.1)))
      have HX6 : ∀ w', Below w.heap.size w w' → Rd w' B m xs := fun w' hb => e3.below hb
      clear e0 e1 e2 e3 hact hp hl hBw
      have hki : (k : Int) < (n : Int) := by omega
      by_cases hm : 60 < m
      · have hm' : (60 : Int) < (m : Int) := by omega
        go_wp2
        go_ret
        obtain ⟨v, u, _, _, _, hb⟩ := HR.out.2.1.below ((Below.refl _ _).alloc (Nat.le_refl _) _)
        exact ⟨rfl, hb⟩
      have hm' : ((60 : Int) < (m : Int)) = False := by simp; omega
      go_wp2_with fail
      refine (tr_twin (wr.heap.size, #[.int .u8 what, .int .i64 num, .slice B m d]) (HR.out.2.1.below ((Below.refl _ _).alloc (Nat.le_refl _) _)) (heap_alloc_new wr _)).mono ?_
      rintro e w5 ⟨g2, rfl, h5⟩
      have H5 := Lib.hid h5
      clear h5
      go_wp2_with fail
      refine wp_region_rel' 7 (by kernel_rfl) (by kernel_rfl) (fun Fin hFin => ?_)
      simp only [List.take_succ_cons, List.take_zero]
      repeat (refine relGo_p (fun K hK => ?_); go_simp; refine hK _ ?_; clear hK K)
      refine relGo_r (Reads bs) Reads.later ?_ ?_
      · intro w' hw'
        go_simp
        refine (st_bytes ((H5.out.below hw').st.1)).mono ?_
        rintro e w'' ⟨A', c', rfl, h, hb⟩
        exact ⟨_, rfl, hb, A', c', rfl, h⟩
      refine relGo_q (.string (strOfNums bs)) ?_ (fun K hK => ?_)
      · intro w' hw' v hv
        obtain ⟨A', c', rfl, hr⟩ := hv (by kernel_rfl)
        have kz := hr.string (P := Try.prog) (c := c') 22 5 Try.underlying22 Try.underlying5 9 Try.underlying9
        go_simp
      go_simp
      refine hK _ ?_
      clear hK K
      repeat (refine relGo_p (fun K hK => ?_); go_simp; refine hK _ ?_; clear hK K)
      refine relGo_q (.int .i64 s) ?_ (fun K hK => ?_)
      · intro w' hw' v hv
        go_simp
        refine (st_sure ((H5.out.below hw').st.1)).mono ?_
        rintro e w'' ⟨rfl, rfl⟩
        exact ⟨rfl, Ext.refl _⟩
      go_simp
      refine hK _ ?_
      clear hK K
      repeat (refine relGo_p (fun K hK => ?_); go_simp; refine hK _ ?_; clear hK K)
      refine hFin _ _ (fun w6 hw6 => ?_)
      intro v hv
      clear hFin Fin hv
      have H6 := Lib.hid (H5.out.below hw6)
      have x0 : w6.cell? ⟨wr.heap.size, 0, none⟩ = some (.int .u8 what) := H6.out.act 0 _ rfl
      have x1 : w6.cell? ⟨wr.heap.size, 1, none⟩ = some (.int .i64 num) := H6.out.act 1 _ rfl
      have x2 : w6.cell? ⟨wr.heap.size, 2, none⟩ = some (.slice B m d) := H6.out.act 2 _ rfl
      clear hw6
      go_wp2_with fail
      · -- WAY
        refine (tr_d H6.out (fun v hv hb => sync_any g _ v bs s w6 hv)).mono ?_
        rintro e w7 ⟨rfl, h7⟩
        have H7 := Lib.hid h7
        obtain ⟨R', rc', q0, q1, qf, _⟩ := h7.ref
        clear h7
        go_wp2_with fail
        obtain ⟨w8, hw8⟩ : ∃ w8, w7.setCell ⟨hh, 1, none⟩ (.int .i64 (bs.length : Int)) = w8 := ⟨_, rfl⟩
        rw [hw8]
        obtain ⟨bs1, s1, H8, hl8⟩ : ∃ bs1 s1, Hid (Trio (wr.heap.size, #[.int .u8 what, .int .i64 num, .slice B m d]) w w8 g hh g2 bs1 s1 bs1 s1 bs s) ∧ bs1.length ≤ 60 * (k + 1) := ⟨_, _, Lib.hid (hw8 ▸ tr_rsync H7.out), by
          have := HR.out
          omega⟩
        clear q0 q1 qf hw8 H7
        clear x0 x1 x2
        obtain ⟨R, rc, r0, r1, _, rr⟩ := H8.out.ref
        have C0 : ∀ p : Later (w8), p.w.cell? ⟨hh, 0, none⟩ = some (.slice R (bs1).length rc) := fun p => p.cell r0
        have C1 : ∀ p : Later (w8), p.w.cell? ⟨hh, 1, none⟩ = some (.int .i64 (s1)) := fun p => p.cell r1
        have CK : ∀ p : Later (w8), (convert 22 9 (.slice R (bs1).length rc)).run Try.prog p.w = .ok (.string (strOfNums (bs1))) p.w := fun p => (rr.below p.h).string 22 5 Try.underlying22 Try.underlying5 9 Try.underlying9
        clear rr r0 r1
        refine wp_region_rel' 31 (by kernel_rfl) (by kernel_rfl) (fun Fin hFin => ?_)
        simp only [List.take_succ_cons, List.take_zero]
        repeat (refine relGo_p (fun K hK => ?_); go_simp; refine hK _ ?_; clear hK K)
        refine relGo_r (Reads (bs1)) Reads.later ?_ ?_
        · intro w' hw'
          go_simp
          refine (st_bytes ((H8.out.below hw').st.1)).mono ?_
          rintro e w'' ⟨A', c', rfl, h, hb⟩
          exact ⟨_, rfl, hb, A', c', rfl, h⟩
        refine relGo_q (.string (strOfNums (bs1))) ?_ (fun K hK => ?_)
        · intro w' hw' v hv
          obtain ⟨A', c', rfl, hr⟩ := hv (by kernel_rfl)
          have kz := hr.string (P := Try.prog) (c := c') 22 5 Try.underlying22 Try.underlying5 9 Try.underlying9
          go_simp
        go_simp
        refine hK _ ?_
        clear hK K
        repeat (refine relGo_p (fun K hK => ?_); go_simp; refine hK _ ?_; clear hK K)
        refine relGo_q (.int .i64 (s1)) ?_ (fun K hK => ?_)
        · intro w' hw' v hv
          go_simp
          refine (st_sure ((H8.out.below hw').st.1)).mono ?_
          rintro e w'' ⟨rfl, rfl⟩
          exact ⟨rfl, Ext.refl _⟩
        go_simp
        refine hK _ ?_
        clear hK K
        repeat (refine relGo_p (fun K hK => ?_); go_simp; refine hK _ ?_; clear hK K)
        refine relGo_r (Reads bs) Reads.later ?_ ?_
        · intro w' hw' v hv
          go_simp
          refine (st_bytes ((H8.out.below hw').st.2.1)).mono ?_
          rintro e w'' ⟨A', c', rfl, h, hb⟩
          exact ⟨_, rfl, hb, A', c', rfl, h⟩
        refine relGo_q (.string (strOfNums bs)) ?_ (fun K hK => ?_)
        · intro w' hw' v hv v' hv'
          obtain ⟨A', c', rfl, hr⟩ := hv' (by kernel_rfl)
          have kz := hr.string (P := Try.prog) (c := c') 22 5 Try.underlying22 Try.underlying5 9 Try.underlying9
          go_simp
        go_simp
        refine hK _ ?_
        clear hK K
        repeat (refine relGo_p (fun K hK => ?_); go_simp; refine hK _ ?_; clear hK K)
        refine relGo_q (.int .i64 s) ?_ (fun K hK => ?_)
        · intro w' hw' v hv v' hv'
          go_simp
          refine (st_sure ((H8.out.below hw').st.2.1)).mono ?_
          rintro e w'' ⟨rfl, rfl⟩
          exact ⟨rfl, Ext.refl _⟩
        go_simp
        refine hK _ ?_
        clear hK K
        repeat (refine relGo_p (fun K hK => ?_); go_simp; refine hK _ ?_; clear hK K)
        refine hFin _ _ (fun w9 hw9 => ?_)
        intro v1 hv1 v2 hv2
        clear hFin Fin hv1 hv2 C0 C1 CK
        have H9 := Lib.hid (H8.out.below hw9)
        clear hw9
        go_wp2
        go_roundw
        case rel => exact ⟨k + 1, by omega, by go_num, ⟨_, _, H9.out.pair, hl8⟩⟩
        case measure => simp [intOf]; omega
      · -- WAY
        refine (tr_d H6.out (fun v hv hb => truncate_any g _ v bs s num w6 hv)).mono ?_
        rintro e w7 ⟨rfl, h7⟩
        have H7 := Lib.hid h7
        clear h7 x0 x1 x2
        have x0 : w7.cell? ⟨wr.heap.size, 0, none⟩ = some (.int .u8 what) := H7.out.act 0 _ rfl
        have x1 : w7.cell? ⟨wr.heap.size, 1, none⟩ = some (.int .i64 num) := H7.out.act 1 _ rfl
        have x2 : w7.cell? ⟨wr.heap.size, 2, none⟩ = some (.slice B m d) := H7.out.act 2 _ rfl
        go_wp2_with fail
        refine (tr_r H7.out (fun v hv hb => rtruncate_any hh _ v bs s num w7 hv)).mono ?_
        rintro e w8 ⟨rfl, h8⟩
        obtain ⟨bs1, s1, H8, hl8⟩ : ∃ bs1 s1, Hid (Trio (wr.heap.size, #[.int .u8 what, .int .i64 num, .slice B m d]) w w8 g hh g2 bs1 s1 bs1 s1 bs s) ∧ bs1.length ≤ 60 * (k + 1) := ⟨_, _, Lib.hid h8, by
          have := HR.out
          rw [List.length_take]; omega⟩
        clear h8 H7
        go_wp2_with fail
        clear x0 x1 x2
        obtain ⟨R, rc, r0, r1, _, rr⟩ := H8.out.ref
        have C0 : ∀ p : Later (w8), p.w.cell? ⟨hh, 0, none⟩ = some (.slice R (bs1).length rc) := fun p => p.cell r0
        have C1 : ∀ p : Later (w8), p.w.cell? ⟨hh, 1, none⟩ = some (.int .i64 (s1)) := fun p => p.cell r1
        have CK : ∀ p : Later (w8), (convert 22 9 (.slice R (bs1).length rc)).run Try.prog p.w = .ok (.string (strOfNums (bs1))) p.w := fun p => (rr.below p.h).string 22 5 Try.underlying22 Try.underlying5 9 Try.underlying9
        clear rr r0 r1
        refine wp_region_rel' 31 (by kernel_rfl) (by kernel_rfl) (fun Fin hFin => ?_)
        simp only [List.take_succ_cons, List.take_zero]
        repeat (refine relGo_p (fun K hK => ?_); go_simp; refine hK _ ?_; clear hK K)
        refine relGo_r (Reads (bs1)) Reads.later ?_ ?_
        · intro w' hw'
          go_simp
          refine (st_bytes ((H8.out.below hw').st.1)).mono ?_
          rintro e w'' ⟨A', c', rfl, h, hb⟩
          exact ⟨_, rfl, hb, A', c', rfl, h⟩
        refine relGo_q (.string (strOfNums (bs1))) ?_ (fun K hK => ?_)
        · intro w' hw' v hv
          obtain ⟨A', c', rfl, hr⟩ := hv (by kernel_rfl)
          have kz := hr.string (P := Try.prog) (c := c') 22 5 Try.underlying22 Try.underlying5 9 Try.underlying9
          go_simp
        go_simp
        refine hK _ ?_
        clear hK K
        repeat (refine relGo_p (fun K hK => ?_); go_simp; refine hK _ ?_; clear hK K)
        refine relGo_q (.int .i64 (s1)) ?_ (fun K hK => ?_)
        · intro w' hw' v hv
          go_simp
          refine (st_sure ((H8.out.below hw').st.1)).mono ?_
          rintro e w'' ⟨rfl, rfl⟩
          exact ⟨rfl, Ext.refl _⟩
        go_simp
        refine hK _ ?_
        clear hK K
        repeat (refine relGo_p (fun K hK => ?_); go_simp; refine hK _ ?_; clear hK K)
        refine relGo_r (Reads bs) Reads.later ?_ ?_
        · intro w' hw' v hv
          go_simp
          refine (st_bytes ((H8.out.below hw').st.2.1)).mono ?_
          rintro e w'' ⟨A', c', rfl, h, hb⟩
          exact ⟨_, rfl, hb, A', c', rfl, h⟩
        refine relGo_q (.string (strOfNums bs)) ?_ (fun K hK => ?_)
        · intro w' hw' v hv v' hv'
          obtain ⟨A', c', rfl, hr⟩ := hv' (by kernel_rfl)
          have kz := hr.string (P := Try.prog) (c := c') 22 5 Try.underlying22 Try.underlying5 9 Try.underlying9
          go_simp
        go_simp
        refine hK _ ?_
        clear hK K
        repeat (refine relGo_p (fun K hK => ?_); go_simp; refine hK _ ?_; clear hK K)
        refine relGo_q (.int .i64 s) ?_ (fun K hK => ?_)
        · intro w' hw' v hv v' hv'
          go_simp
          refine (st_sure ((H8.out.below hw').st.2.1)).mono ?_
          rintro e w'' ⟨rfl, rfl⟩
          exact ⟨rfl, Ext.refl _⟩
        go_simp
        refine hK _ ?_
        clear hK K
        repeat (refine relGo_p (fun K hK => ?_); go_simp; refine hK _ ?_; clear hK K)
        refine hFin _ _ (fun w9 hw9 => ?_)
        intro v1 hv1 v2 hv2
        clear hFin Fin hv1 hv2 C0 C1 CK
        have H9 := Lib.hid (H8.out.below hw9)
        clear hw9
        go_wp2
        go_roundw
        case rel => exact ⟨k + 1, by omega, by go_num, ⟨_, _, H9.out.pair, hl8⟩⟩
        case measure => simp [intOf]; omega
      · -- WAY
        refine (tr_d H6.out (fun v hv hb => crash_any g _ v bs s num w6 hv)).mono ?_
        rintro e w7 ⟨rfl, h7⟩
        have H7 := Lib.hid h7
        clear h7 x0 x1 x2
        have x0 : w7.cell? ⟨wr.heap.size, 0, none⟩ = some (.int .u8 what) := H7.out.act 0 _ rfl
        have x1 : w7.cell? ⟨wr.heap.size, 1, none⟩ = some (.int .i64 num) := H7.out.act 1 _ rfl
        have x2 : w7.cell? ⟨wr.heap.size, 2, none⟩ = some (.slice B m d) := H7.out.act 2 _ rfl
        go_wp2_with fail
        refine (tr_r H7.out (fun v hv hb => rcrash_any hh _ v bs s num w7 hv)).mono ?_
        rintro e w8 ⟨rfl, h8⟩
        obtain ⟨bs1, s1, H8, hl8⟩ : ∃ bs1 s1, Hid (Trio (wr.heap.size, #[.int .u8 what, .int .i64 num, .slice B m d]) w w8 g hh g2 bs1 s1 bs1 s1 bs s) ∧ bs1.length ≤ 60 * (k + 1) := ⟨_, _, Lib.hid h8, by
          have := HR.out
          rw [List.length_take]; omega⟩
        clear h8 H7
        go_wp2_with fail
        clear x0 x1 x2
        obtain ⟨R, rc, r0, r1, _, rr⟩ := H8.out.ref
        have C0 : ∀ p : Later (w8), p.w.cell? ⟨hh, 0, none⟩ = some (.slice R (bs1).length rc) := fun p => p.cell r0
        have C1 : ∀ p : Later (w8), p.w.cell? ⟨hh, 1, none⟩ = some (.int .i64 (s1)) := fun p => p.cell r1
        have CK : ∀ p : Later (w8), (convert 22 9 (.slice R (bs1).length rc)).run Try.prog p.w = .ok (.string (strOfNums (bs1))) p.w := fun p => (rr.below p.h).string 22 5 Try.underlying22 Try.underlying5 9 Try.underlying9
        clear rr r0 r1
        refine wp_region_rel' 31 (by kernel_rfl) (by kernel_rfl) (fun Fin hFin => ?_)
        simp only [List.take_succ_cons, List.take_zero]
        repeat (refine relGo_p (fun K hK => ?_); go_simp; refine hK _ ?_; clear hK K)
        refine relGo_r (Reads (bs1)) Reads.later ?_ ?_
        · intro w' hw'
          go_simp
          refine (st_bytes ((H8.out.below hw').st.1)).mono ?_
          rintro e w'' ⟨A', c', rfl, h, hb⟩
          exact ⟨_, rfl, hb, A', c', rfl, h⟩
        refine relGo_q (.string (strOfNums (bs1))) ?_ (fun K hK => ?_)
        · intro w' hw' v hv
          obtain ⟨A', c', rfl, hr⟩ := hv (by kernel_rfl)
          have kz := hr.string (P := Try.prog) (c := c') 22 5 Try.underlying22 Try.underlying5 9 Try.underlying9
          go_simp
        go_simp
        refine hK _ ?_
        clear hK K
        repeat (refine relGo_p (fun K hK => ?_); go_simp; refine hK _ ?_; clear hK K)
        refine relGo_q (.int .i64 (s1)) ?_ (fun K hK => ?_)
        · intro w' hw' v hv
          go_simp
          refine (st_sure ((H8.out.below hw').st.1)).mono ?_
          rintro e w'' ⟨rfl, rfl⟩
          exact ⟨rfl, Ext.refl _⟩
        go_simp
        refine hK _ ?_
        clear hK K
        repeat (refine relGo_p (fun K hK => ?_); go_simp; refine hK _ ?_; clear hK K)
        refine relGo_r (Reads bs) Reads.later ?_ ?_
        · intro w' hw' v hv
          go_simp
          refine (st_bytes ((H8.out.below hw').st.2.1)).mono ?_
          rintro e w'' ⟨A', c', rfl, h, hb⟩
          exact ⟨_, rfl, hb, A', c', rfl, h⟩
        refine relGo_q (.string (strOfNums bs)) ?_ (fun K hK => ?_)
        · intro w' hw' v hv v' hv'
          obtain ⟨A', c', rfl, hr⟩ := hv' (by kernel_rfl)
          have kz := hr.string (P := Try.prog) (c := c') 22 5 Try.underlying22 Try.underlying5 9 Try.underlying9
          go_simp
        go_simp
        refine hK _ ?_
        clear hK K
        repeat (refine relGo_p (fun K hK => ?_); go_simp; refine hK _ ?_; clear hK K)
        refine relGo_q (.int .i64 s) ?_ (fun K hK => ?_)
        · intro w' hw' v hv v' hv'
          go_simp
          refine (st_sure ((H8.out.below hw').st.2.1)).mono ?_
          rintro e w'' ⟨rfl, rfl⟩
          exact ⟨rfl, Ext.refl _⟩
        go_simp
        refine hK _ ?_
        clear hK K
        repeat (refine relGo_p (fun K hK => ?_); go_simp; refine hK _ ?_; clear hK K)
        refine hFin _ _ (fun w9 hw9 => ?_)
        intro v1 hv1 v2 hv2
        clear hFin Fin hv1 hv2 C0 C1 CK
        have H9 := Lib.hid (H8.out.below hw9)
        clear hw9
        go_wp2
        go_roundw
        case rel => exact ⟨k + 1, by omega, by go_num, ⟨_, _, H9.out.pair, hl8⟩⟩
        case measure => simp [intOf]; omega
      · -- WAY
        refine (tr_d H6.out (fun v hv hb => append_any g _ v bs xs s B m d w6 hv hb (HX6 w6 H6.out.st.2.2) (by have := HR.out; omega))).mono ?_
        rintro e w7 ⟨rfl, h7⟩
        have H7 := Lib.hid h7
        clear h7 x0 x1 x2
        have x0 : w7.cell? ⟨wr.heap.size, 0, none⟩ = some (.int .u8 what) := H7.out.act 0 _ rfl
        have x1 : w7.cell? ⟨wr.heap.size, 1, none⟩ = some (.int .i64 num) := H7.out.act 1 _ rfl
        have x2 : w7.cell? ⟨wr.heap.size, 2, none⟩ = some (.slice B m d) := H7.out.act 2 _ rfl
        go_wp2_with fail
        refine (tr_r H7.out (fun v hv hb => rappend_any hh _ v bs xs s B m d w7 hv hb (HX6 w7 H7.out.st.2.2) (by have := HR.out; omega))).mono ?_
        rintro e w8 ⟨rfl, h8⟩
        obtain ⟨bs1, s1, H8, hl8⟩ : ∃ bs1 s1, Hid (Trio (wr.heap.size, #[.int .u8 what, .int .i64 num, .slice B m d]) w w8 g hh g2 bs1 s1 bs1 s1 bs s) ∧ bs1.length ≤ 60 * (k + 1) := ⟨_, _, Lib.hid h8, by
          have := HR.out
          rw [List.length_append]; omega⟩
        clear h8 H7
        go_wp2_with fail
        clear x0 x1 x2
        obtain ⟨R, rc, r0, r1, _, rr⟩ := H8.out.ref
        have C0 : ∀ p : Later (w8), p.w.cell? ⟨hh, 0, none⟩ = some (.slice R (bs1).length rc) := fun p => p.cell r0
        have C1 : ∀ p : Later (w8), p.w.cell? ⟨hh, 1, none⟩ = some (.int .i64 (s1)) := fun p => p.cell r1
        have CK : ∀ p : Later (w8), (convert 22 9 (.slice R (bs1).length rc)).run Try.prog p.w = .ok (.string (strOfNums (bs1))) p.w := fun p => (rr.below p.h).string 22 5 Try.underlying22 Try.underlying5 9 Try.underlying9
        clear rr r0 r1
        refine wp_region_rel' 31 (by kernel_rfl) (by kernel_rfl) (fun Fin hFin => ?_)
        simp only [List.take_succ_cons, List.take_zero]
        repeat (refine relGo_p (fun K hK => ?_); go_simp; refine hK _ ?_; clear hK K)
        refine relGo_r (Reads (bs1)) Reads.later ?_ ?_
        · intro w' hw'
          go_simp
          refine (st_bytes ((H8.out.below hw').st.1)).mono ?_
          rintro e w'' ⟨A', c', rfl, h, hb⟩
          exact ⟨_, rfl, hb, A', c', rfl, h⟩
        refine relGo_q (.string (strOfNums (bs1))) ?_ (fun K hK => ?_)
        · intro w' hw' v hv
          obtain ⟨A', c', rfl, hr⟩ := hv (by kernel_rfl)
          have kz := hr.string (P := Try.prog) (c := c') 22 5 Try.underlying22 Try.underlying5 9 Try.underlying9
          go_simp
        go_simp
        refine hK _ ?_
        clear hK K
        repeat (refine relGo_p (fun K hK => ?_); go_simp; refine hK _ ?_; clear hK K)
        refine relGo_q (.int .i64 (s1)) ?_ (fun K hK => ?_)
        · intro w' hw' v hv
          go_simp
          refine (st_sure ((H8.out.below hw').st.1)).mono ?_
          rintro e w'' ⟨rfl, rfl⟩
          exact ⟨rfl, Ext.refl _⟩
        go_simp
        refine hK _ ?_
        clear hK K
        repeat (refine relGo_p (fun K hK => ?_); go_simp; refine hK _ ?_; clear hK K)
        refine relGo_r (Reads bs) Reads.later ?_ ?_
        · intro w' hw' v hv
          go_simp
          refine (st_bytes ((H8.out.below hw').st.2.1)).mono ?_
          rintro e w'' ⟨A', c', rfl, h, hb⟩
          exact ⟨_, rfl, hb, A', c', rfl, h⟩
        refine relGo_q (.string (strOfNums bs)) ?_ (fun K hK => ?_)
        · intro w' hw' v hv v' hv'
          obtain ⟨A', c', rfl, hr⟩ := hv' (by kernel_rfl)
          have kz := hr.string (P := Try.prog) (c := c') 22 5 Try.underlying22 Try.underlying5 9 Try.underlying9
          go_simp
        go_simp
        refine hK _ ?_
        clear hK K
        repeat (refine relGo_p (fun K hK => ?_); go_simp; refine hK _ ?_; clear hK K)
        refine relGo_q (.int .i64 s) ?_ (fun K hK => ?_)
        · intro w' hw' v hv v' hv'
          go_simp
          refine (st_sure ((H8.out.below hw').st.2.1)).mono ?_
          rintro e w'' ⟨rfl, rfl⟩
          exact ⟨rfl, Ext.refl _⟩
        go_simp
        refine hK _ ?_
        clear hK K
        repeat (refine relGo_p (fun K hK => ?_); go_simp; refine hK _ ?_; clear hK K)
        refine hFin _ _ (fun w9 hw9 => ?_)
        intro v1 hv1 v2 hv2
        clear hFin Fin hv1 hv2 C0 C1 CK
        have H9 := Lib.hid (H8.out.below hw9)
        clear hw9
        go_wp2
        go_roundw
        case rel => exact ⟨k + 1, by omega, by go_num, ⟨_, _, H9.out.pair, hl8⟩⟩
        case measure => simp [intOf]; omega
    · go_wp2
      go_ret
      obtain ⟨bs, s, ⟨v, u, _, _, _, hb⟩, _⟩ := hp
      exact ⟨rfl, hb⟩
end Go.Proofs.Ytnlfjjafamkmeaa
