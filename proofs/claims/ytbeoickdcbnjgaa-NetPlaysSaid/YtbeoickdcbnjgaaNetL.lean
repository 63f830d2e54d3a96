/- The two nets side by side. -/
import Derived.Test.YtbeoickdcbnjgaaNetK
namespace Go.Proofs.Ytbeoickdcbnjgaa
open Go.RowKit
set_option linter.unusedVariables false
set_option linter.unusedSimpArgs false

/-- the law's own copy of an act -/
def Act35 (w : World) (x : Option (Nat × Array Value)) : Prop := ∀ b cs, x = some (b, cs) → w.heap[b]? = some (.cells cs 35 (0, 0))
def DuoAt (S : Nat → Prop) (W w : World) (g h : Nat) (x : Option (Nat × Array Value)) (m m' : Nat) (L L' : List Says) (X : List Pk) (v u : Value) (ps qs : List Pk) : Prop :=
  NetP w S W.heap.size g v m ps ∧ NetR w (With S v) W.heap.size h u m' qs ∧ ps.map Pk.says = L ∧ qs.map Pk.says = L' ∧ (∀ p ∈ X, PkOk w (With S v) p) ∧ Ext W w ∧ Act35 w x ∧ S h
def Duo (S : Nat → Prop) (W w : World) (g h : Nat) (x : Option (Nat × Array Value)) (m m' : Nat) (L L' : List Says) (X : List Pk) : Prop := ∃ v u ps qs, DuoAt S W w g h x m m' L L' X v u ps qs
section
variable {S : Nat → Prop} {W w w' : World} {g h m m' : Nat} {x : Option (Nat × Array Value)} {L L' : List Says} {X : List Pk} {v u : Value} {ps qs : List Pk}
theorem DuoAt.gh (d : DuoAt S W w g h x m m' L L' X v u ps qs) : h ≠ g := by
  rintro rfl
  have h1 := d.1.obj
  rw [d.2.1.obj] at h1
  injection h1 with h1
  injection h1 with _ h1
  exact absurd h1 (by decide)
theorem DuoAt.ext (d : DuoAt S W w g h x m m' L L' X v u ps qs) (hx : Ext w w') : DuoAt S W w' g h x m m' L L' X v u ps qs :=
  ⟨d.1.ext hx, d.2.1.ext hx, d.2.2.1, d.2.2.2.1, fun p hp => (d.2.2.2.2.1 p hp).ext hx, d.2.2.2.2.2.1.trans hx, fun b cs e => hx.obj (d.2.2.2.2.2.2.1 b cs e), d.2.2.2.2.2.2.2⟩
theorem Duo.ext (d : Duo S W w g h x m m' L L' X) (hx : Ext w w') : Duo S W w' g h x m m' L L' X := by
  obtain ⟨v, u, ps, qs, d⟩ := d
  exact ⟨v, u, ps, qs, d.ext hx⟩
theorem Duo.low (d : Duo S W w g h x m m' L L' X) : Ext W w := by
  obtain ⟨v, u, ps, qs, d⟩ := d
  exact d.2.2.2.2.2.1
/-- a call on the program's net -/
theorem DuoAt.turned (d : DuoAt S W w g h x m m' L L' X v u ps qs) {v' : Value} {ps' : List Pk} {m1 : Nat} {L1 : List Says} (n : NetP w' S W.heap.size g v' m1 ps') (hs : ps'.map Pk.says = L1) (hf : Fresh w v v') (hc : Chg (fun k => k = g ∨ some k = v.ownBlock) w w') : DuoAt S W w' g h x m1 m' L1 L' X v' u ps' qs := by
  have hw : ∀ k, k < w.heap.size → With S v' k → With S v k := by
    intro k hk hh
    rcases hh with hh | hh
    · exact .inl hh
    · rcases hf with e | ⟨j, e, hj⟩
      · exact .inr (by rw [hh, e])
      · rw [e] at hh
        injection hh with hh
        omega
  have ht : ∀ k, k < w.heap.size → (k = g ∨ some k = v.ownBlock) → With S v k := by
    intro k _ hh
    rcases hh with rfl | hh
    · exact .inl d.1.mem
    · exact .inr hh
  refine ⟨n, d.2.1.chg hc ht hw ?_ (.inl d.2.2.2.2.2.2.2) n.own_lt, hs, d.2.2.2.1, fun p hp => (d.2.2.2.2.1 p hp).chg hc ht hw, ?_, fun b cs e => ?_, d.2.2.2.2.2.2.2⟩
  · intro hh
    rcases hh with hh | hh
    · exact d.gh hh
    · exact CRow.ne d.1.row d.2.1.obj (by decide) hh.symm
  · refine Below.trans d.2.2.2.2.2.1 (hc.below d.2.2.2.2.2.1.size_le' (fun k hk => ?_))
    rcases hk with rfl | hk
    · exact d.1.low
    · exact (CRow.lt d.1.row k hk.symm).1
  · have ho := d.2.2.2.2.2.2.1 b cs e
    refine hc.obj ho (fun hh => ?_)
    rcases hh with rfl | hh
    · have h1 := d.1.obj
      rw [ho] at h1
      injection h1 with h1
      injection h1 with _ h1
      exact absurd h1 (by decide)
    · exact CRow.ne d.1.row ho (by decide) hh.symm
theorem duo_n {f : FuncId} {args : Array Value} {m1 : Nat} {L1 : List Says} {r : Value} (d : Duo S W w g h x m m' L L' X) (hc : ∀ v ps, NetP w S W.heap.size g v m ps → ps.map Pk.says = L → W.heap.size ≤ w.heap.size → Calls Try.prog f args w (TurnedP w S W.heap.size g v m1 L1 r)) :
    Calls Try.prog f args w (fun e w' => e = .returned r ∧ Duo S W w' g h x m1 m' L1 L' X) := by
  obtain ⟨v, u, ps, qs, d⟩ := d
  exact (hc v ps d.1 d.2.2.1 d.2.2.2.2.2.1.size_le').mono fun e w' ⟨v', ps', he, n, hs, hf, hch⟩ => ⟨he, v', u, ps', qs, d.turned n hs hf hch⟩
theorem duo_s {f : FuncId} {args : Array Value} {r : Value} (d : Duo S W w g h x m m' L L' X) (hc : ∀ v ps, NetP w S W.heap.size g v m ps → ps.map Pk.says = L → Calls Try.prog f args w (RetS r w)) :
    Calls Try.prog f args w (RetS r w) := by
  obtain ⟨v, u, ps, qs, d⟩ := d
  exact hc v ps d.1 d.2.2.1
theorem duo_rs {f : FuncId} {args : Array Value} {r : Value} (d : Duo S W w g h x m m' L L' X) (hc : ∀ v u qs, NetR w (With S v) W.heap.size h u m' qs → qs.map Pk.says = L' → Calls Try.prog f args w (RetS r w)) :
    Calls Try.prog f args w (RetS r w) := by
  obtain ⟨v, u, ps, qs, d⟩ := d
  exact hc v u qs d.2.1 d.2.2.2.1
/-- a step that touches b of S alone, no row -/
theorem DuoAt.poke (d : DuoAt S W w g h x m m' L L' X v u ps qs) {b : Nat} (hc : Chg (fun k => k = b) w w') (hb : S b) (hg : g ≠ b) (hh : h ≠ b) (hv : v.ownBlock ≠ some b) (hx : ∀ cs, x ≠ some (b, cs)) (hlow : W.heap.size ≤ b) : DuoAt S W w' g h x m m' L L' X v u ps qs := by
  have ht : ∀ k, k < w.heap.size → k = b → With S v k := fun k _ e => .inl (by rw [e]; exact hb)
  have hp : NetP w' S W.heap.size g v m ps := ⟨hc.obj d.1.obj hg, d.1.low, d.1.mem, CRow.chg d.1.row hc (fun k hk e => hv (e ▸ hk)), fun p hp => (d.1.ok p hp).chg hc ht (fun _ _ h => h), d.1.few, d.1.mask, fun k hk => Nat.lt_of_lt_of_le (d.1.sub k hk) hc.size⟩
  exact ⟨hp, d.2.1.chg hc ht (fun _ _ h => h) hh (.inl d.2.2.2.2.2.2.2) hp.own_lt, d.2.2.1, d.2.2.2.1, fun p hp => (d.2.2.2.2.1 p hp).chg hc ht (fun _ _ h => h), Below.trans d.2.2.2.2.2.1 (hc.below d.2.2.2.2.2.1.size_le' (fun k e => by rw [show k = b from e]; exact hlow)), fun b' cs e => hc.obj (d.2.2.2.2.2.2.1 b' cs e) (fun e' => hx cs (by rw [e, show b' = b from e'])), d.2.2.2.2.2.2.2⟩
/-- the document's net turned -/
theorem DuoAt.rturned (d : DuoAt S W w g h x m m' L L' X v u ps qs) {u' : Value} {qs' : List Pk} {m1 : Nat} {L1 : List Says} (n : NetR w' (With S v) W.heap.size h u' m1 qs') (hs : qs'.map Pk.says = L1) (hc : Chg (fun k => k = h) w w') : DuoAt S W w' g h x m m1 L L1 X v u' ps qs' := by
  have hS := d.2.2.2.2.2.2.2
  have ht : ∀ k, k < w.heap.size → k = h → With S v k := fun k _ e => .inl (by rw [e]; exact hS)
  have hv : v.ownBlock ≠ some h := CRow.ne d.1.row d.2.1.obj (by decide)
  have hp : NetP w' S W.heap.size g v m ps := ⟨hc.obj d.1.obj (fun e => d.gh e.symm), d.1.low, d.1.mem, CRow.chg d.1.row hc (fun k hk e => hv (e ▸ hk)), fun p hp => (d.1.ok p hp).chg hc ht (fun _ _ h => h), d.1.few, d.1.mask, fun k hk => Nat.lt_of_lt_of_le (d.1.sub k hk) hc.size⟩
  refine ⟨hp, n, d.2.2.1, hs, fun p hp => (d.2.2.2.2.1 p hp).chg hc ht (fun _ _ h => h), Below.trans d.2.2.2.2.2.1 (hc.below d.2.2.2.2.2.1.size_le' (fun k e => by rw [show k = h from e]; exact d.2.1.low)), fun b cs e => hc.obj (d.2.2.2.2.2.2.1 b cs e) (fun e' => ?_), hS⟩
  have h1 := d.2.2.2.2.2.2.1 b cs e
  rw [show b = h from e', d.2.1.obj] at h1
  injection h1 with h1
  injection h1 with _ h1
  exact absurd h1 (by decide)
theorem duo_take {i : Int} (d : Duo S W w g h x m m' L L' X) (hwf : ∀ s ∈ L, (IntKind.i64.min ≤ s.1 ∧ s.1 ≤ IntKind.i64.max) ∧ (IntKind.i64.min ≤ s.2.1 ∧ s.2.1 ≤ IntKind.i64.max)) :
    Calls Try.prog 6 #[.pointer (some ⟨g, 0, none⟩), .int .i64 i] w (fun e w' => ∃ q : Pk, e = .returned (.tuple #[.agg #[.int .i64 q.f, .int .i64 q.t, .slice q.B q.n q.c], .bool (takeOf m L i).2.2]) ∧ q.says = (takeOf m L i).2.1 ∧ Duo S W w' g h x m m' (takeOf m L i).1 L' (q :: X)) := by
  obtain ⟨v, u, ps, qs, d⟩ := d
  have := take_any d.1 d.2.2.2.2.2.1.size_le' i (says_wf d.2.2.1 hwf)
  rw [d.2.2.1] at this
  refine this.mono ?_
  rintro e w' ⟨v', ps', q, he, n, hs, hq, hok, hf, hc⟩
  have dt := d.turned n hs hf hc
  refine ⟨q, he, hq, v', u, ps', qs, dt.1, dt.2.1, dt.2.2.1, dt.2.2.2.1, fun p hp => ?_, dt.2.2.2.2.2⟩
  rcases List.mem_cons.1 hp with rfl | hp
  · exact hok
  · exact dt.2.2.2.2.1 p hp
theorem duo_rtake {i : Int} (d : Duo S W w g h x m m' L L' X) (hwf : ∀ s ∈ L', (IntKind.i64.min ≤ s.1 ∧ s.1 ≤ IntKind.i64.max) ∧ (IntKind.i64.min ≤ s.2.1 ∧ s.2.1 ≤ IntKind.i64.max)) :
    Calls Try.prog 7 #[.pointer (some ⟨h, 0, none⟩), .int .i64 i] w (fun e w' => ∃ q : Pk, e = .returned (.tuple #[.agg #[.int .i64 q.f, .int .i64 q.t, .slice q.B q.n q.c], .bool (takeOf m' L' i).2.2]) ∧ q.says = (takeOf m' L' i).2.1 ∧ Duo S W w' g h x m m' L (takeOf m' L' i).1 (q :: X)) := by
  obtain ⟨v, u, ps, qs, d⟩ := d
  have := rtake_any d.2.1 d.2.2.2.2.2.1.size_le' i (says_wf d.2.2.2.1 hwf)
  rw [d.2.2.2.1] at this
  refine this.mono ?_
  rintro e w' ⟨u', qs', q, he, n, hs, hq, hok, hc⟩
  have dt := d.rturned n hs hc
  refine ⟨q, he, hq, v, u', ps, qs', dt.1, dt.2.1, dt.2.2.1, dt.2.2.2.1, fun p hp => ?_, dt.2.2.2.2.2⟩
  rcases List.mem_cons.1 hp with rfl | hp
  · exact hok
  · exact dt.2.2.2.2.1 p hp
/-- what is carried no longer -/
theorem Duo.less {X' : List Pk} (d : Duo S W w g h x m m' L L' X) (hX : ∀ p ∈ X', p ∈ X) : Duo S W w g h x m m' L L' X' := by
  obtain ⟨v, u, ps, qs, d1, d2, d3, d4, d5, d6⟩ := d
  exact ⟨v, u, ps, qs, d1, d2, d3, d4, fun p hp => d5 p (hX p hp), d6⟩
theorem Duo.noact (d : Duo S W w g h x m m' L L' X) : Duo S W w g h none m m' L L' X := by
  obtain ⟨v, u, ps, qs, d1, d2, d3, d4, d5, d6, d7, d8⟩ := d
  exact ⟨v, u, ps, qs, d1, d2, d3, d4, d5, d6, fun _ _ e => (by cases e), d8⟩
theorem Duo.act (d : Duo S W w g h none m m' L L' X) {b : Nat} {cs : Array Value} (ho : w.heap[b]? = some (.cells cs 35 (0, 0))) : Duo S W w g h (some (b, cs)) m m' L L' X := by
  obtain ⟨v, u, ps, qs, d1, d2, d3, d4, d5, d6, d7, d8⟩ := d
  exact ⟨v, u, ps, qs, d1, d2, d3, d4, d5, d6, fun _ _ e => (by cases e; exact ho), d8⟩
theorem Duo.len (d : Duo S W w g h x m m' L L' X) : L.length ≤ 1000 := by
  obtain ⟨v, u, ps, qs, d1, d2, d3, d4, d5⟩ := d
  rw [← d3, List.length_map]
  exact d1.few
/-- a block more to be kept apart -/
theorem Duo.add {b : Nat} (d : Duo S W w g h x m m' L L' X) (hx : Ext w w') (hb : w.heap.size ≤ b) (hb' : b < w'.heap.size) : Duo (Add S b) W w' g h x m m' L L' X := by
  obtain ⟨v, u, ps, qs, d1, d2, d3, d4, d5, d6, d7, d8⟩ := d
  have hp := d1.add hx hb hb'
  have hw : ∀ k, k < w.heap.size → With (Add S b) v k → With S v k := by
    intro k hk hh
    rcases hh with (hh | hh) | hh
    · exact .inl hh
    · omega
    · exact .inr hh
  exact ⟨v, u, ps, qs, hp, d2.chg (Chg.of_ext hx) (fun _ _ h => h.elim) hw (fun h => h) (.inl (.inl d8)) hp.own_lt, d3, d4, fun p hp => (d5 p hp).chg (Chg.of_ext hx) (fun _ _ h => h.elim) hw, d6.trans hx, fun b' cs e => hx.obj (d7 b' cs e), .inl d8⟩
theorem Duo.narrow {b : Nat} (d : Duo (Add S b) W w g h x m m' L L' X) (hg : S g) (hh : S h) : Duo S W w g h x m m' L L' X := by
  obtain ⟨v, u, ps, qs, d1, d2, d3, d4, d5, d6, d7, d8⟩ := d
  have hw : ∀ k, k < w.heap.size → With S v k → With (Add S b) v k := by
    intro k hk hh
    rcases hh with hh | hh
    · exact .inl (.inl hh)
    · exact .inr hh
  have hp : NetP w S W.heap.size g v m ps := ⟨d1.obj, d1.low, hg, d1.row, fun p hp => (d1.ok p hp).chg (Chg.refl (fun _ => False) w) (fun _ _ h => h.elim) hw, d1.few, d1.mask, fun k hk => d1.sub k (.inl hk)⟩
  exact ⟨v, u, ps, qs, hp, d2.chg (Chg.refl (fun _ => False) w) (fun _ _ h => h.elim) hw (fun h => h) (.inl hh) hp.own_lt, d3, d4, fun p hp => (d5 p hp).chg (Chg.refl (fun _ => False) w) (fun _ _ h => h.elim) hw, d6, d7, hh⟩
end
end Go.Proofs.Ytbeoickdcbnjgaa
