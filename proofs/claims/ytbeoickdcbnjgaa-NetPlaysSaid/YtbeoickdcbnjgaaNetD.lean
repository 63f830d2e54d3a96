/- The net: Send. -/
import Derived.Test.YtbeoickdcbnjgaaNetC
namespace Go.Proofs.Ytbeoickdcbnjgaa
open Go.RowKit
set_option linter.unusedVariables false
set_option linter.unusedSimpArgs false
attribute [local go_sem] stepR givesR fillE Ext.refl

/-- packets that are sent: a slice of them -/
def PSlice (w : World) (S : Nat → Prop) (A : Option Addr) (qs : List Pk) : Prop := 0 < qs.length → ∃ b off, A = some ⟨b, off, none⟩ ∧ ¬ S b ∧ ∀ j p, qs[j]? = some p → PAt w b (off + j * 3) p ∧ PkOk w S p

theorem PAt.chg {T : Nat → Prop} {w w' : World} {g o : Nat} {p : Pk} (h : PAt w g o p) (hc : Chg T w w') (hn : ¬ T g) : PAt w' g o p := ⟨hc.cell h.1 hn, hc.cell h.2.1 hn, hc.cell h.2.2 hn⟩
theorem PSlice.chg {T S S' : Nat → Prop} {w w' : World} {A : Option Addr} {qs : List Pk} (h : PSlice w S A qs) (hc : Chg T w w') (hT : ∀ k, k < w.heap.size → T k → S k) (hS : ∀ k, k < w.heap.size → S' k → S k) : PSlice w' S' A qs := fun h0 => by
  obtain ⟨b, off, rfl, hb, hq⟩ := h h0
  obtain ⟨p, hp⟩ : ∃ p, qs[0]? = some p := ⟨_, List.getElem?_eq_getElem h0⟩
  have hlt := World.block_lt_of_cell? w _ (hq 0 p hp).1.1
  exact ⟨b, off, rfl, fun h' => hb (hS b hlt h'), fun j p hj => ⟨(hq j p hj).1.chg hc (fun ht => hb (hT b hlt ht)), (hq j p hj).2.chg hc hT hS⟩⟩

theorem src_new (w : World) (cs : Array Value) (E : TypeId) (sz : Nat) (hl : cs.size = 1 * sz) (h1 : ∀ u ∈ cs.toList, u.oneCell' = true) : Src (w.alloc (.cells cs E)) sz (some ⟨w.heap.size, 0, none⟩) 1 cs.toList :=
  Src.at (by simpa using hl) (fun j u hu => by rw [cell_of_row _ _ _ _ _ _ (heap_alloc_new w _), Nat.zero_add, ← Array.getElem?_toList]; exact hu) h1
theorem Pk.cells_one (p : Pk) : ∀ u ∈ p.cells, u.oneCell' = true := by
  intro u hu
  simp only [Pk.cells, List.mem_cons, List.not_mem_nil, or_false] at hu
  rcases hu with rfl | rfl | rfl <;> rfl
theorem Fresh.trans {w w1 : World} {a b c : Value} (h : Fresh w a b) (hs : w.heap.size ≤ w1.heap.size) (k : Fresh w1 b c) : Fresh w a c := by
  rcases k with e | ⟨i, e, hi⟩
  · rcases h with h | ⟨j, h, hj⟩
    · exact .inl (e.trans h)
    · exact .inr ⟨j, e.trans h, hj⟩
  · exact .inr ⟨i, e, by omega⟩
theorem Chg.fresh_trans {w w1 w2 : World} {g : Nat} {v v1 : Value} (h : Chg (fun k => k = g ∨ some k = v.ownBlock) w w1) (hf : Fresh w v v1) (k : Chg (fun k => k = g ∨ some k = v1.ownBlock) w1 w2) : Chg (fun k => k = g ∨ some k = v.ownBlock) w w2 :=
  h.trans k (fun _ _ h => h) (fun i hi hk => by
    rcases hk with hk | hk
    · exact .inl hk
    · rcases hf with e | ⟨j, e, hj⟩
      · exact .inr (by rw [hk, e])
      · rw [e] at hk
        injection hk with hk
        omega)
/-- one packet more lies in the row -/
theorem sent_done {w w4 : World} {S : Nat → Prop} {base g lo : Nat} {v v4 : Value} {m : Nat} {ps : List Pk} {f t : Int} {A : Option Addr} {n c : Nat} {xs : List Int} (h : NetP w S base g v m ps) (hb : base ≤ w.heap.size) (hr : BRow w lo (.slice A n c) xs) (hlo : ∀ k, S k → k < lo) (hnc : n ≤ c) (hn : n ≤ 1000) (hfew : ps.length + 1 ≤ 1000)
    (q1 : CRow 33 3 w4 base v4 (ps.length + 1) (pcells ps ++ Pk.cells ⟨f, t, A, n, c, xs⟩)) (q2 : w.grownBy w4 v.ownBlock) (q3 : Fresh w v v4) :
    NetP (w4.setCell ⟨g, 0, none⟩ v4) S base g v4 m (ps ++ [⟨f, t, A, n, c, xs⟩]) ∧ Chg (fun k => k = g ∨ some k = v.ownBlock) w (w4.setCell ⟨g, 0, none⟩ v4) := by
  have hc := Chg.of_grown q2
  have hrow4 : PRow w4 base v4 (ps ++ [⟨f, t, A, n, c, xs⟩]) := by
    unfold PRow
    rw [pcells_append, List.length_append]
    simpa [pcells] using q1
  have hne5 : ∀ k, (Value.slice A n c).ownBlock = some k → ¬ some k = v.ownBlock := by
    intro k hk e
    obtain ⟨_, _, cur, hcur⟩ := CRow.lt hr k hk
    exact CRow.ne h.row hcur (by decide) e.symm
  have hr4 := CRow.chg hr hc hne5
  refine h.put_row hb hc hrow4 q3 ?_ (by simpa using hfew) ?_
  · intro p hp
    rw [List.mem_append, List.mem_singleton] at hp
    rcases hp with hp | rfl
    · refine (h.ok p hp).chg hc (fun k _ e => .inr e) (fun k hk hw => ?_)
      rcases hw with hw | hw
      · exact .inl hw
      · rcases q3 with e | ⟨j, e, hj⟩
        · exact .inr (by rw [hw, e])
        · rw [e] at hw
          injection hw with hw
          omega
    · refine ⟨(BRow.bt hr4 (fun k cur hk hcur hw => ?_)).1, hnc, hn⟩
      rcases hw with hw | hw
      · have := hlo k hw
        omega
      · exact CRow.ne hrow4 hcur (by decide) hw.symm
  · intro e
    have := h.sub g h.mem
    rcases q3 with e' | ⟨j, e', hj⟩
    · exact h.ne (e' ▸ e)
    · rw [e'] at e
      injection e with e
      omega
set_option maxRecDepth 100000 in
set_option maxHeartbeats 4000000 in
theorem send_any {w : World} {S : Nat → Prop} {base g : Nat} {v : Value} {m : Nat} {ps : List Pk} (h : NetP w S base g v m ps) (hb : base ≤ w.heap.size) (A : Option Addr) (c : Nat) (qs : List Pk) (hq : PSlice w (With S v) A qs) (hl : ps.length + qs.length ≤ 1000) :
    Calls Try.prog 12 #[.pointer (some ⟨g, 0, none⟩), .slice A qs.length c] w (TurnedP w S base g v m (ps.map Pk.says ++ qs.map Pk.says) (.tuple #[])) := by
  have H0 := Lib.hid (And.intro h hq)
  clear h hq
  go_enter Try.func12, Try.ntmps12
  go_wp2_with fail
  go_loopw [8] (fun i wr => ∃ j : Nat, j ≤ qs.length ∧ i = .int .i64 j ∧ ∃ v1 ps1, NetP wr S base g v1 m ps1 ∧ ps1.map Pk.says = ps.map Pk.says ++ (qs.take j).map Pk.says ∧ Fresh w v v1 ∧ Chg (fun k => k = g ∨ some k = v.ownBlock) w wr ∧ PSlice wr (With S v1) A qs ∧ ps1.length = ps.length + j) (fun i _ => qs.length - (intOf i).toNat)
  case atStart => exact ⟨0, Nat.zero_le _, rfl, v, ps, H0.out.1, by simp, .inl rfl, Chg.refl _ _, H0.out.2, rfl⟩
  case round =>
    obtain ⟨j, hj, rfl, v1, ps1, hn, hsay, hfr, hch, hsl, hlen⟩ := hrel
    have HN := Lib.hid (And.intro hn (And.intro hsay (And.intro hfr (And.intro hch (And.intro hsl hlen)))))
    clear hn hsay hfr hch hsl
    by_cases hlt : j < qs.length
    · obtain ⟨b, off, rfl, hSb, hqs⟩ := HN.out.2.2.2.2.1 (by omega)
      obtain ⟨p, hp⟩ : ∃ p, qs[j]? = some p := ⟨_, List.getElem?_eq_getElem hlt⟩
      obtain ⟨⟨c0, c1, c2⟩, hpk⟩ := hqs j p hp
      have HP := Lib.hid (And.intro hp (And.intro hpk hSb))
      clear hqs hp hpk hSb
      obtain ⟨c3, c4, f3, f4⟩ := HN.out.1.cells
      obtain ⟨A1, cp, rfl, hcp1, hcp2, hnone⟩ := CRow.form HN.out.1.row
      have hji : (j : Int) < (qs.length : Int) := by omega
      have hjn : ((j : Int) < 0) = False := by simp
      obtain ⟨pf, pt, pB, pn, pc, pxs⟩ := p
      simp only at c0 c1 c2
      clear hcp1 hcp2 hnone
      go_wp2_with fail
      have hx2 : Ext wr (wr.alloc (.cells #[.int .i64 pf, .int .i64 pt, .slice pB pn pc] 33)) := (Ext.refl wr).alloc _
      have o5 := heap_alloc_new wr (.cells #[.int .i64 pf, .int .i64 pt, .slice pB pn pc] 33)
      revert hx2 o5
      generalize wr.alloc (.cells #[.int .i64 pf, .int .i64 pt, .slice pB pn pc] 33) = w2
      generalize wr.heap.size = b5
      intro hx2 o5
      have p0 : w2.cell? ⟨b5, 0, none⟩ = some (.int .i64 pf) := (cell_of_row w2 b5 0 _ _ _ o5).trans rfl
      have p1 : w2.cell? ⟨b5, 1, none⟩ = some (.int .i64 pt) := (cell_of_row w2 b5 1 _ _ _ o5).trans rfl
      have p2 : w2.cell? ⟨b5, 2, none⟩ = some (.slice pB pn pc) := (cell_of_row w2 b5 2 _ _ _ o5).trans rfl
      have HN2 := Lib.hid (HN.out.1.ext hx2)
      have hbs : base ≤ w2.heap.size := by have := HN.out.2.2.2.1.size; have := hx2.size_le'; omega
      have HX2 := Lib.hid hx2
      have HPK := Lib.hid (HP.out.2.1.ext hx2)
      have k3 := hx2.cell c3
      have hmm : maxLen > 2000 := by decide
      clear c0 c1 c2 c3 c4 f3 f4 hx2 o5
      have HLEN := Lib.hid hlen
      have hfew : ps1.length + 1 ≤ 1000 := by omega
      clear hlen
      go_region_law (first
        | (refine step_append_crow (by rfl) base (.tmp 16) (.tmp 19) 27 (by rfl) Try.underlying27 40 infoE (by omega) (.slice A1 ps1.length cp) ps1.length (pcells ps1) (Pk.cells ⟨pf, pt, A', pn, c', pxs⟩) (some ⟨w3.heap.size, 0, none⟩) 1 1 (by rfl) (by rfl) (by exact HR.out.1) (by exact HR.out.2.1) (by exact HR.out.2.2.1) (by omega) (by omega) ?_; intro v4 w4 q1 q2 q3; obtain ⟨A4, c4, rfl, _⟩ := CRow.form q1; have o4 := (Chg.of_grown q2).obj HR.out.2.2.2.1 (fun e => HR.out.2.2.2.2 e.symm); have k4 : w4.cell? ⟨g, 0, none⟩ = some (.slice A1 ps1.length cp) := (cell_of_row w4 g 0 _ _ _ o4).trans rfl; have e4 : w4.frozen? ⟨g, 0, none⟩ = false := (by simp [World.frozen?, o4]); have HQ := Lib.hid (And.intro q1 (And.intro q2 q3)); clear q1 q2 q3 o4)
        | (go_simp; go_at_call 20; refine (pclone_any ⟨pf, pt, pB, pn, pc, pxs⟩ _ (HPK.out.ext ((Ext.refl w2).drew))).mono ?_; rintro e w3 ⟨A', c', rfl, h1, h2, h3⟩; have x3 : Ext w2 w3 := ((Ext.refl w2).drew).trans h3; have x4 : Ext w2 (w3.alloc (.cells (Pk.cells ⟨pf, pt, A', pn, c', pxs⟩).toArray 33)) := x3.alloc _; have k3' := x3.cell k3; have k5 : (w3.alloc (.cells #[.int .i64 pf, .int .i64 pt, .slice A' pn c'] 33)).cell? ⟨g, 0, none⟩ = some (.slice A1 ps1.length cp) := x4.cell k3; have HR := Lib.hid (And.intro (CRow.ext HN2.out.row x4) (And.intro (src_new w3 (Pk.cells ⟨pf, pt, A', pn, c', pxs⟩).toArray 33 3 rfl (Pk.cells_one _)) (And.intro (Nat.le_trans hbs x4.size_le') (And.intro (x4.obj HN2.out.obj) HN2.out.ne)))); have HC := Lib.hid (And.intro h1 (And.intro h2 x3)); clear h1 h2 h3 x3 x4))
      all_goals
        go_wp2_with fail
        obtain ⟨q1, q2, q3⟩ := HQ.out
        obtain ⟨hbrow, hpc, x3⟩ := HC.out
        obtain ⟨hn, hsay, hfr, hch, hsl, hln⟩ := HN.out
        have x4 : Ext w2 (w3.alloc (.cells (Pk.cells ⟨pf, pt, A', pn, c', pxs⟩).toArray 33)) := x3.alloc _
        have hnA : NetP (w3.alloc (.cells (Pk.cells ⟨pf, pt, A', pn, c', pxs⟩).toArray 33)) S base g (.slice A1 ps1.length cp) m ps1 := HN2.out.ext x4
        obtain ⟨n1, n2⟩ := sent_done hnA (HR.out.2.2.1) (CRow.ext hbrow ((Ext.refl w3).alloc _)) HN2.out.sub hpc (HPK.out.2.2) (by omega) q1 q2 q3
        have hcA : Chg (fun k => k = g ∨ some k = (Value.slice A1 ps1.length cp).ownBlock) wr _ := (Chg.of_ext (HX2.out.trans x4)).trans n2 (fun _ _ h => h.elim) (fun _ _ h => h)
        have hfr' : Fresh w v (.slice A4 (ps1.length + 1) c4) := Fresh.trans hfr (Nat.le_trans hch.size (HX2.out.trans x4).size_le') q3
        have hsub := HN.out.1.sub
        have hch' := Chg.fresh_trans hch hfr hcA
        have hsl' := hsl.chg (S' := With S (.slice A4 (ps1.length + 1) c4)) hcA (fun k _ hk => by
          rcases hk with rfl | hk
          · exact .inl HN2.out.mem
          · exact .inr hk) (fun k hk hw => by
          rcases hw with hw | hw
          · exact .inl hw
          · rcases q3 with e | ⟨i, e, hi⟩
            · exact .inr (by rw [hw, e])
            · rw [e] at hw
              injection hw with hw
              have := Nat.le_trans (HX2.out.trans x4).size_le' hi
              omega)
        have hsay' : (ps1 ++ [(⟨pf, pt, A', pn, c', pxs⟩ : Pk)]).map Pk.says = ps.map Pk.says ++ (qs.take (j + 1)).map Pk.says := by
          rw [List.map_append, hsay, List.append_assoc]
          congr 1
          rw [List.take_add_one, HP.out.1, List.map_append]
          rfl
        have hln' : (ps1 ++ [(⟨pf, pt, A', pn, c', pxs⟩ : Pk)]).length = ps.length + (j + 1) := by simp; omega
        have HF := Lib.hid (And.intro n1 (And.intro hsay' (And.intro hfr' (And.intro hch' (And.intro hsl' hln')))))
        clear n1 n2 hcA hfr' hch' hsl' hsay' hln' q1 q2 q3 hbrow hpc x3 hn hsay hfr hch hsl hln x4 hnA hsub
        go_roundw
        case rel => exact ⟨j + 1, by omega, by go_num, _, _, HF.out⟩
        case measure => simp [intOf]; omega
    · obtain rfl : j = qs.length := by omega
      go_wp2
      go_end0
      obtain ⟨hn, hsay, hfr, hch, _⟩ := HN.out
      exact ⟨v1, ps1, rfl, hn, by rw [hsay, List.take_length], hfr, hch⟩
end Go.Proofs.Ytbeoickdcbnjgaa
