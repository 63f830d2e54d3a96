/- The net: clones of bytes, of packets. -/
import Derived.Test.YtbeoickdcbnjgaaNetA
namespace Go.Proofs.Ytbeoickdcbnjgaa
open Go.RowKit
set_option linter.unusedVariables false
set_option linter.unusedSimpArgs false
attribute [local go_sem] stepR givesR fillE Ext.refl

def u8s (xs : List Int) : List Value := xs.map (Value.int .u8)
theorem u8s_length (xs : List Int) : (u8s xs).length = xs.length := by simp [u8s]
theorem u8s_one (xs : List Int) : ∀ u ∈ u8s xs, u.oneCell' = true := by
  intro u hu
  simp only [u8s, List.mem_map] at hu
  obtain ⟨q, _, rfl⟩ := hu
  rfl
theorem u8s_at {xs : List Int} {j : Nat} (h : j < xs.length) : (u8s xs)[j]? = some (.int .u8 (xs.getD j 0)) := by
  simp [u8s, List.getElem?_eq_getElem h, List.getD_eq_getElem?_getD]
theorem info5 : (Try.prog.info? 5).map (fun i => (i.zero.map (·.cells.size), i.size, i.bytes)) = some (some 1, 1, 1) := by kernel_rfl
/-- a row of bytes of one's own -/
abbrev BRow (w : World) (base : Nat) (v : Value) (xs : List Int) : Prop := CRow 5 1 w base v xs.length (u8s xs)
theorem BRow.bt {w : World} {base : Nat} {A : Option Addr} {n c : Nat} {xs : List Int} (h : BRow w base (.slice A n c) xs) {S : Nat → Prop} (hS : ∀ k cur, base ≤ k → w.heap[k]? = some (.cells cur 5 (0, 0)) → ¬ S k) : Bt w S A n xs ∧ n = xs.length := by
  rcases h with ⟨h', h0, _⟩ | ⟨g, cap, cur, h', hb, hg, r⟩
  · injection h' with h1 h2 h3
    subst h1 h2
    obtain rfl : xs = [] := List.eq_nil_of_length_eq_zero h0
    exact ⟨Bt.nil _ _ _, rfl⟩
  · have h0 := h'
    injection h' with h1 h2 h3
    subst h1 h2 h3
    refine ⟨⟨rfl, fun hn => ⟨g, 0, rfl, hS g cur hb hg, fun j hj => ?_⟩⟩, rfl⟩
    obtain ⟨g', e, _, _, _, hc⟩ := CRow.cell (A := some ⟨g, 0, none⟩) (n := xs.length) (c := c) (.inr ⟨g, c, cur, rfl, hb, hg, r⟩ : CRow 5 1 w base (.slice (some ⟨g, 0, none⟩) xs.length c) xs.length (u8s xs)) hn
    obtain rfl : g = g' := by simpa using e
    rw [Nat.zero_add, (hc j (by omega)).1, u8s_at hj]
theorem Bt.src {w : World} {S : Nat → Prop} {A : Option Addr} {n : Nat} {xs : List Int} (h : Bt w S A n xs) : Src w 1 A n (u8s xs) := by
  refine ⟨by rw [u8s_length, h.1, Nat.mul_one], fun hA => ?_, fun ad e j u hu => ?_, u8s_one xs⟩
  · rcases Nat.eq_zero_or_pos n with h0 | h0
    · exact h0
    · obtain ⟨b, off, h', _⟩ := h.2 h0
      rw [hA] at h'; cases h'
  · have hj : j < xs.length := by
      rcases Nat.lt_or_ge j xs.length with h | h
      · exact h
      · rw [List.getElem?_eq_none (by rw [u8s_length]; exact h)] at hu; cases hu
    obtain ⟨b, off, h', _, hc⟩ := h.2 (by have := h.1; omega)
    rw [e] at h'
    injection h' with h'
    subst h'
    rw [Addr.add_lit, hc j (by have := h.1; omega), ← u8s_at hj]
    exact hu

def BClonePost (w : World) (xs : List Int) (e : Ending) (w' : World) : Prop := ∃ v', e = .returned v' ∧ BRow w' w.heap.size v' xs ∧ Ext w w'
set_option maxHeartbeats 400000 in
theorem bclone_any {S : Nat → Prop} (A : Option Addr) (n c : Nat) (xs : List Int) (w : World) (hr : Bt w S A n xs) (hl : n ≤ 1000) : Calls Try.prog 23 #[.slice A n c] w (BClonePost w xs) := by
  have hlen := hr.1
  have hnil := fun wx : World => Lib.run_eql_slice_nil (P := Try.prog) wx 31 5 A n c 0 0 Try.underlying31
  rcases A with _ | a
  · have h0 : n = 0 := by
      rcases Nat.eq_zero_or_pos n with h | h
      · exact h
      · obtain ⟨b, off, h', _⟩ := hr.2 h
        cases h'
    subst h0
    obtain rfl : xs = [] := List.eq_nil_of_length_eq_zero hlen
    go_enter Try.func23, Try.ntmps23
    go_wp2
    go_ret
    exact ⟨_, rfl, CRow.nil _ _, Ext.refl _⟩
  · have H := Lib.hid (And.intro hr hlen)
    clear hr hlen
    have hmm : maxLen > 2000 := by decide
    have HN : Hid (Src (w.alloc (.cells #[] 5)) 1 (some a) n (u8s xs)) := Lib.hid (H.out.1.src.ext ((Ext.refl w).alloc _))
    go_enter Try.func23, Try.ntmps23
    go_wp2_with (at_builtin; refine wpList_append_crow rfl w.heap.size (.tmp 5) (.tmp 6) 31 rfl Try.underlying31 1 info5 (by omega) (.slice (some ⟨w.heap.size, 0, none⟩) 0 0) 0 [] (u8s xs) (some a) n c rfl rfl ?row HN.out ?base ?len ?len2 ?next)
    case row => exact .inr ⟨w.heap.size, 0, #[], rfl, Nat.le_refl _, heap_alloc_new w _, Nat.le_refl _, Nat.le_refl _, Nat.zero_le _, rfl, rfl⟩
    case base => simp
    case len => omega
    case len2 => omega
    case next =>
      intro v1 w1 h1 h2 _
      have H1 := Lib.hid (And.intro h1 h2)
      clear h1 h2
      go_wp2
      go_ret
      obtain ⟨h1, h2⟩ := H1.out
      refine ⟨v1, rfl, ?_, ((Ext.refl w).alloc _).grown h2 (by simp) (by simp [Value.ownBlock])⟩
      have e := H.out.2
      subst e
      simpa using h1

def PClonePost (w : World) (p : Pk) (e : Ending) (w' : World) : Prop := ∃ A c, e = .returned (.agg #[.int .i64 p.f, .int .i64 p.t, .slice A p.n c]) ∧ BRow w' w.heap.size (.slice A p.n c) p.xs ∧ p.n ≤ c ∧ Ext w w'
theorem BRow.form {w : World} {base : Nat} {v : Value} {xs : List Int} (h : BRow w base v xs) : ∃ A c, v = .slice A xs.length c ∧ xs.length ≤ c := by
  obtain ⟨A, c, e, h1, _⟩ := CRow.form h
  exact ⟨A, c, e, h1⟩
def IsB (base : Nat) (xs : List Int) (v : Value) (w : World) : Prop := BRow w base v xs
theorem IsB.later (base : Nat) (xs : List Int) : ∀ v w w', IsB base xs v w → Ext w w' → IsB base xs v w' := fun v w w' h hx => CRow.ext h hx
def IsP (base : Nat) (f t : Int) (xs : List Int) (v : Value) (w : World) : Prop := ∃ u, v = .agg #[.int .i64 f, .int .i64 t, u] ∧ BRow w base u xs
theorem IsP.later (base : Nat) (f t : Int) (xs : List Int) : ∀ v w w', IsP base f t xs v w → Ext w w' → IsP base f t xs v w' := fun v w w' ⟨u, e, h⟩ hx => ⟨u, e, CRow.ext h hx⟩
theorem put2' {T : TypeId} {w : World} {g i : Nat} {x : Value} {cs : Array Value} (h : w.heap[g]? = some (.cells cs T (0, 0))) : (w.setCell ⟨g, i, none⟩ x).heap[g]? = some (.cells (cs.setIfInBounds i x) T (0, 0)) := heap_setCell_same w g i cs T x h
set_option maxRecDepth 100000 in
set_option maxHeartbeats 400000 in
theorem pclone_any {S : Nat → Prop} (p : Pk) (w : World) (h : PkOk w S p) : Calls Try.prog 20 #[p.val] w (PClonePost w p) := by
  obtain ⟨f, t, B, n, c, xs⟩ := p
  have hlen : xs.length = n := h.1.1
  subst hlen
  have H := Lib.hid h
  clear h
  show Calls _ _ #[.agg #[.int .i64 f, .int .i64 t, .slice B xs.length c]] _ _
  go_enter Try.func20, Try.ntmps20
  go_wp2_with fail
  have hx : Ext w ((w.alloc (.cells #[.int .i64 f, .int .i64 t, .slice B xs.length c] 33)).alloc (.cells #[.int .i64 0, .int .i64 0, .slice none 0 0] 33)) := ((Ext.refl w).alloc _).alloc _
  have o1 : ((w.alloc (.cells #[.int .i64 f, .int .i64 t, .slice B xs.length c] 33)).alloc (.cells #[.int .i64 0, .int .i64 0, .slice none 0 0] 33)).heap[w.heap.size]? = some (.cells #[.int .i64 f, .int .i64 t, .slice B xs.length c] 33 (0, 0)) := ((Ext.refl (w.alloc (.cells #[.int .i64 f, .int .i64 t, .slice B xs.length c] 33))).alloc _).obj (heap_alloc_new w _)
  have o2 : ((w.alloc (.cells #[.int .i64 f, .int .i64 t, .slice B xs.length c] 33)).alloc (.cells #[.int .i64 0, .int .i64 0, .slice none 0 0] 33)).heap[w.heap.size + 1]? = some (.cells #[.int .i64 0, .int .i64 0, .slice none 0 0] 33 (0, 0)) := by
    have := heap_alloc_new (w.alloc (.cells #[.int .i64 f, .int .i64 t, .slice B xs.length c] 33)) (.cells #[.int .i64 0, .int .i64 0, .slice none 0 0] 33)
    simpa using this
  have hb2 : w.heap.size ≤ w.heap.size + 1 := by omega
  revert hx o1 o2
  generalize (w.alloc (.cells #[.int .i64 f, .int .i64 t, .slice B xs.length c] 33)).alloc (.cells #[.int .i64 0, .int .i64 0, .slice none 0 0] 33) = w2
  generalize w.heap.size + 1 = b2 at *
  intro hx o1 o2
  have a0 : ∀ p : Later w2, p.w.cell? ⟨w.heap.size, 0, none⟩ = some (.int .i64 f) := fun p => p.cell ((cell_of_row w2 w.heap.size 0 _ _ _ o1).trans rfl)
  have a1 : ∀ p : Later w2, p.w.cell? ⟨w.heap.size, 1, none⟩ = some (.int .i64 t) := fun p => p.cell ((cell_of_row w2 w.heap.size 1 _ _ _ o1).trans rfl)
  have a2 : ∀ p : Later w2, p.w.cell? ⟨w.heap.size, 2, none⟩ = some (.slice B xs.length c) := fun p => p.cell ((cell_of_row w2 w.heap.size 2 _ _ _ o1).trans rfl)
  have HX := Lib.hid (And.intro hx o2)
  clear hx o1 o2
  refine wp_region_rel' 8 (by kernel_rfl) (by kernel_rfl) (fun Fin hFin => ?_)
  simp only [List.take_succ_cons, List.take_zero]
  (refine relGo_p (fun K hK => ?_); go_simp; refine hK _ ?_; clear hK K)
  (refine relGo_p (fun K hK => ?_); go_simp; refine hK _ ?_; clear hK K)
  (refine relGo_p (fun K hK => ?_); go_simp; refine hK _ ?_; clear hK K)
  (refine relGo_p (fun K hK => ?_); go_simp; refine hK _ ?_; clear hK K)
  (refine relGo_p (fun K hK => ?_); go_simp; refine hK _ ?_; clear hK K)
  (refine relGo_p (fun K hK => ?_); go_simp; refine hK _ ?_; clear hK K)
  refine relGo_r (IsB w2.heap.size xs) (IsB.later _ _) ?_ ?_
  · intro w' hw'
    go_simp
    refine (bclone_any B xs.length c xs w' ((H.out.1.ext HX.out.1).ext hw') H.out.2.2).mono ?_
    rintro e w'' ⟨v', rfl, h1, h2⟩
    exact ⟨v', rfl, h2, CRow.lower h1 hw'.size_le'⟩
  refine relGo_r (IsP w2.heap.size f t xs) (IsP.later _ _ _ _) ?_ ?_
  · intro w' hw' v hv
    have hv' : BRow w' w2.heap.size v xs := hv (by kernel_rfl)
    obtain ⟨A', c', rfl, hc'⟩ := hv'.form
    have HV := Lib.hid hv'
    clear hv hv'
    go_simp
    exact ⟨_, rfl, HV.out⟩
  refine hFin _ _ (fun w9 hw9 => ?_)
  intro v hv u hu
  have hv' : BRow w9 w2.heap.size v xs := hv rfl
  have hu' : IsP w2.heap.size f t xs u w9 := hu rfl
  obtain ⟨A', c', rfl, _⟩ := hv'.form
  obtain ⟨u', rfl, hu2⟩ := hu'
  obtain ⟨A2, c2, rfl, hc2⟩ := hu2.form
  clear hFin Fin hv hu hv' a0 a1 a2
  have HU := Lib.hid (And.intro hu2 hc2)
  have o2 := hw9.obj HX.out.2
  have d0 : w9.cell? ⟨b2, 0, none⟩ = some (.int .i64 0) := (cell_of_row w9 b2 0 _ _ _ o2).trans rfl
  have d1 : w9.cell? ⟨b2, 1, none⟩ = some (.int .i64 0) := (cell_of_row w9 b2 1 _ _ _ o2).trans rfl
  have d2 : w9.cell? ⟨b2, 2, none⟩ = some (.slice none 0 0) := (cell_of_row w9 b2 2 _ _ _ o2).trans rfl
  have e0 : w9.frozen? ⟨b2, 0, none⟩ = false := by simp [World.frozen?, o2]
  have e1 : w9.frozen? ⟨b2, 1, none⟩ = false := by simp [World.frozen?, o2]
  have e2 : w9.frozen? ⟨b2, 2, none⟩ = false := by simp [World.frozen?, o2]
  have HO := Lib.hid (And.intro o2 hw9)
  clear o2 hw9 hu2 hc2
  simp only [fillE, List.drop_succ_cons, List.drop_zero, List.drop_nil]
  go_wp2_with fail
  obtain ⟨o2, hw9⟩ := HO.out
  have q1 := (put2' (i := 0) (x := .int .i64 f) o2)
  have q2 := (put2' (i := 1) (x := .int .i64 t) q1)
  have q3 := (put2' (i := 2) (x := .slice A2 xs.length c2) q2)
  have z0 := (cell_of_row _ b2 0 _ _ _ q3)
  have z1 := (cell_of_row _ b2 1 _ _ _ q3)
  have z2 := (cell_of_row _ b2 2 _ _ _ q3)
  have hne : (Value.slice A2 xs.length c2).ownBlock ≠ some b2 := CRow.ne HU.out.1 o2 (by decide)
  have hch : Chg (fun k => k = b2) w9 (((w9.setCell ⟨b2, 0, none⟩ (.int .i64 f)).setCell ⟨b2, 1, none⟩ (.int .i64 t)).setCell ⟨b2, 2, none⟩ (.slice A2 xs.length c2)) := (((Chg.refl (fun k => k = b2) w9).setCell ⟨b2, 0, none⟩ _ (fun _ => rfl)).setCell ⟨b2, 1, none⟩ _ (fun _ => rfl)).setCell ⟨b2, 2, none⟩ _ (fun _ => rfl)
  have hfin : Ext w (((w9.setCell ⟨b2, 0, none⟩ (.int .i64 f)).setCell ⟨b2, 1, none⟩ (.int .i64 t)).setCell ⟨b2, 2, none⟩ (.slice A2 xs.length c2)) := Below.trans (HX.out.1.trans hw9) (hch.below (HX.out.1.trans hw9).size_le' (fun k hk => by subst hk; exact hb2))
  have hrow := CRow.chg HU.out.1 hch (fun k hk e => hne (e ▸ hk))
  refine bodyPost_ret (v := .agg #[.int .i64 f, .int .i64 t, .slice A2 xs.length c2]) (by simp [results, Try.results20, go_sem, z0, z1, z2]; try rfl) rfl ⟨A2, c2, rfl, CRow.lower hrow HX.out.1.size_le', HU.out.2, hfin⟩
end Go.Proofs.Ytbeoickdcbnjgaa
