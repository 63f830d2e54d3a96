/- The operations on values: num.Add .. num.Div and the document's Op come to the same. -/
import Derived.Test.YtgodncdhkmpfaaaNumB
namespace Go.Proofs.Ytgodncdhkmpfaaa
open Go.RowKit
set_option linter.unusedVariables false
set_option linter.unusedSimpArgs false
attribute [local go_sem] stepR givesR fillE Ext.refl

def numV (k i : Int) (f : Nat) : Value := .agg #[.int .i64 k, .int .i64 i, .float .f64 f, .string ⟨#[]⟩, .slice none 0 0]
def vInt (r : Option Int) : Value := match r with | some n => .tuple #[numV 1 n 0, .int .i64 0] | none => .tuple #[numV 0 0 0, .int .i64 35]
def numOp (op : BinOp) (W : Int → Int → Option Int) (k i : Int) (f : Nat) (k' i' : Int) (f' : Nat) : Value :=
  if (k == 1 || k == 2) = true then
    if (k' == 1 || k' == 2) = true then
      if (k == 1 && k' == 1) = true then vInt (W i i') else .tuple #[numV 2 0 (fop op (asF k i f) (asF k' i' f')), .int .i64 0]
    else .tuple #[numV 0 0 0, .int .i64 31]
  else .tuple #[numV 0 0 0, .int .i64 31]
/-- a value, and one new block -/
def Ret1 (v : Value) (cs : Array Value) (w : World) (e : Ending) (w' : World) : Prop := e = .returned v ∧ w' = w.alloc (.cells cs 31)
theorem is_exact (k i : Int) (f : Nat) (s : ByteArray) (L : Value) (w : World) : Calls Try.prog 52 #[(.agg #[.int .i64 k, .int .i64 i, .float .f64 f, .string s, L])] w (Ret1 (.bool (k == 1 || k == 2)) #[.int .i64 k, .int .i64 i, .float .f64 f, .string s, L] w) := by
  go_enter Try.func52, Try.ntmps52
  go_wp2
  all_goals
    go_ret
    exact ⟨by simp_all, by simp_all⟩
theorem number_exact (k i : Int) (f : Nat) (s : ByteArray) (L : Value) (w : World) : Calls Try.prog 21 #[(.agg #[.int .i64 k, .int .i64 i, .float .f64 f, .string s, L])] w (Ret1 (.bool (k == 1 || k == 2)) #[.int .i64 k, .int .i64 i, .float .f64 f, .string s, L] w) := by
  go_enter Try.func21, Try.ntmps21
  go_wp2
  all_goals
    go_ret
    exact ⟨by simp_all, by simp_all⟩

/-- a struct of five cells, its own block -/
structure VAt (w : World) (b : Nat) (k i : Int) (f : Nat) (s : ByteArray) (L : Value) : Prop where
  heap : w.heap[b]? = some (.cells #[.int .i64 k, .int .i64 i, .float .f64 f, .string s, L] 31 (0, 0))
theorem VAt.ext {w w' : World} {b : Nat} {k i : Int} {f : Nat} {s : ByteArray} {L : Value} (h : VAt w b k i f s L) (hx : Ext w w') : VAt w' b k i f s L := by
  have hb : b < w.heap.size := by
    have := h.heap
    rcases Nat.lt_or_ge b w.heap.size with h1 | h1
    · exact h1
    · rw [Array.getElem?_eq_none h1] at this; cases this
  exact ⟨(hx.block b hb).trans h.heap⟩
theorem VAt.cell {w : World} {b : Nat} {k i : Int} {f : Nat} {s : ByteArray} {L : Value} (h : VAt w b k i f s L) (j : Nat) (v : Value) (hv : [Value.int .i64 k, .int .i64 i, .float .f64 f, .string s, L][j]? = some v) : w.cell? ⟨b, j, none⟩ = some v := by
  have := h.heap
  match j, hv with
  | 0, e => cases e; simp [World.cell?, this]
  | 1, e => cases e; simp [World.cell?, this]
  | 2, e => cases e; simp [World.cell?, this]
  | 3, e => cases e; simp [World.cell?, this]
  | 4, e => cases e; simp [World.cell?, this]
  | n + 5, e => simp at e
theorem VAt.free {w : World} {b : Nat} {k i : Int} {f : Nat} {s : ByteArray} {L : Value} (h : VAt w b k i f s L) (j : Nat) : w.frozen? ⟨b, j, none⟩ = false := by
  simp [World.frozen?, h.heap]
theorem VAt.new (w : World) (k i : Int) (f : Nat) (s : ByteArray) (L : Value) : VAt (w.alloc (.cells #[.int .i64 k, .int .i64 i, .float .f64 f, .string s, L] 31)) w.heap.size k i f s L := ⟨by show (w.heap.push _)[w.heap.size]? = _; exact Array.getElem?_push_size⟩
theorem alloc_size (w : World) (o : Obj) : (w.alloc o).heap.size = w.heap.size + 1 := Array.size_push ..
theorem VAt.put {w : World} {b : Nat} {k i : Int} {f : Nat} {s : ByteArray} {L : Value} (h : VAt w b k i f s L) (k' i' : Int) (f' : Nat) (s' : ByteArray) (L' : Value) :
    VAt (((((w.setCell ⟨b, 0, none⟩ (.int .i64 k')).setCell ⟨b, 1, none⟩ (.int .i64 i')).setCell ⟨b, 2, none⟩ (.float .f64 f')).setCell ⟨b, 3, none⟩ (.string s')).setCell ⟨b, 4, none⟩ L') b k' i' f' s' L' :=
  ⟨heap_setCell_same _ b 4 _ 31 L' (heap_setCell_same _ b 3 _ 31 _ (heap_setCell_same _ b 2 _ 31 _ (heap_setCell_same _ b 1 _ 31 _ (heap_setCell_same _ b 0 _ 31 _ h.heap))))⟩
theorem VAt.pack {w : World} {b : Nat} {k i : Int} {f : Nat} {s : ByteArray} {L : Value} (h : VAt w b k i f s L) : w.cell? ⟨b, 0, none⟩ = some (.int .i64 k) ∧ w.cell? ⟨b, 1, none⟩ = some (.int .i64 i) ∧ w.cell? ⟨b, 2, none⟩ = some (.float .f64 f) ∧ w.cell? ⟨b, 3, none⟩ = some (.string s) ∧ w.cell? ⟨b, 4, none⟩ = some L :=
  ⟨h.cell 0 _ rfl, h.cell 1 _ rfl, h.cell 2 _ rfl, h.cell 3 _ rfl, h.cell 4 _ rfl⟩
theorem Ext.set {w w' : World} (h : Ext w w') {b : Nat} (hb : w.heap.size ≤ b) (j : Nat) (v : Value) : Ext w (w'.setCell ⟨b, j, none⟩ v) := Below.setCell h hb v
theorem Ext.size_le {w w' : World} (h : Ext w w') : w.heap.size ≤ w'.heap.size := h.size

theorem five (w : World) (k i : Int) (f : Nat) (s : ByteArray) (L : Value) (k' i' : Int) (f' : Nat) (s' : ByteArray) (L' : Value) (o o' : Obj) :
    Ext w (((((w.alloc (.cells #[.int .i64 k, .int .i64 i, .float .f64 f, .string s, L] 31)).alloc (.cells #[.int .i64 k', .int .i64 i', .float .f64 f', .string s', L'] 31)).alloc (.cells #[.int .i64 0, .int .i64 0, .float .f64 0, .string ⟨#[]⟩, .slice none 0 0] 31)).alloc o).alloc o') ∧
    VAt (((((w.alloc (.cells #[.int .i64 k, .int .i64 i, .float .f64 f, .string s, L] 31)).alloc (.cells #[.int .i64 k', .int .i64 i', .float .f64 f', .string s', L'] 31)).alloc (.cells #[.int .i64 0, .int .i64 0, .float .f64 0, .string ⟨#[]⟩, .slice none 0 0] 31)).alloc o).alloc o') w.heap.size k i f s L ∧
    VAt (((((w.alloc (.cells #[.int .i64 k, .int .i64 i, .float .f64 f, .string s, L] 31)).alloc (.cells #[.int .i64 k', .int .i64 i', .float .f64 f', .string s', L'] 31)).alloc (.cells #[.int .i64 0, .int .i64 0, .float .f64 0, .string ⟨#[]⟩, .slice none 0 0] 31)).alloc o).alloc o') (w.heap.size + 1) k' i' f' s' L' ∧
    VAt (((((w.alloc (.cells #[.int .i64 k, .int .i64 i, .float .f64 f, .string s, L] 31)).alloc (.cells #[.int .i64 k', .int .i64 i', .float .f64 f', .string s', L'] 31)).alloc (.cells #[.int .i64 0, .int .i64 0, .float .f64 0, .string ⟨#[]⟩, .slice none 0 0] 31)).alloc o).alloc o') (w.heap.size + 1 + 1) 0 0 0 ⟨#[]⟩ (.slice none 0 0) := by
  have a := VAt.new w k i f s L
  have b := VAt.new (w.alloc (.cells #[.int .i64 k, .int .i64 i, .float .f64 f, .string s, L] 31)) k' i' f' s' L'
  have c := VAt.new ((w.alloc (.cells #[.int .i64 k, .int .i64 i, .float .f64 f, .string s, L] 31)).alloc (.cells #[.int .i64 k', .int .i64 i', .float .f64 f', .string s', L'] 31)) 0 0 0 ⟨#[]⟩ (.slice none 0 0)
  have x1 : ∀ (w : World) (o : Obj), Ext w (w.alloc o) := fun w o => (Ext.refl w).alloc o
  rw [alloc_size] at b
  rw [alloc_size, alloc_size] at c
  exact ⟨((((x1 _ _).alloc _).alloc _).alloc _).alloc _, (((a.ext (x1 _ _)).ext (x1 _ _)).ext (x1 _ _)).ext (x1 _ _), ((b.ext (x1 _ _)).ext (x1 _ _)).ext (x1 _ _), (c.ext (x1 _ _)).ext (x1 _ _)⟩
def FopV (op : BinOp) (x y : Nat) (v : Value) (_ : World) : Prop := ∃ r, v = .float .f64 r ∧ canon r = fop op x y

set_option maxHeartbeats 2000000 in
theorem do_any (fw fp : Nat) (op : BinOp) (W : Int → Int → Option Int)
    (hW : ∀ a b, inR a → inR b → ∀ w, Calls Try.prog fw #[.int .i64 a, .int .i64 b] w (WholePost (W a b) w))
    (hF : ∀ x y w, Calls Try.prog fp #[.float .f64 x, .float .f64 y] w (RetF op x y w))
    (eW : ∀ args w, (callFunc fw args).run Try.prog w = .ok (.enter fw args) w) (eF : ∀ args w, (callFunc fp args).run Try.prog w = .ok (.enter fp args) w)
    (k i : Int) (hi : inR i) (f : Nat) (s : ByteArray) (L : Value) (k' i' : Int) (hi' : inR i') (f' : Nat) (s' : ByteArray) (L' : Value) (w : World) :
    Calls Try.prog 38 #[(.agg #[.int .i64 k, .int .i64 i, .float .f64 f, .string s, L]), (.agg #[.int .i64 k', .int .i64 i', .float .f64 f', .string s', L']), .func (.func fw) #[] #[], .func (.func fp) #[] #[]] w (Ret (numOp op W k i f k' i' f') w) := by
  cases h1 : (k == 1 || k == 2) with
  | false =>
    have e : numOp op W k i f k' i' f' = .tuple #[numV 0 0 0, .int .i64 31] := by unfold numOp; rw [h1]; rfl
    rw [e]
    clear e
    go_enter Try.func38, Try.ntmps38
    go_wp2_with (go_at_call 52; refine (is_exact _ _ _ _ _ _).mono ?_; rintro e w' ⟨rfl, rfl⟩)
    go_returns
    exact ⟨rfl, (((((Ext.refl _).alloc _).alloc _).alloc _).alloc _)⟩
  | true =>
    cases h2 : (k' == 1 || k' == 2) with
    | false =>
      have e : numOp op W k i f k' i' f' = .tuple #[numV 0 0 0, .int .i64 31] := by unfold numOp; rw [h1, h2]; rfl
      rw [e]
      clear e
      go_enter Try.func38, Try.ntmps38
      go_wp2_with (go_at_call 52; refine (is_exact _ _ _ _ _ _).mono ?_; rintro e w' ⟨rfl, rfl⟩)
      go_returns
      exact ⟨rfl, ((((((Ext.refl _).alloc _).alloc _).alloc _).alloc _).alloc _)⟩
    | true =>
      cases h3 : (k == 1 && k' == 1) with
      | true =>
        have e : numOp op W k i f k' i' f' = vInt (W i i') := by unfold numOp; rw [h1, h2, h3]; rfl
        rw [e]
        clear e h1 h2
        simp only [Bool.and_eq_true, beq_iff_eq] at h3
        obtain ⟨rfl, rfl⟩ := h3
        go_enter Try.func38, Try.ntmps38
        go_wp2_with (go_at_call 52; refine (is_exact _ _ _ _ _ _).mono ?_; rintro e w' ⟨rfl, rfl⟩)
        refine (hW _ _ hi hi' _).mono ?_
        rintro e w' ⟨n, ok, rfl, hr, hx⟩
        have V := (((VAt.new _ 0 0 0 ⟨#[]⟩ (.slice none 0 0)).ext ((Ext.refl _).alloc _)).ext ((Ext.refl _).alloc _)).ext hx
        simp only [alloc_size] at V
        have c0 := V.cell 0 _ rfl
        have c1 := V.cell 1 _ rfl
        have c2 := V.cell 2 _ rfl
        have c3 := V.cell 3 _ rfl
        have c4 := V.cell 4 _ rfl
        have z := V.free
        have HR := Lib.hid hr
        clear hr
        have hw : Ext w w' := ((((((Ext.refl _).alloc _).alloc _).alloc _).alloc _).alloc _).trans hx
        cases ok with
        | true =>
          go_wp2
          have V5 := V.put 1 n 0 ⟨#[]⟩ (.slice none 0 0)
          have h5 : Ext w _ := ((((hw.set (Nat.le_add_right _ 2) 0 (.int .i64 1)).set (Nat.le_add_right _ 2) 1 (.int .i64 n)).set (Nat.le_add_right _ 2) 2 (.float .f64 0)).set (Nat.le_add_right _ 2) 3 (.string ⟨#[]⟩)).set (Nat.le_add_right _ 2) 4 (.slice none 0 0)
          clear c0 c1 c2 c3 c4 z V
          revert V5 h5
          generalize World.setCell _ _ _ = w5
          intro V5 h5
          obtain ⟨c0, c1, c2, c3, c4⟩ := V5.pack
          refine bodyPost_ret (by simp [results, Try.results38, go_sem, c0, c1, c2, c3, c4]; try rfl) rfl ?_
          exact ⟨by rw [← HR.out]; rfl, h5⟩
        | false =>
          go_wp2
          have V5 := V.put 0 0 0 ⟨#[]⟩ (.slice none 0 0)
          have h5 : Ext w _ := ((((hw.set (Nat.le_add_right _ 2) 0 (.int .i64 0)).set (Nat.le_add_right _ 2) 1 (.int .i64 0)).set (Nat.le_add_right _ 2) 2 (.float .f64 0)).set (Nat.le_add_right _ 2) 3 (.string ⟨#[]⟩)).set (Nat.le_add_right _ 2) 4 (.slice none 0 0)
          clear c0 c1 c2 c3 c4 z V
          revert V5 h5
          generalize World.setCell _ _ _ = w5
          intro V5 h5
          obtain ⟨c0, c1, c2, c3, c4⟩ := V5.pack
          refine bodyPost_ret (by simp [results, Try.results38, go_sem, c0, c1, c2, c3, c4]; try rfl) rfl ?_
          exact ⟨by rw [← HR.out]; rfl, h5⟩
      | false =>
        have e : numOp op W k i f k' i' f' = .tuple #[numV 2 0 (fop op (asF k i f) (asF k' i' f')), .int .i64 0] := by unfold numOp; rw [h1, h2, h3]; rfl
        rw [e]
        clear e
        have g : k = 2 ∨ (k = 1 ∧ k' = 2) := by
          simp at h1 h2 h3
          omega
        rcases g with rfl | ⟨rfl, rfl⟩
        · clear h1 h3
          go_enter Try.func38, Try.ntmps38
          go_wp2_with (go_at_call 52; refine (is_exact _ _ _ _ _ _).mono ?_; rintro e w' ⟨rfl, rfl⟩)
          obtain ⟨hw0, A, B, V⟩ := five w 2 i f s L k' i' f' s' L' (.cells #[.int .i64 2, .int .i64 i, .float .f64 f, .string s, L] 31) (.cells #[.int .i64 k', .int .i64 i', .float .f64 f', .string s', L'] 31)
          revert hw0 A B V
          generalize World.alloc _ _ = w0
          intro hw0 A B V
          have a0 := fun p : Later w0 => p.cell (A.cell 0 _ rfl)
          have a1 := fun p : Later w0 => p.cell (A.cell 1 _ rfl)
          have a2 := fun p : Later w0 => p.cell (A.cell 2 _ rfl)
          have a3 := fun p : Later w0 => p.cell (A.cell 3 _ rfl)
          have a4 := fun p : Later w0 => p.cell (A.cell 4 _ rfl)
          have b0 := fun p : Later w0 => p.cell (B.cell 0 _ rfl)
          have b1 := fun p : Later w0 => p.cell (B.cell 1 _ rfl)
          have b2 := fun p : Later w0 => p.cell (B.cell 2 _ rfl)
          have b3 := fun p : Later w0 => p.cell (B.cell 3 _ rfl)
          have b4 := fun p : Later w0 => p.cell (B.cell 4 _ rfl)
          refine wp_region_rel' 8 (by kernel_rfl) (by kernel_rfl) (fun Fin hFin => ?_)
          simp only [List.take_succ_cons, List.take_zero]
          repeat (refine relGo_p (fun K hK => ?_); go_simp; refine hK _ ?_; clear hK K)
          refine relGo_q (.float .f64 (asF 2 i f)) ?_ (fun K hK => ?_)
          · intro w' hw'
            go_simp
            refine (real_any _ _ _ _ _ _).mono ?_
            rintro e w'' ⟨rfl, h⟩
            exact ⟨rfl, h⟩
          go_simp
          refine hK _ ?_
          clear hK K
          repeat (refine relGo_p (fun K hK => ?_); go_simp; refine hK _ ?_; clear hK K)
          refine relGo_q (.float .f64 (asF k' i' f')) ?_ (fun K hK => ?_)
          · intro w' hw'
            go_simp
            refine (real_any _ _ _ _ _ _).mono ?_
            rintro e w'' ⟨rfl, h⟩
            exact ⟨rfl, h⟩
          go_simp
          refine hK _ ?_
          clear hK K
          repeat (refine relGo_p (fun K hK => ?_); go_simp; refine hK _ ?_; clear hK K)
          refine relGo_r (FopV op (asF 2 i f) (asF k' i' f')) (fun _ _ _ h _ => h) ?_ ?_
          · intro w' hw'
            go_simp
            refine (hF _ _ _).mono ?_
            rintro e w'' ⟨r, rfl, hr, h⟩
            exact ⟨_, rfl, h, r, rfl, hr⟩
          refine relGo_q (.float .f64 (fop op (asF 2 i f) (asF k' i' f'))) ?_ (fun K hK => ?_)
          · intro w' hw' v hv
            obtain ⟨r, rfl, hr⟩ := hv (by kernel_rfl)
            go_simp
            refine (canon_any _ _).mono ?_
            rintro e w'' ⟨rfl, h⟩
            rw [hr]
            exact ⟨rfl, h⟩
          go_simp
          refine hK _ ?_
          clear hK K
          repeat (refine relGo_p (fun K hK => ?_); go_simp; refine hK _ ?_; clear hK K)
          refine hFin _ _ (fun w' hw' => ?_)
          intro v hv
          clear hFin Fin hv
          have V := V.ext hw'
          have hw := hw0.trans hw'
          obtain ⟨c0, c1, c2, c3, c4⟩ := V.pack
          have z := V.free
          clear hw' hw0 A B a0 a1 a2 a3 a4 b0 b1 b2 b3 b4
          go_wp2
          have V5 := V.put 2 0 (fop op (asF 2 i f) (asF k' i' f')) ⟨#[]⟩ (.slice none 0 0)
          have h5 : Ext w _ := ((((hw.set (Nat.le_add_right _ 2) 0 (.int .i64 2)).set (Nat.le_add_right _ 2) 1 (.int .i64 0)).set (Nat.le_add_right _ 2) 2 (.float .f64 (fop op (asF 2 i f) (asF k' i' f')))).set (Nat.le_add_right _ 2) 3 (.string ⟨#[]⟩)).set (Nat.le_add_right _ 2) 4 (.slice none 0 0)
          clear c0 c1 c2 c3 c4 z V
          revert V5 h5
          generalize World.setCell _ _ _ = w5
          intro V5 h5
          obtain ⟨c0, c1, c2, c3, c4⟩ := V5.pack
          refine bodyPost_ret (by simp [results, Try.results38, go_sem, c0, c1, c2, c3, c4]; try rfl) rfl ?_
          exact ⟨rfl, h5⟩
        · clear h1 h2 h3
          go_enter Try.func38, Try.ntmps38
          go_wp2_with (go_at_call 52; refine (is_exact _ _ _ _ _ _).mono ?_; rintro e w' ⟨rfl, rfl⟩)
          obtain ⟨hw0, A, B, V⟩ := five w 1 i f s L 2 i' f' s' L' (.cells #[.int .i64 1, .int .i64 i, .float .f64 f, .string s, L] 31) (.cells #[.int .i64 2, .int .i64 i', .float .f64 f', .string s', L'] 31)
          revert hw0 A B V
          generalize World.alloc _ _ = w0
          intro hw0 A B V
          have a0 := fun p : Later w0 => p.cell (A.cell 0 _ rfl)
          have a1 := fun p : Later w0 => p.cell (A.cell 1 _ rfl)
          have a2 := fun p : Later w0 => p.cell (A.cell 2 _ rfl)
          have a3 := fun p : Later w0 => p.cell (A.cell 3 _ rfl)
          have a4 := fun p : Later w0 => p.cell (A.cell 4 _ rfl)
          have b0 := fun p : Later w0 => p.cell (B.cell 0 _ rfl)
          have b1 := fun p : Later w0 => p.cell (B.cell 1 _ rfl)
          have b2 := fun p : Later w0 => p.cell (B.cell 2 _ rfl)
          have b3 := fun p : Later w0 => p.cell (B.cell 3 _ rfl)
          have b4 := fun p : Later w0 => p.cell (B.cell 4 _ rfl)
          refine wp_region_rel' 8 (by kernel_rfl) (by kernel_rfl) (fun Fin hFin => ?_)
          simp only [List.take_succ_cons, List.take_zero]
          repeat (refine relGo_p (fun K hK => ?_); go_simp; refine hK _ ?_; clear hK K)
          refine relGo_q (.float .f64 (asF 1 i f)) ?_ (fun K hK => ?_)
          · intro w' hw'
            go_simp
            refine (real_any _ _ _ _ _ _).mono ?_
            rintro e w'' ⟨rfl, h⟩
            exact ⟨rfl, h⟩
          go_simp
          refine hK _ ?_
          clear hK K
          repeat (refine relGo_p (fun K hK => ?_); go_simp; refine hK _ ?_; clear hK K)
          refine relGo_q (.float .f64 (asF 2 i' f')) ?_ (fun K hK => ?_)
          · intro w' hw'
            go_simp
            refine (real_any _ _ _ _ _ _).mono ?_
            rintro e w'' ⟨rfl, h⟩
            exact ⟨rfl, h⟩
          go_simp
          refine hK _ ?_
          clear hK K
          repeat (refine relGo_p (fun K hK => ?_); go_simp; refine hK _ ?_; clear hK K)
          refine relGo_r (FopV op (asF 1 i f) (asF 2 i' f')) (fun _ _ _ h _ => h) ?_ ?_
          · intro w' hw'
            go_simp
            refine (hF _ _ _).mono ?_
            rintro e w'' ⟨r, rfl, hr, h⟩
            exact ⟨_, rfl, h, r, rfl, hr⟩
          refine relGo_q (.float .f64 (fop op (asF 1 i f) (asF 2 i' f'))) ?_ (fun K hK => ?_)
          · intro w' hw' v hv
            obtain ⟨r, rfl, hr⟩ := hv (by kernel_rfl)
            go_simp
            refine (canon_any _ _).mono ?_
            rintro e w'' ⟨rfl, h⟩
            rw [hr]
            exact ⟨rfl, h⟩
          go_simp
          refine hK _ ?_
          clear hK K
          repeat (refine relGo_p (fun K hK => ?_); go_simp; refine hK _ ?_; clear hK K)
          refine hFin _ _ (fun w' hw' => ?_)
          intro v hv
          clear hFin Fin hv
          have V := V.ext hw'
          have hw := hw0.trans hw'
          obtain ⟨c0, c1, c2, c3, c4⟩ := V.pack
          have z := V.free
          clear hw' hw0 A B a0 a1 a2 a3 a4 b0 b1 b2 b3 b4
          go_wp2
          have V5 := V.put 2 0 (fop op (asF 1 i f) (asF 2 i' f')) ⟨#[]⟩ (.slice none 0 0)
          have h5 : Ext w _ := ((((hw.set (Nat.le_add_right _ 2) 0 (.int .i64 2)).set (Nat.le_add_right _ 2) 1 (.int .i64 0)).set (Nat.le_add_right _ 2) 2 (.float .f64 (fop op (asF 1 i f) (asF 2 i' f')))).set (Nat.le_add_right _ 2) 3 (.string ⟨#[]⟩)).set (Nat.le_add_right _ 2) 4 (.slice none 0 0)
          clear c0 c1 c2 c3 c4 z V
          revert V5 h5
          generalize World.setCell _ _ _ = w5
          intro V5 h5
          obtain ⟨c0, c1, c2, c3, c4⟩ := V5.pack
          refine bodyPost_ret (by simp [results, Try.results38, go_sem, c0, c1, c2, c3, c4]; try rfl) rfl ?_
          exact ⟨rfl, h5⟩
end Go.Proofs.Ytgodncdhkmpfaaa
