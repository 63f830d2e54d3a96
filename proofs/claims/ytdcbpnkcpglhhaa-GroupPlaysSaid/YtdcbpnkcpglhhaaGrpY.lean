/- The document's Do: create. -/
import Derived.Test.YtdcbpnkcpglhhaaGrpV
import Derived.Test.YtdcbpnkcpglhhaaGrpI
namespace Go.Proofs.Ytdcbpnkcpglhhaa
open Go.RowKit
set_option linter.unusedVariables false
set_option linter.unusedSimpArgs false
set_option linter.unnecessarySimpa false
attribute [local go_sem] stepR givesR fillE Ext.refl run_store_float

theorem RF.fail {w : World} {base g bx : Nat} {v : Value} {L : List Gp} {S : Nat → Prop} {n : Nat} {A : Option Addr} {c : Nat} {ts : List T} {wr w1 w3 : World} (h : RW w base g bx v L S n A c ts wr) (hx : Ext wr w1) (z : Int)
    (h3 : Chg (fun k => k = bx) w1 w3) (ho : w3.heap[bx]? = some zeroV) {a : Act} (ha : a.defers = []) (hs : a.tmps.size = 292) (h6 : G a 6 = .pointer (some ⟨bx, 0, none⟩)) (h7 : G a 7 = .int .i64 z) : RF w base g bx v (L, nilT, z) .ret a w3 :=
  RF.nil h (h.dr.ext hx) ((Chg.of_ext hx).mono (fun _ _ e => e.elim)) (.inl rfl) z h3 ho ha hs h6 h7
theorem createG_of (L : List Gp) (k i : Int) (f : Nat) (s : ByteArray) (l : List T) (k' i' : Int) (f' : Nat) (s' : ByteArray) (l' : List T) (k2 i2 : Int) (f2 : Nat) (s2 : ByteArray) (l2 : List T) :
    createG L [.mk k i f s l, .mk k' i' f' s' l', .mk k2 i2 f2 s2 l2] = if styleT (.mk k2 i2 f2 s2 l2) then (if nameT (.mk k i f s l) then (if eqN s bGroups then (L, 31) else if k' = 3 then (if classS s' then (if hasN L s then (L, 32) else if 16 ≤ L.length then (L, 33) else (insG L ⟨s, s', styS s2, 1⟩, 0)) else (L, 31)) else (L, 31)) else (L, 31)) else (L, 31) := by
  rw [createG, gnameT, classT, T.s_mk, T.s_mk, T.s_mk]
  cases nameT (.mk k i f s l) <;> cases eqN s bGroups <;> by_cases h3 : k' = 3 <;> cases classS s' <;> cases styleT (.mk k2 i2 f2 s2 l2) <;> simp [h3]
set_option maxRecDepth 1000000 in
set_option maxHeartbeats 4000000 in
theorem zend_create {w : World} {base g bx : Nat} {v v' : Value} {L L' : List Gp} {S : Nat → Prop} {n : Nat} {A : Option Addr} {c : Nat} {ts : List T} {m : ByteArray} {wr w' : World} {a : Act} (hk : RK g bx m A ts.length c a) (hR : RW w base g bx v L S n A c ts wr) (hd : Dr RD w' base g v' L') (hc : Chg (fun k => k = g ∨ some k = v.ownBlock) wr w') (hf : Fresh wr v v') (ho : w'.heap[bx]? = some zeroV) :
    Code.wp Try.prog (nav [1,1,1,0,2,1,4,1,1,1,1,1,1,1] doBody) (RF w base g bx v (L', nilT, 0)) a w' := by
  have H := Lib.hid (And.intro hR (And.intro hd (And.intro hc (And.intro hf ho))))
  obtain ⟨m0, m1, m2, m3, m4, f0, f1, f2, f3, f4⟩ := cells5 ho
  clear hR hd hc hf ho
  rw [act_292 a hk.d hk.s, hk.h6]
  clear hk
  conv => arg 2; whnf
  go_wp2_with fail
  obtain ⟨hR, hd, hc, hf, ho⟩ := H.out
  obtain ⟨o4, hch⟩ := put5 (v0 := .int .i64 0) (v1 := .int .i64 0) (v2 := .float .f64 0) (v3 := .string ⟨#[]⟩) (v4 := .slice none 0 0) ho
  have key := fun (a : Act) ha hs h6 h7 => RF.nil (a := a) hR hd hc hf 0 hch o4 ha hs h6 h7
  exact key _ rfl rfl rfl rfl
def IsZG (base : Nat) (v : Value) (w : World) : Prop := ∃ q, v = .pointer (some ⟨q, 0, none⟩) ∧ base ≤ q ∧ w.heap[q]? = some (.cells #[.string ⟨#[]⟩, .string ⟨#[]⟩, .int .i64 0, .int .u32 0] 36 (0, 0))
theorem IsZG.later (base : Nat) : ∀ v w w', IsZG base v w → Ext w w' → IsZG base v w' := fun v w w' ⟨q, e, h1, h2⟩ hx => ⟨q, e, h1, hx.obj h2⟩
set_option maxRecDepth 1000000 in
set_option maxHeartbeats 8000000 in
theorem create_piece {w : World} {base g bx : Nat} {v : Value} {L : List Gp} {S : Nat → Prop} {n : Nat} {A : Option Addr} {c : Nat} {ts : List T} {m : ByteArray} {wr : World} {a : Act} (hk : RK g bx m A ts.length c a) (hR : RW w base g bx v L S n A c ts wr) (hlen : ts.length = 3) :
    Code.wp Try.prog (nav [1,1,1,0,2,1,4] doBody) (RF w base g bx v ((createG L ts).1, nilT, (createG L ts).2)) a wr := by
  obtain ⟨t, u, x, rfl⟩ : ∃ t u x, ts = [t, u, x] := by
    match ts, hlen with
    | [t, u, x], _ => exact ⟨t, u, x, rfl⟩
  clear hlen
  obtain ⟨_, _, hrow⟩ := hR.rd
  obtain ⟨b, off, rfl, hb, hat⟩ := hrow (by simp)
  obtain ⟨A1, c1, ha, _⟩ := hat 0 t rfl
  obtain ⟨A2, c2, hu, _⟩ := hat 1 u rfl
  obtain ⟨A3, c3, hy, _⟩ := hat 2 x rfl
  rw [Nat.zero_mul, Nat.add_zero] at ha
  rw [Nat.one_mul] at hu
  have N1 := fun w' => named_any (w := w') (t := t) (A := A1) (c := c1)
  have hns : nameT t = true → t.s.size ≤ 32 := nameT_size
  obtain ⟨k, i, f, s, l⟩ := t
  obtain ⟨k', i', f', s', l'⟩ := u
  obtain ⟨k2, i2, f2, s2, l2⟩ := x
  obtain ⟨a0, a1, a2, a3, a4⟩ := ha
  obtain ⟨u0, u1, u2, u3, u4⟩ := hu
  obtain ⟨y0, y1, y2, y3, y4⟩ := hy
  have S1 := fun w' => styleOf_any (w := w') (k := k2) (i := i2) (f := f2) (s := s2) (n := l2.length) (A := A3) (c := c3)
  have C1 := fun w' => rclass_any w' s'
  have F1 := fun w' (hx : Ext wr w') => at_any (hR.dr.ext hx) s
  simp only [T.val] at N1
  rw [createG_of]
  obtain ⟨r, hr⟩ : ∃ r, r = (if styleT (.mk k2 i2 f2 s2 l2) then (if nameT (.mk k i f s l) then (if eqN s bGroups then (L, (31 : Int)) else if k' = 3 then (if classS s' then (if hasN L s then (L, 32) else if 16 ≤ L.length then (L, 33) else (insG L ⟨s, s', styS s2, 1⟩, 0)) else (L, 31)) else (L, 31)) else (L, 31)) else (L, 31)) := ⟨_, rfl⟩
  rw [← hr]
  have HE := Lib.hid hr
  clear hr
  have es : styleT (.mk k2 i2 f2 s2 l2) = (decide (0 ≤ styS s2) && decide (k2 = 3)) := by rw [styleT]
  rw [← es] at S1
  have HM := Lib.hid (show (styleT (.mk k2 i2 f2 s2 l2) = true → styS s2 = 0 ∨ styS s2 = 1 ∨ styS s2 = 2) ∧ (nameT (.mk k i f s l) = true → s.size ≤ 32) ∧ (classS s' = true → s'.size ≤ 32) from ⟨fun e => by rw [es] at e; simp only [Bool.and_eq_true, decide_eq_true_eq] at e; exact styS_range e.1, hns, classS_size⟩)
  have hins : ∀ y z, insG L ⟨s, y, z, 1⟩ = L.take (posN L s) ++ (⟨s, y, z, 1⟩ : Gp) :: L.drop (posN L s) := fun y z => rfl
  have hsrt : hasN L s = false → ∀ y z, Srt (insG L ⟨s, y, z, 1⟩) := fun e y z => hR.dr.srt.ins _ e
  have HP := Lib.hid (And.intro (posN_le L s) (And.intro hins hsrt))
  have hgr : (s.toList == [103, 114, 111, 117, 112, 115]) = eqN s bGroups := by rw [eqN, show bGroups.toList = [103, 114, 111, 117, 112, 115] by rw [Lib.toList_data]; rfl]
  have hfew := hR.dr.few
  have hob := hR.ob
  have HK := Lib.hid (And.intro hk hR)
  generalize styleT (.mk k2 i2 f2 s2 l2) = st at *
  generalize nameT (.mk k i f s l) = nm at *
  generalize eqN s bGroups = gr at *
  generalize classS s' = cl at *
  generalize posN L s = pos at *
  generalize hasN L s = has at *
  generalize styS s2 = z at *
  rw [act_292 a hk.d hk.s, hk.h0, hk.h2, hk.h6, hk.h10]
  obtain ⟨A4, c4, rfl, hlc, hcm, hA4⟩ := hR.dr.row.form
  have hcl := hR.dr.cell.1
  have HO := Lib.hid (And.intro hob hcl)
  clear hk hR hrow hat hb es hns hob hcl hA4 hins hsrt
  obtain ⟨D, hD⟩ : ∃ D, nav [1,1,1,0,2,1,4,1,1,1,1,1,1] doBody = D := ⟨_, rfl⟩
  have hD2 := hD
  conv at hD2 => lhs; whnf
  conv => arg 2; whnf
  rw [hD2]
  clear hD2
  go_wp2_with fail
  refine (S1 _).mono ?_
  rintro e w1 ⟨rfl, x1⟩
  cases st with
  | false =>
    obtain ⟨m0, m1, m2, m3, m4, f0, f1', f2', f3, f4⟩ := cells5 (x1.obj HO.out.1)
    have X := Lib.hid x1
    clear x1
    go_wp2_with fail
    obtain ⟨o4, hch⟩ := put5 (v0 := .int .i64 0) (v1 := .int .i64 0) (v2 := .float .f64 0) (v3 := .string ⟨#[]⟩) (v4 := .slice none 0 0) (X.out.obj HO.out.1)
    have key := fun (a : Act) ha hs h6 h7 => RF.fail (a := a) HK.out.2 X.out 31 hch o4 ha hs h6 h7
    have er : r = (L, 31) := by rw [HE.out]; simp 
    rw [er]
    exact key _ rfl rfl rfl rfl
  | true =>
    rw [show styR true z = z from rfl]
    have b0 := x1.cell a0
    have b1 := x1.cell a1
    have b2 := x1.cell a2
    have b3 := x1.cell a3
    have b4 := x1.cell a4
    have N2 := N1 w1
    clear N1 S1
    go_wp2_with fail
    refine N2.mono ?_
    rintro e w2 ⟨rfl, x2⟩
    have x12 := x1.trans x2
    cases nm with
    | false =>
      obtain ⟨m0, m1, m2, m3, m4, f0, f1', f2', f3, f4⟩ := cells5 (x12.obj HO.out.1)
      have X := Lib.hid x12
      clear x1 x2 x12
      go_wp2_with fail
      obtain ⟨o4, hch⟩ := put5 (v0 := .int .i64 0) (v1 := .int .i64 0) (v2 := .float .f64 0) (v3 := .string ⟨#[]⟩) (v4 := .slice none 0 0) (X.out.obj HO.out.1)
      have key := fun (a : Act) ha hs h6 h7 => RF.fail (a := a) HK.out.2 X.out 31 hch o4 ha hs h6 h7
      have er : r = (L, 31) := by rw [HE.out]; simp 
      rw [er]
      exact key _ rfl rfl rfl rfl
    | true =>
      have p3 := x12.cell a3
      cases gr with
      | true =>
        obtain ⟨m0, m1, m2, m3, m4, f0, f1', f2', f3, f4⟩ := cells5 (x12.obj HO.out.1)
        have X := Lib.hid x12
        clear x1 x2 x12
        go_wp2_with fail
        obtain ⟨o4, hch⟩ := put5 (v0 := .int .i64 0) (v1 := .int .i64 0) (v2 := .float .f64 0) (v3 := .string ⟨#[]⟩) (v4 := .slice none 0 0) (X.out.obj HO.out.1)
        have key := fun (a : Act) ha hs h6 h7 => RF.fail (a := a) HK.out.2 X.out 31 hch o4 ha hs h6 h7
        have er : r = (L, 31) := by rw [HE.out]; simp 
        rw [er]
        exact key _ rfl rfl rfl rfl
      | false =>
        have q0 := x12.cell u0
        by_cases k3 : k' = 3
        · subst k3
          have q3 := x12.cell u3
          have C2 := C1 w2
          clear C1
          go_wp2_with fail
          refine C2.mono ?_
          rintro e w3 ⟨rfl, x3⟩
          have x13 := x12.trans x3
          cases cl with
          | false =>
            obtain ⟨m0, m1, m2, m3, m4, f0, f1', f2', f3, f4⟩ := cells5 (x13.obj HO.out.1)
            have X := Lib.hid x13
            clear x1 x2 x12 x3 x13
            go_wp2_with fail
            obtain ⟨o4, hch⟩ := put5 (v0 := .int .i64 0) (v1 := .int .i64 0) (v2 := .float .f64 0) (v3 := .string ⟨#[]⟩) (v4 := .slice none 0 0) (X.out.obj HO.out.1)
            have key := fun (a : Act) ha hs h6 h7 => RF.fail (a := a) HK.out.2 X.out 31 hch o4 ha hs h6 h7
            have er : r = (L, 31) := by rw [HE.out]; simp 
            rw [er]
            exact key _ rfl rfl rfl rfl
          | true =>
            have r3 := x13.cell a3
            have F2 := F1 w3 x13
            clear F1
            go_wp2_with fail
            refine F2.mono ?_
            rintro e w4 ⟨rfl, x4⟩
            have x14 := x13.trans x4
            cases has with
            | true =>
              obtain ⟨m0, m1, m2, m3, m4, f0, f1', f2', f3, f4⟩ := cells5 (x14.obj HO.out.1)
              have X := Lib.hid x14
              clear x1 x2 x12 x3 x13 x4 x14
              go_wp2_with fail
              obtain ⟨o4, hch⟩ := put5 (v0 := .int .i64 0) (v1 := .int .i64 0) (v2 := .float .f64 0) (v3 := .string ⟨#[]⟩) (v4 := .slice none 0 0) (X.out.obj HO.out.1)
              have key := fun (a : Act) ha hs h6 h7 => RF.fail (a := a) HK.out.2 X.out 32 hch o4 ha hs h6 h7
              have er : r = (L, 32) := by rw [HE.out]; simp 
              rw [er]
              exact key _ rfl rfl rfl rfl
            | false =>
              have d0 := x14.cell HO.out.2
              by_cases hfull : 16 ≤ L.length
              · have hfi : (16 : Int) ≤ (L.length : Int) := by omega
                obtain ⟨m0, m1, m2, m3, m4, f0, f1', f2', f3, f4⟩ := cells5 (x14.obj HO.out.1)
                have X := Lib.hid x14
                clear x1 x2 x12 x3 x13 x4 x14
                go_wp2_with fail
                obtain ⟨o4, hch⟩ := put5 (v0 := .int .i64 0) (v1 := .int .i64 0) (v2 := .float .f64 0) (v3 := .string ⟨#[]⟩) (v4 := .slice none 0 0) (X.out.obj HO.out.1)
                have key := fun (a : Act) ha hs h6 h7 => RF.fail (a := a) HK.out.2 X.out 33 hch o4 ha hs h6 h7
                have er : r = (L, 33) := by rw [HE.out]; simp [hfull]
                rw [er]
                exact key _ rfl rfl rfl rfl
              · have hfi : decide ((16 : Int) ≤ (L.length : Int)) = false := decide_eq_false (by omega)
                have X := Lib.hid x14
                have e3 : ∀ p : Later w4, p.w.cell? ⟨b, off + 3, none⟩ = some (.string s) := fun p => p.cell (x14.cell a3)
                have e4 : ∀ p : Later w4, p.w.cell? ⟨b, off + 5 + 3, none⟩ = some (.string s') := fun p => p.cell (x14.cell u3)
                clear x1 x2 x12 x3 x13 x4 x14 p3 q0 q3 r3 N2 C2 F2
                go_wp2_with fail
                refine wp_region_rel' 11 (by kernel_rfl) (by kernel_rfl) (fun Fin hFin => ?_)
                simp only [List.take_succ_cons, List.take_zero]
                (refine relGo_p (fun K hK => ?_); go_simp; refine hK _ ?_; clear hK K)
                (refine relGo_p (fun K hK => ?_); go_simp; refine hK _ ?_; clear hK K)
                (refine relGo_p (fun K hK => ?_); go_simp; refine hK _ ?_; clear hK K)
                (refine relGo_p (fun K hK => ?_); go_simp; refine hK _ ?_; clear hK K)
                (refine relGo_p (fun K hK => ?_); go_simp; refine hK _ ?_; clear hK K)
                (refine relGo_p (fun K hK => ?_); go_simp; refine hK _ ?_; clear hK K)
                (refine relGo_p (fun K hK => ?_); go_simp; refine hK _ ?_; clear hK K)
                (refine relGo_p (fun K hK => ?_); go_simp; refine hK _ ?_; clear hK K)
                (refine relGo_p (fun K hK => ?_); go_simp; refine hK _ ?_; clear hK K)
                (refine relGo_p (fun K hK => ?_); go_simp; refine hK _ ?_; clear hK K)
                refine relGo_r (IsZG w4.heap.size) (IsZG.later _) ?_ ?_
                · intro w' hw'
                  go_simp
                  exact ⟨(Ext.refl w').alloc _, _, rfl, hw'.size_le', heap_alloc_new w' _⟩
                refine hFin _ _ (fun w9 hw9 => ?_)
                intro v1 hv1
                obtain ⟨q, rfl, hle, hq⟩ : IsZG w4.heap.size v1 w9 := hv1 (by kernel_rfl)
                clear hFin Fin hv1 e3 e4
                have g0 : w9.cell? ⟨q, 0, none⟩ = some (.string ⟨#[]⟩) := (cell_of_row w9 q 0 _ _ _ hq).trans rfl
                have g1 : w9.cell? ⟨q, 1, none⟩ = some (.string ⟨#[]⟩) := (cell_of_row w9 q 1 _ _ _ hq).trans rfl
                have g2 : w9.cell? ⟨q, 2, none⟩ = some (.int .i64 0) := (cell_of_row w9 q 2 _ _ _ hq).trans rfl
                have g3 : w9.cell? ⟨q, 3, none⟩ = some (.int .u32 0) := (cell_of_row w9 q 3 _ _ _ hq).trans rfl
                have h0 : w9.frozen? ⟨q, 0, none⟩ = false := by simp [World.frozen?, hq]
                have h1 : w9.frozen? ⟨q, 1, none⟩ = false := by simp [World.frozen?, hq]
                have h2 : w9.frozen? ⟨q, 2, none⟩ = false := by simp [World.frozen?, hq]
                have h3 : w9.frozen? ⟨q, 3, none⟩ = false := by simp [World.frozen?, hq]
                have HQ := Lib.hid (And.intro hw9 (And.intro hle hq))
                clear hw9 hle hq
                simp only [fillE, List.drop_succ_cons, List.drop_zero, List.drop_nil]
                go_wp2_with fail
                obtain ⟨hw9, hle, hq⟩ := HQ.out
                have r1 := put2' (i := 3) (x := .int .u32 1) (put2' (i := 2) (x := .int .i64 z) (put2' (i := 1) (x := .string s') (put2' (i := 0) (x := .string s) hq)))
                have hxq : Ext w4 ((((w9.setCell ⟨q, 0, none⟩ (.string s)).setCell ⟨q, 1, none⟩ (.string s')).setCell ⟨q, 2, none⟩ (.int .i64 z)).setCell ⟨q, 3, none⟩ (.int .u32 1)) := (((Ext.put hw9 hle).put hle).put hle).put hle
                obtain ⟨hk, hR⟩ := HK.out
                have hR2 := hR.ext (X.out.trans hxq)
                have hle2 : ∀ y z, (L.take pos ++ (⟨s, y, z, 1⟩ : Gp) :: L.drop pos).length = L.length + 1 := fun y z => by
                  have := HP.out.1
                  rw [List.length_append, List.length_take, List.length_cons, List.length_drop]; omega
                have er : r = (insG L ⟨s, s', z, 1⟩, 0) := by rw [HE.out]; simp [hfull]
                rw [er]
                rw [← hD]
                show Code.wp Try.prog (Code.seq (nav [1,1,1,0,2,1,4,1,1,1,1,1,1,0] doBody) (nav [1,1,1,0,2,1,4,1,1,1,1,1,1,1] doBody)) _ _ _
                refine wp_seq (wp_mono (ins_piece (ts := [T.mk k i f s l, T.mk 3 i' f' s' l', T.mk k2 i2 f2 s2 l2]) (c := c) (m := m) (bg := q) (pos := pos) (p := ⟨s, s', z, 1⟩) ⟨rfl, rfl, rfl, hk.h1, rfl, rfl, rfl⟩ rfl rfl hR2 r1 HP.out.1 (by rw [hle2]; omega) (by rw [← HP.out.2.1]; exact HP.out.2.2 (by first | rfl | trivial) s' z) (fun y hy => ?_)) ?_)
                · rw [← HP.out.2.1] at hy
                  rcases insG_mem hy with rfl | hy
                  · exact ⟨HM.out.1 trivial, by show (0 : Int) ≤ 1; decide, by show (1 : Int) < 4294967296; decide, HM.out.2.1 trivial, HM.out.2.2 trivial⟩
                  · exact hR.dr.ok y hy
                · intro e a8 w8 hr
                  cases e with
                  | normal =>
                    obtain ⟨hk8, v8, hd8, hc8, hf8, ho8⟩ := hr
                    rw [← HP.out.2.1] at hd8
                    refine zend_create (ts := [T.mk k i f s l, T.mk 3 i' f' s' l', T.mk k2 i2 f2 s2 l2]) hk8 hR hd8 ((Chg.of_ext (X.out.trans hxq)).trans hc8 (fun _ _ h => h.elim) (fun _ _ h => h)) (hf8.low (X.out.trans hxq).size_le') ho8
                  | _ => exact hr.elim
        · have k3' : (k' != 3) = true := by simpa using k3
          obtain ⟨m0, m1, m2, m3, m4, f0, f1', f2', f3, f4⟩ := cells5 (x12.obj HO.out.1)
          have X := Lib.hid x12
          clear x1 x2 x12
          go_wp2_with fail
          obtain ⟨o4, hch⟩ := put5 (v0 := .int .i64 0) (v1 := .int .i64 0) (v2 := .float .f64 0) (v3 := .string ⟨#[]⟩) (v4 := .slice none 0 0) (X.out.obj HO.out.1)
          have key := fun (a : Act) ha hs h6 h7 => RF.fail (a := a) HK.out.2 X.out 31 hch o4 ha hs h6 h7
          have er : r = (L, 31) := by rw [HE.out]; simp [k3]
          rw [er]
          exact key _ rfl rfl rfl rfl
end Go.Proofs.Ytdcbpnkcpglhhaa
