/- create of the program. -/
import Derived.Test.YtdcbpnkcpglhhaaGrpH
import Derived.Test.YtdcbpnkcpglhhaaHeld
namespace Go.Proofs.Ytdcbpnkcpglhhaa
open Go.RowKit
set_option linter.unusedVariables false
set_option linter.unusedSimpArgs false
set_option linter.unnecessarySimpa false
attribute [local go_sem] stepR givesR fillE Ext.refl run_store_float

def createG (L : List Gp) : List T → List Gp × Int
  | [a, b, c] => if gnameT a then (if classT b then (if styleT c then (if hasN L a.s then (L, 32) else if 16 ≤ L.length then (L, 33) else (insG L ⟨a.s, b.s, styS c.s, 1⟩, 0)) else (L, 31)) else (L, 31)) else (L, 31)
  | _ => (L, 31)
theorem insG_length (L : List Gp) (g : Gp) : (insG L g).length = L.length + 1 := by
  unfold insG
  have := posN_le L g.name
  rw [List.length_append, List.length_take, List.length_cons, List.length_drop]
  omega
theorem insG_mem {L : List Gp} {g p : Gp} (h : p ∈ insG L g) : p = g ∨ p ∈ L := by
  unfold insG at h
  rcases List.mem_append.1 h with h | h
  · exact .inr (List.mem_of_mem_take h)
  · rcases List.mem_cons.1 h with h | h
    · exact .inl h
    · exact .inr (List.mem_of_mem_drop h)
theorem styS_range {s : ByteArray} (h : 0 ≤ styS s) : styS s = 0 ∨ styS s = 1 ∨ styS s = 2 := by
  have : styS s < stylesL.length := by
    unfold styS idxS
    cases hq : stylesL.findIdx? (fun z => eqN s z) with
    | none => simp; decide
    | some j =>
      obtain ⟨hj, _⟩ := List.findIdx?_eq_some_iff_getElem.1 hq
      simp only
      omega
  have e : stylesL.length = 3 := rfl
  omega
theorem classS_size {s : ByteArray} (h : classS s = true) : s.size ≤ 32 := by
  unfold classS idxS at h
  cases hq : classesL.findIdx? (fun z => eqN s z) with
  | none => rw [hq] at h; simp at h
  | some j =>
    obtain ⟨hj, he, _⟩ := List.findIdx?_eq_some_iff_getElem.1 hq
    rw [eqN_iff] at he
    rw [he]
    have : ∀ x ∈ classesL, x.size ≤ 32 := by decide
    exact this _ (List.getElem_mem hj)
theorem nameT_size {t : T} (h : nameT t = true) : t.s.size ≤ 32 := by
  obtain ⟨k, i, f, s, l⟩ := t
  rw [nameT] at h
  simp only [Bool.and_eq_true, decide_eq_true_eq] at h
  exact h.2.2
set_option maxRecDepth 100000 in
set_option maxHeartbeats 4000000 in
theorem create_any {w : World} {base g : Nat} {v : Value} {L : List Gp} {S : Nat → Prop} {n : Nat} {A : Option Addr} {c : Nat} {ts : List T} (h : Dr 57 w base g v L) (hbase : base ≤ w.heap.size) (hts : Rds w S n A c ts) (hSv : ∀ k, v.ownBlock = some k → S k) :
    Calls Try.prog 19 #[.pointer (some ⟨g, 0, none⟩), .slice A ts.length c] w (DoPost 57 w base g v (createG L ts)) := by
  obtain ⟨_, _, hrow⟩ := hts
  by_cases hlen : ts.length = 3
  · obtain ⟨t, u, x, rfl⟩ : ∃ t u x, ts = [t, u, x] := by
      match ts, hlen with
      | [t, u, x], _ => exact ⟨t, u, x, rfl⟩
    clear hlen
    obtain ⟨b, off, rfl, hb, hat⟩ := hrow (by simp)
    obtain ⟨A1, c1, ha, _⟩ := hat 0 t rfl
    obtain ⟨A2, c2, hu, _⟩ := hat 1 u rfl
    obtain ⟨A3, c3, hy, _⟩ := hat 2 x rfl
    rw [Nat.zero_mul, Nat.add_zero] at ha
    rw [Nat.one_mul] at hu
    have N1 := fun w' => gname_any (w := w') (t := t) (A := A1) (c := c1)
    have C1 := fun w' => class_any (w := w') (t := u) (A := A2) (c := c2)
    have hns : gnameT t = true → t.s.size ≤ 32 := fun e => by
      obtain ⟨k, i, f, s, l⟩ := t
      rw [gnameT, Bool.and_eq_true] at e
      exact nameT_size e.1
    have hcs : classT u = true → u.s.size ≤ 32 := fun e => by
      obtain ⟨k, i, f, s, l⟩ := u
      rw [classT, Bool.and_eq_true] at e
      exact classS_size e.2
    obtain ⟨k, i, f, s, l⟩ := t
    obtain ⟨k', i', f', s', l'⟩ := u
    obtain ⟨k2, i2, f2, s2, l2⟩ := x
    obtain ⟨a0, a1, a2, a3, a4⟩ := ha
    obtain ⟨u0, u1, u2, u3, u4⟩ := hu
    obtain ⟨y0, y1, y2, y3, y4⟩ := hy
    have S1 := fun w' => style_any (w := w') (k := k2) (i := i2) (f := f2) (s := s2) (n := l2.length) (A := A3) (c := c3)
    simp only [T.val] at N1 C1
    rw [createG, T.s_mk, T.s_mk, T.s_mk]
    rw [T.s_mk] at hns hcs
    have es : styleT (.mk k2 i2 f2 s2 l2) = (decide (0 ≤ styS s2) && decide (k2 = 3)) := by rw [styleT]
    rw [← es] at S1
    have F1 := fun w' (hx : Ext w w') => find_any (h.ext hx) s
    have hob := h.obj
    obtain ⟨A4, c4, rfl, hlc, hcm, hA4⟩ := h.row.form
    have hg16 := h.few
    have H := Lib.hid (And.intro h hbase)
    have HS : Hid (styleT (.mk k2 i2 f2 s2 l2) = true → styS s2 = 0 ∨ styS s2 = 1 ∨ styS s2 = 2) := Lib.hid (fun e => by rw [es] at e; simp only [Bool.and_eq_true, decide_eq_true_eq] at e; exact styS_range e.1)
    have HM := Lib.hid (And.intro hns hcs)
    have HB : Hid ((Value.slice A4 L.length c4).ownBlock ≠ some b) := Lib.hid (fun e => hb (hSv b e))
    clear hrow hat hb es hns hcs hob hSv
    have HF : Hid (posN L s ≤ L.length) := Lib.hid (posN_le L s)
    have HI : Hid (∀ y z, insG L ⟨s, y, z, 1⟩ = L.take (posN L s) ++ ⟨s, y, z, 1⟩ :: L.drop (posN L s)) := Lib.hid (fun y z => rfl)
    have HH : Hid (∀ y z, hasN L s = false → Srt (insG L ⟨s, y, z, 1⟩)) := Lib.hid (fun y z e => h.srt.ins _ e)
    clear h hbase
    generalize posN L s = pos at *
    generalize hasN L s = has at *
    generalize gnameT (.mk k i f s l) = gn at *
    generalize classT (.mk k' i' f' s' l') = cl at *
    generalize hst : styleT (.mk k2 i2 f2 s2 l2) = st at *
    clear hst
    generalize hz : styS s2 = z at *
    generalize hzv : Value.slice A4 L.length c4 = v4 at *
    clear hz
    cases gn with
    | false =>
      rw [if_neg (by simp)]
      clear C1 S1 F1
      go_enter Try.func19, Try.ntmps19
      go_wp2_with fail
      refine (N1 _).mono ?_
      rintro e w1 ⟨rfl, hx⟩
      have HX := Lib.hid hx
      clear hx
      go_wp2_with fail
      go_ret
      exact H.out.1.same HX.out _
    | true =>
      rw [if_pos rfl]
      cases cl with
      | false =>
        rw [if_neg (by simp)]
        clear S1 F1
        go_enter Try.func19, Try.ntmps19
        go_wp2_with fail
        refine (N1 _).mono ?_
        rintro e w1 ⟨rfl, hx⟩
        have d0 := hx.cell u0
        have d1 := hx.cell u1
        have d2 := hx.cell u2
        have d3 := hx.cell u3
        have d4 := hx.cell u4
        have C2 := C1 w1
        have HX := Lib.hid hx
        clear hx C1
        go_wp2_with fail
        refine C2.mono ?_
        rintro e w2 ⟨rfl, hx2⟩
        have HX2 := Lib.hid hx2
        clear hx2
        go_wp2_with fail
        go_ret
        exact H.out.1.same (HX.out.trans HX2.out) _
      | true =>
        rw [if_pos rfl]
        cases st with
        | false =>
          rw [if_neg (by simp)]
          clear F1
          go_enter Try.func19, Try.ntmps19
          go_wp2_with fail
          refine (N1 _).mono ?_
          rintro e w1 ⟨rfl, hx⟩
          have d0 := hx.cell u0
          have d1 := hx.cell u1
          have d2 := hx.cell u2
          have d3 := hx.cell u3
          have d4 := hx.cell u4
          have C2 := C1 w1
          have HX := Lib.hid hx
          clear hx C1
          go_wp2_with fail
          refine C2.mono ?_
          rintro e w2 ⟨rfl, hx2⟩
          have hx3 := HX.out.trans hx2
          have z0 := hx3.cell y0
          have z1 := hx3.cell y1
          have z2 := hx3.cell y2
          have z3 := hx3.cell y3
          have z4 := hx3.cell y4
          have S2 := S1 w2
          have HX3 := Lib.hid hx3
          clear hx2 hx3 S1
          go_wp2_with fail
          refine S2.mono ?_
          rintro e w3 ⟨rfl, hx4⟩
          have HX4 := Lib.hid hx4
          clear hx4
          go_wp2_with fail
          go_ret
          exact H.out.1.same (HX3.out.trans HX4.out) _
        | true =>
          rw [if_pos rfl]
          cases has with
          | true =>
            rw [if_pos rfl]
            go_enter Try.func19, Try.ntmps19
            go_wp2_with fail
            refine (N1 _).mono ?_
            rintro e w1 ⟨rfl, hx⟩
            have d0 := hx.cell u0
            have d1 := hx.cell u1
            have d2 := hx.cell u2
            have d3 := hx.cell u3
            have d4 := hx.cell u4
            have C2 := C1 w1
            have HX := Lib.hid hx
            clear hx C1
            go_wp2_with fail
            refine C2.mono ?_
            rintro e w2 ⟨rfl, hx2⟩
            have hx3 := HX.out.trans hx2
            have z0 := hx3.cell y0
            have z1 := hx3.cell y1
            have z2 := hx3.cell y2
            have z3 := hx3.cell y3
            have z4 := hx3.cell y4
            have S2 := S1 w2
            have HX3 := Lib.hid hx3
            clear hx2 hx3 S1
            go_wp2_with fail
            refine S2.mono ?_
            rintro e w3 ⟨rfl, hx4⟩
            have HX4 := Lib.hid hx4
            clear hx4
            have hx5 := HX3.out.trans HX4.out
            have b3 := hx5.cell a3
            have F2 := F1 w3 hx5
            have HX5 := Lib.hid hx5
            clear hx5 F1
            go_wp2_with fail
            refine F2.mono ?_
            rintro e w4 ⟨rfl, hx6⟩
            have HX6 := Lib.hid hx6
            clear hx6
            go_wp2_with fail
            go_ret
            exact H.out.1.same (HX5.out.trans HX6.out) _
          | false =>
            rw [if_neg (by simp)]
            by_cases hfull : 16 ≤ L.length
            · rw [if_pos hfull]
              have hfi : (16 : Int) ≤ (L.length : Int) := by omega
              go_enter Try.func19, Try.ntmps19
              go_wp2_with fail
              refine (N1 _).mono ?_
              rintro e w1 ⟨rfl, hx⟩
              have d0 := hx.cell u0
              have d1 := hx.cell u1
              have d2 := hx.cell u2
              have d3 := hx.cell u3
              have d4 := hx.cell u4
              have C2 := C1 w1
              have HX := Lib.hid hx
              clear hx C1
              go_wp2_with fail
              refine C2.mono ?_
              rintro e w2 ⟨rfl, hx2⟩
              have hx3 := HX.out.trans hx2
              have z0 := hx3.cell y0
              have z1 := hx3.cell y1
              have z2 := hx3.cell y2
              have z3 := hx3.cell y3
              have z4 := hx3.cell y4
              have S2 := S1 w2
              have HX3 := Lib.hid hx3
              clear hx2 hx3 S1
              go_wp2_with fail
              refine S2.mono ?_
              rintro e w3 ⟨rfl, hx4⟩
              have HX4 := Lib.hid hx4
              clear hx4
              have hx5 := HX3.out.trans HX4.out
              have b3 := hx5.cell a3
              have F2 := F1 w3 hx5
              have HX5 := Lib.hid hx5
              clear hx5 F1
              go_wp2_with fail
              refine F2.mono ?_
              rintro e w4 ⟨rfl, hx6⟩
              have HX6 := Lib.hid hx6
              clear hx6
              have hx7 := HX5.out.trans HX6.out
              obtain ⟨c0, f0⟩ := (H.out.1.ext hx7).cell
              have HX7 := Lib.hid hx7
              clear hx7
              subst hzv
              go_wp2_with fail
              go_ret
              exact H.out.1.same HX7.out _
            · rw [if_neg hfull]
              have hfi : decide ((16 : Int) ≤ (L.length : Int)) = false := decide_eq_false (by omega)
              go_enter Try.func19, Try.ntmps19
              go_wp2_with fail
              refine (N1 _).mono ?_
              rintro e w1 ⟨rfl, hx⟩
              have d0 := hx.cell u0
              have d1 := hx.cell u1
              have d2 := hx.cell u2
              have d3 := hx.cell u3
              have d4 := hx.cell u4
              have C2 := C1 w1
              have HX := Lib.hid hx
              clear hx C1
              go_wp2_with fail
              refine C2.mono ?_
              rintro e w2 ⟨rfl, hx2⟩
              have hx3 := HX.out.trans hx2
              have z0 := hx3.cell y0
              have z1 := hx3.cell y1
              have z2 := hx3.cell y2
              have z3 := hx3.cell y3
              have z4 := hx3.cell y4
              have S2 := S1 w2
              have HX3 := Lib.hid hx3
              clear hx2 hx3 S1
              go_wp2_with fail
              refine S2.mono ?_
              rintro e w3 ⟨rfl, hx4⟩
              have HX4 := Lib.hid hx4
              clear hx4
              have hx5 := HX3.out.trans HX4.out
              have b3 := hx5.cell a3
              have F2 := F1 w3 hx5
              have HX5 := Lib.hid hx5
              clear hx5 F1
              go_wp2_with fail
              refine F2.mono ?_
              rintro e w4 ⟨rfl, hx6⟩
              have HX6 := Lib.hid hx6
              clear hx6
              have hx7 := HX5.out.trans HX6.out
              obtain ⟨c0, f0⟩ := (H.out.1.ext hx7).cell
              have j3 := hx7.cell a3
              have m3 := hx7.cell u3
              have HX7 := Lib.hid hx7
              clear hx7
              subst hzv
              have hmm : maxLen ≤ 9223372036854775807 := by decide
              go_wp2_with fail
              clear hmm
              have hx1 : Ext w4 ((w4.alloc (.cells #[.string s, .string s', .int .i64 z, .int .u32 1] 36)).drew) := ((Ext.refl w4).alloc _).drew
              have hv1 : ((w4.alloc (.cells #[.string s, .string s', .int .i64 z, .int .u32 1] 36)).drew).heap[w4.heap.size]? = some (.cells #[.string s, .string s', .int .i64 z, .int .u32 1] 36 (0, 0)) := heap_alloc_new w4 _
              obtain ⟨w5, hw5⟩ : ∃ w5, w5 = (w4.alloc (.cells #[.string s, .string s', .int .i64 z, .int .u32 1] 36)).drew := ⟨_, rfl⟩
              rw [← hw5] at hx1 hv1
              have h5 := (H.out.1.ext HX7.out).ext hx1
              have hne5 : (Value.slice A4 L.length c4).ownBlock ≠ some w4.heap.size := fun e => by
                have := (CRow.lt (H.out.1.ext HX7.out).row _ e).2.1
                omega
              have T1 := Lib.hid (ginsert_any (vc := 1) h5.row rfl (Nat.le_trans H.out.2 (Nat.le_trans HX7.out.size_le' hx1.size_le')) h5.few ⟨s, s', z, 1⟩ hv1 hne5 pos HF.out)
              have HX9 := Lib.hid (And.intro hx1 (h5.ne (by decide)))
              have HV := Lib.hid h5.obj
              clear h5 hne5 hx1 hv1
              refine Upto.start (t := 20) (S := fun w9 => w9.cell? ⟨g, 0, none⟩ = some (.slice A4 L.length c4) ∧ w9.cell? ⟨b, off + 3, none⟩ = some (.string s) ∧ w9.cell? ⟨b, off + 5 + 3, none⟩ = some (.string s')) (by kernel_rfl) ?_
              have hS : (fun w9 : World => w9.cell? ⟨g, 0, none⟩ = some (.slice A4 L.length c4) ∧ w9.cell? ⟨b, off + 3, none⟩ = some (.string s) ∧ w9.cell? ⟨b, off + 5 + 3, none⟩ = some (.string s')) w4.drew := ⟨c0, j3, m3⟩
              refine Upto.takeD (i := 0) (some 53) (v := ?v0) rfl rfl (by kernel_rfl) (fun _ _ _ h => h) (Or.inl ⟨by rfl, ?y0⟩) hS ?r0
              case y0 =>
                rintro w9 ⟨s0, s1, s2⟩
                go_simp
                try with_reducible rfl
              try simp only [Act.put, List.setIfInBounds_toArray, List.set_cons_zero, List.set_cons_succ]
              refine Upto.takeD (i := 1) (some 54) (v := ?v1) rfl rfl (by kernel_rfl) (fun _ _ _ h => h) (Or.inl ⟨by rfl, ?y1⟩) hS ?r1
              case y1 =>
                rintro w9 ⟨s0, s1, s2⟩
                go_simp
                try with_reducible rfl
              try simp only [Act.put, List.setIfInBounds_toArray, List.set_cons_zero, List.set_cons_succ]
              refine Upto.takeD (i := 2) (some 55) (v := ?v2) rfl rfl (by kernel_rfl) (fun _ _ _ h => h) (Or.inl ⟨by rfl, ?y2⟩) hS ?r2
              case y2 =>
                rintro w9 ⟨s0, s1, s2⟩
                go_simp
                try with_reducible rfl
              try simp only [Act.put, List.setIfInBounds_toArray, List.set_cons_zero, List.set_cons_succ]
              refine Upto.takeD (i := 3) (some 56) (v := ?v3) rfl rfl (by kernel_rfl) (fun _ _ _ h => h) (Or.inl ⟨by rfl, ?y3⟩) hS ?r3
              case y3 =>
                rintro w9 ⟨s0, s1, s2⟩
                go_simp
                try with_reducible rfl
              try simp only [Act.put, List.setIfInBounds_toArray, List.set_cons_zero, List.set_cons_succ]
              refine Upto.takeD (i := 4) (some 57) (v := ?v4) rfl rfl (by kernel_rfl) (fun _ _ _ h => h) (Or.inl ⟨by rfl, ?y4⟩) hS ?r4
              case y4 =>
                rintro w9 ⟨s0, s1, s2⟩
                go_simp
                try with_reducible rfl
              try simp only [Act.put, List.setIfInBounds_toArray, List.set_cons_zero, List.set_cons_succ]
              refine Upto.takeD (i := 5) (some 58) (v := ?v5) rfl rfl (by kernel_rfl) (fun _ _ _ h => h) (Or.inl ⟨by rfl, ?y5⟩) hS ?r5
              case y5 =>
                rintro w9 ⟨s0, s1, s2⟩
                go_simp
                try with_reducible rfl
              try simp only [Act.put, List.setIfInBounds_toArray, List.set_cons_zero, List.set_cons_succ]
              refine Upto.takeD (i := 6) (some 59) (v := ?v6) rfl rfl (by kernel_rfl) (fun _ _ _ h => h) (Or.inl ⟨by rfl, ?y6⟩) hS ?r6
              case y6 =>
                rintro w9 ⟨s0, s1, s2⟩
                go_simp
                try with_reducible rfl
              try simp only [Act.put, List.setIfInBounds_toArray, List.set_cons_zero, List.set_cons_succ]
              refine Upto.takeD (i := 7) (some 60) (v := ?v7) rfl rfl (by kernel_rfl) (fun _ _ _ h => h) (Or.inl ⟨by rfl, ?y7⟩) hS ?r7
              case y7 =>
                rintro w9 ⟨s0, s1, s2⟩
                go_simp
                try with_reducible rfl
              try simp only [Act.put, List.setIfInBounds_toArray, List.set_cons_zero, List.set_cons_succ]
              refine Upto.takeD (i := 8) (some 61) (v := ?v8) rfl rfl (by kernel_rfl) (fun _ _ _ h => h) (Or.inl ⟨by rfl, ?y8⟩) hS ?r8
              case y8 =>
                rintro w9 ⟨s0, s1, s2⟩
                go_simp
                try with_reducible rfl
              try simp only [Act.put, List.setIfInBounds_toArray, List.set_cons_zero, List.set_cons_succ]
              refine Upto.takeD (i := 9) (some 62) (v := ?v9) rfl rfl (by kernel_rfl) (fun _ _ _ h => h) (Or.inl ⟨by rfl, ?y9⟩) hS ?r9
              case y9 =>
                rintro w9 ⟨s0, s1, s2⟩
                go_simp
                try with_reducible rfl
              try simp only [Act.put, List.setIfInBounds_toArray, List.set_cons_zero, List.set_cons_succ]
              refine Upto.takeD (i := 10) (some 63) (v := ?v10) rfl rfl (by kernel_rfl) (fun _ _ _ h => h) (Or.inl ⟨by rfl, ?y10⟩) hS ?r10
              case y10 =>
                rintro w9 ⟨s0, s1, s2⟩
                go_simp
                try with_reducible rfl
              try simp only [Act.put, List.setIfInBounds_toArray, List.set_cons_zero, List.set_cons_succ]
              refine Upto.takeD (i := 11) (some 64) (v := ?v11) rfl rfl (by kernel_rfl) (fun _ _ _ h => h) (Or.inl ⟨by rfl, ?y11⟩) hS ?r11
              case y11 =>
                rintro w9 ⟨s0, s1, s2⟩
                go_simp
                try with_reducible rfl
              try simp only [Act.put, List.setIfInBounds_toArray, List.set_cons_zero, List.set_cons_succ]
              refine Upto.takeD (i := 12) (some 65) (v := ?v12) rfl rfl (by kernel_rfl) (fun _ _ _ h => h) (Or.inl ⟨by rfl, ?y12⟩) hS ?r12
              case y12 =>
                rintro w9 ⟨s0, s1, s2⟩
                go_simp
                try with_reducible rfl
              try simp only [Act.put, List.setIfInBounds_toArray, List.set_cons_zero, List.set_cons_succ]
              refine Upto.takeD (i := 13) (some 66) (v := ?v13) rfl rfl (by kernel_rfl) (fun _ _ _ h => h) (Or.inl ⟨by rfl, ?y13⟩) hS ?r13
              case y13 =>
                rintro w9 ⟨s0, s1, s2⟩
                go_simp
                try with_reducible rfl
              try simp only [Act.put, List.setIfInBounds_toArray, List.set_cons_zero, List.set_cons_succ]
              refine Upto.takeD (i := 14) (some 67) (v := ?v14) rfl rfl (by kernel_rfl) (fun _ _ _ h => h) (Or.inl ⟨by rfl, ?y14⟩) hS ?r14
              case y14 =>
                rintro w9 ⟨s0, s1, s2⟩
                go_simp
                try with_reducible rfl
              try simp only [Act.put, List.setIfInBounds_toArray, List.set_cons_zero, List.set_cons_succ]
              refine Upto.takeD (i := 15) (some 68) (v := ?v15) rfl rfl (by kernel_rfl) (fun _ _ _ h => h) (Or.inl ⟨by rfl, ?y15⟩) hS ?r15
              case y15 =>
                rintro w9 ⟨s0, s1, s2⟩
                go_simp
                try with_reducible rfl
              try simp only [Act.put, List.setIfInBounds_toArray, List.set_cons_zero, List.set_cons_succ]
              refine Upto.one (i := 16) (by kernel_rfl) rfl (fun K hK => ?_)
              go_simp
              rw [← hw5]
              have hx1 := HX9.out.1
              refine hK.out _ _ (fun _ => ⟨hx1.cell c0, hx1.cell j3, hx1.cell m3⟩) ?_
              have e0 := hx1.cell c0
              have e1 := hx1.cell j3
              have e2 := hx1.cell m3
              clear hK K hS hw5 hx1
              try simp only [Act.put, List.setIfInBounds_toArray, List.set_cons_zero, List.set_cons_succ]
              refine Upto.one (i := 17) (by kernel_rfl) rfl (fun K hK => ?_)
              go_simp
              refine T1.out.mono ?_
              rintro e w6 ⟨v6, rfl, q1, q2, q3⟩
              have hS : (fun w9 : World => w9.cell? ⟨g, 0, none⟩ = some (.slice A4 L.length c4) ∧ w9.cell? ⟨b, off + 3, none⟩ = some (.string s) ∧ w9.cell? ⟨b, off + 5 + 3, none⟩ = some (.string s')) w6 := ⟨q2.cell e0 (fun e => HX9.out.2 e.symm), q2.cell e1 (fun e => HB.out e.symm), q2.cell e2 (fun e => HB.out e.symm)⟩
              have k0 := hS.1
              have ho6 := q2.obj HV.out (fun e => HX9.out.2 e.symm)
              have k1 : w6.frozen? ⟨g, 0, none⟩ = false := by simp [World.frozen?, ho6]
              obtain ⟨A6, c6, rfl, _⟩ := q1.form
              have HQ := Lib.hid (And.intro q1 (And.intro q2 (And.intro q3 ho6)))
              clear q1 q2 q3 ho6
              refine hK.out _ _ (fun _ => hS) ?_
              clear hK K
              try simp only [Act.put, List.setIfInBounds_toArray, List.set_cons_zero, List.set_cons_succ]
              refine Upto.one (i := 18) (by kernel_rfl) rfl (fun K hK => ?_)
              go_simp
              refine hK.out _ _ (fun _ => hS) ?_
              clear hK K
              try simp only [Act.put, List.setIfInBounds_toArray, List.set_cons_zero, List.set_cons_succ]
              refine Upto.takeD (i := 19) (some 72) (v := ?v19) rfl rfl (by kernel_rfl) (fun _ _ _ h => h) (Or.inl ⟨by rfl, ?y19⟩) hS ?r19
              case y19 =>
                rintro w9 ⟨s0, s1, s2⟩
                go_simp
                try with_reducible rfl
              try simp only [Act.put, List.setIfInBounds_toArray, List.set_cons_zero, List.set_cons_succ]
              refine Upto.one (i := 20) (by kernel_rfl) rfl (fun K hK => ?_)
              go_simp
              refine hK.out _ _ (fun h0 => absurd rfl h0) ?_
              clear hK K
              refine Upto.done (by kernel_rfl) ?_ _
              go_wp2_with fail
              go_ret
              obtain ⟨q1, q2, q3, ho6⟩ := HQ.out
              obtain ⟨h, hbase⟩ := H.out
              have el : (L.take pos ++ (⟨s, s', z, 1⟩ : Gp) :: L.drop pos).length = min pos L.length + (L.length - pos + 1) := by simp
              rw [← el]
              have hso := HH.out s' z trivial
              have hil := insG_length L ⟨s, s', z, 1⟩
              have him : ∀ p ∈ insG L ⟨s, s', z, 1⟩, p.ok := fun p hp => by
                rcases insG_mem hp with rfl | hp
                · exact ⟨HS.out trivial, by show (0 : Int) ≤ 1; decide, by show (1 : Int) < 4294967296; decide, HM.out.1 trivial, HM.out.2 trivial⟩
                · exact h.ok p hp
              rw [HI.out] at hso hil him
              rw [HI.out]
              refine ⟨_, rfl, Dr.put ho6 h.low q1 (by decide) (by rw [hil]; omega) hso him, ?_, ?_⟩
              · have hx := HX7.out.trans HX9.out.1
                have r1 : Chg (fun k => k = g ∨ some k = (Value.slice A4 L.length c4).ownBlock) w w6 := (Chg.of_ext hx).trans q2 (fun _ _ h => h.elim) (fun k _ e => .inr e)
                exact r1.setCell ⟨g, 0, none⟩ _ (fun _ => .inl rfl)
              · rcases q3 with q3 | ⟨k, e, hk⟩
                · exact .inl q3
                · exact .inr ⟨k, e, Nat.le_trans (HX7.out.trans HX9.out.1).size_le' hk⟩
  · have e : createG L ts = (L, 31) := by
      match ts, hlen with
      | [], _ => rfl
      | [_], _ => rfl
      | [_, _], _ => rfl
      | [_, _, _], h => exact absurd rfl h
      | _ :: _ :: _ :: _ :: _, _ => rfl
    rw [e]
    have H := Lib.hid h
    have hne : ((ts.length : Int) != 3) = true := by simp; omega
    clear h hrow e hlen
    go_enter Try.func19, Try.ntmps19
    go_wp2_with fail
    go_ret
    exact H.out.same (Ext.refl _) _
end Go.Proofs.Ytdcbpnkcpglhhaa
