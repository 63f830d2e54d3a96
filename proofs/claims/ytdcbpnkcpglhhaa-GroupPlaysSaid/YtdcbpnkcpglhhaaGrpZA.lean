/- The document's Do. -/
import Derived.Test.YtdcbpnkcpglhhaaGrpX
import Derived.Test.YtdcbpnkcpglhhaaGrpZ
import Derived.Test.YtdcbpnkcpglhhaaGrpQ
namespace Go.Proofs.Ytdcbpnkcpglhhaa
open Go.RowKit
set_option linter.unusedVariables false
set_option linter.unusedSimpArgs false
set_option linter.unnecessarySimpa false
attribute [local go_sem] stepR givesR fillE Ext.refl run_store_float

theorem createG_else {L : List Gp} {ts : List T} (h : ts.length ≠ 3) : createG L ts = (L, 31) := by
  match ts, h with
  | [], _ => rfl
  | [_], _ => rfl
  | [_, _], _ => rfl
  | [_, _, _], h => exact absurd rfl h
  | _ :: _ :: _ :: _ :: _, _ => rfl
theorem destroyG_else {L : List Gp} {ts : List T} (h : ts.length ≠ 1) : destroyG L ts = (L, 31) := by
  match ts, h with
  | [], _ => rfl
  | [_], h => exact absurd rfl h
  | _ :: _ :: _, _ => rfl
theorem restyleG_else {L : List Gp} {ts : List T} (h : ts.length ≠ 2) : restyleG L ts = (L, 31) := by
  match ts, h with
  | [], _ => rfl
  | [_], _ => rfl
  | [_, _], h => exact absurd rfl h
  | _ :: _ :: _ :: _, _ => rfl
set_option maxRecDepth 1000000 in
set_option maxHeartbeats 8000000 in
theorem rest_any {w : World} {base g bx : Nat} {v : Value} {L : List Gp} {S : Nat → Prop} {n : Nat} {A : Option Addr} {c : Nat} {ts : List T} {m : ByteArray} {wr : World} {a : Act} (hd : a.defers = []) (hs : a.tmps.size = 292) (h0 : G a 0 = .pointer (some ⟨g, 0, none⟩)) (h1 : G a 1 = .string m) (h2 : G a 2 = .slice A ts.length c) (h6 : G a 6 = .pointer (some ⟨bx, 0, none⟩))
    (hR : RW w base g bx v L S n A c ts wr) (hck : chkL ts = 0) :
    Code.wp Try.prog (nav [1,1] doBody) (RF w base g bx v (DoG L m ts)) a wr := by
  have HR := Lib.hid hR
  rw [act_292 a hd hs, h0, h1, h2, h6]
  clear hd hs h0 h1 h2 h6 hR
  obtain ⟨D1, hD1⟩ : ∃ D, nav [1,1,1,0,2,1,4] doBody = D := ⟨_, rfl⟩
  obtain ⟨D2, hD2⟩ : ∃ D, nav [1,1,1,0,2,1,5,1,4] doBody = D := ⟨_, rfl⟩
  obtain ⟨D3, hD3⟩ : ∃ D, nav [1,1,1,0,2,1,5,1,5,1,4] doBody = D := ⟨_, rfl⟩
  obtain ⟨D4, hD4⟩ : ∃ D, nav [1,1,1,0,2,1,5,1,5,1,5,1,4] doBody = D := ⟨_, rfl⟩
  have e1 := hD1
  have e2 := hD2
  have e3 := hD3
  have e4 := hD4
  conv at e1 => lhs; whnf
  conv at e2 => lhs; whnf
  conv at e3 => lhs; whnf
  conv at e4 => lhs; whnf
  conv => arg 2; whnf
  rw [e1, e2, e3, e4]
  clear e1 e2 e3 e4
  have l1 := litCreate m
  have l2 := litDestroy m
  have l3 := litStyle m
  have l4 := litList m
  obtain ⟨r, hr⟩ : ∃ r, r = DoG L m ts := ⟨_, rfl⟩
  rw [← hr]
  rw [DoG, if_pos hck] at hr
  clear hck
  by_cases q1 : m = bCreate
  · rw [show eqN m bCreate = true from (eqN_iff _ _).2 q1] at l1 hr
    rw [eqN_no (show m ≠ bDestroy by rw [q1]; decide)] at l2 hr
    rw [eqN_no (show m ≠ bStyle by rw [q1]; decide)] at l3 hr
    rw [eqN_no (show m ≠ bList by rw [q1]; decide)] at l4 hr
    rw [if_pos rfl] at hr
    clear q1
    by_cases q2 : ts.length = 3
    · have q3 : ((ts.length : Int) == 3) = true := by rw [beq_iff_eq]; omega
      have Q2 := Lib.hid q2
      clear q2
      go_wp2_with fail
      rw [hr, ← hD1]
      refine wp_mono (create_piece (a := _) ⟨rfl, rfl, rfl, rfl, rfl, rfl, rfl⟩ HR.out Q2.out) ?_
      intro e a8 w8 hr
      cases e with
      | ret => exact hr
      | _ => exact hr.elim
    · have er : r = (L, nilT, 31) := by rw [hr, createG_else q2]
      have q3 : ((ts.length : Int) == 3) = false := by rw [beq_eq_false_iff_ne]; omega
      clear q2 hr
      obtain ⟨m0, m1, m2, m3, m4, f0, f1', f2', f3, f4⟩ := cells5 HR.out.ob
      go_wp2_with fail
      obtain ⟨o4, hch⟩ := put5 (v0 := .int .i64 0) (v1 := .int .i64 0) (v2 := .float .f64 0) (v3 := .string ⟨#[]⟩) (v4 := .slice none 0 0) HR.out.ob
      have key := fun (a : Act) ha hs h6 h7 => RF.fail (a := a) HR.out (Ext.refl _) 31 hch o4 ha hs h6 h7
      rw [er]
      exact key _ rfl rfl rfl rfl
  · rw [eqN_no q1] at l1 hr
    rw [if_neg (by simp)] at hr
    clear q1
    by_cases q1 : m = bDestroy
    · rw [show eqN m bDestroy = true from (eqN_iff _ _).2 q1] at l2 hr
      rw [eqN_no (show m ≠ bStyle by rw [q1]; decide)] at l3 hr
      rw [eqN_no (show m ≠ bList by rw [q1]; decide)] at l4 hr
      rw [if_pos rfl] at hr
      clear q1
      by_cases q2 : ts.length = 1
      · obtain ⟨t, rfl⟩ : ∃ t, ts = [t] := List.length_eq_one_iff.1 q2
        clear q2
        obtain ⟨_, _, hrow⟩ := HR.out.rd
        obtain ⟨b, off, rfl, hb, hat⟩ := hrow (by simp)
        obtain ⟨A1, c1, ha, _⟩ := hat 0 t rfl
        rw [Nat.zero_mul, Nat.add_zero] at ha
        have N1 := fun w' => named_any (w := w') (t := t) (A := A1) (c := c1)
        obtain ⟨k, i, f, s, l⟩ := t
        obtain ⟨a0, a1, a2, a3, a4⟩ := ha
        simp only [T.val] at N1
        clear hrow hat hb
        cases hn : nameT (.mk k i f s l) with
        | true =>
          rw [hn] at N1
          have HNm := Lib.hid hn
          clear hn
          simp only [List.length_cons, List.length_nil, Nat.zero_add]
          go_wp2_with fail
          refine (N1 _).mono ?_
          rintro e w1 ⟨rfl, x1⟩
          have X := Lib.hid x1
          clear x1
          go_wp2_with fail
          rw [hr, ← hD2]
          refine wp_mono (destroy_piece (c := c) (m := m) (t := T.mk k i f s l) ⟨rfl, rfl, rfl, rfl, rfl, rfl, rfl⟩ (HR.out.ext X.out) HNm.out) ?_
          intro e a8 w8 hr
          cases e with
          | ret => exact hr
          | _ => exact hr.elim
        | false =>
          rw [hn] at N1
          have er : r = (L, nilT, 31) := by rw [hr, destroyG, hn]; simp
          clear hn hr
          simp only [List.length_cons, List.length_nil, Nat.zero_add]
          go_wp2_with fail
          refine (N1 _).mono ?_
          rintro e w1 ⟨rfl, x1⟩
          have X := Lib.hid x1
          obtain ⟨m0, m1, m2, m3, m4, f0, f1', f2', f3, f4⟩ := cells5 (X.out.obj HR.out.ob)
          clear x1
          go_wp2_with fail
          obtain ⟨o4, hch⟩ := put5 (v0 := .int .i64 0) (v1 := .int .i64 0) (v2 := .float .f64 0) (v3 := .string ⟨#[]⟩) (v4 := .slice none 0 0) (X.out.obj HR.out.ob)
          have key := fun (a : Act) ha hs h6 h7 => RF.fail (a := a) HR.out X.out 31 hch o4 ha hs h6 h7
          rw [er]
          exact key _ rfl rfl rfl rfl
      · have er : r = (L, nilT, 31) := by rw [hr, destroyG_else q2]
        have q3 : ((ts.length : Int) == 1) = false := by rw [beq_eq_false_iff_ne]; omega
        clear q2 hr
        obtain ⟨m0, m1, m2, m3, m4, f0, f1', f2', f3, f4⟩ := cells5 HR.out.ob
        go_wp2_with fail
        obtain ⟨o4, hch⟩ := put5 (v0 := .int .i64 0) (v1 := .int .i64 0) (v2 := .float .f64 0) (v3 := .string ⟨#[]⟩) (v4 := .slice none 0 0) HR.out.ob
        have key := fun (a : Act) ha hs h6 h7 => RF.fail (a := a) HR.out (Ext.refl _) 31 hch o4 ha hs h6 h7
        rw [er]
        exact key _ rfl rfl rfl rfl
    · rw [eqN_no q1] at l2 hr
      rw [if_neg (by simp)] at hr
      clear q1
      by_cases q1 : m = bStyle
      · rw [show eqN m bStyle = true from (eqN_iff _ _).2 q1] at l3 hr
        rw [eqN_no (show m ≠ bList by rw [q1]; decide)] at l4 hr
        rw [if_pos rfl] at hr
        clear q1
        by_cases q2 : ts.length = 2
        · obtain ⟨t, u, rfl⟩ : ∃ t u, ts = [t, u] := by
            match ts, q2 with
            | [t, u], _ => exact ⟨t, u, rfl⟩
          clear q2
          obtain ⟨_, _, hrow⟩ := HR.out.rd
          obtain ⟨b, off, rfl, hb, hat⟩ := hrow (by simp)
          obtain ⟨A1, c1, ha, _⟩ := hat 0 t rfl
          rw [Nat.zero_mul, Nat.add_zero] at ha
          have N1 := fun w' => named_any (w := w') (t := t) (A := A1) (c := c1)
          obtain ⟨k, i, f, s, l⟩ := t
          obtain ⟨a0, a1, a2, a3, a4⟩ := ha
          simp only [T.val] at N1
          clear hrow hat hb
          cases hn : nameT (.mk k i f s l) with
          | true =>
            rw [hn] at N1
            have HNm := Lib.hid hn
            clear hn
            simp only [List.length_cons, List.length_nil, Nat.zero_add, Nat.reduceAdd]
            go_wp2_with fail
            refine (N1 _).mono ?_
            rintro e w1 ⟨rfl, x1⟩
            have X := Lib.hid x1
            clear x1
            go_wp2_with fail
            rw [hr, ← hD3]
            refine wp_mono (style_piece (c := c) (m := m) (t := T.mk k i f s l) (u := u) ⟨rfl, rfl, rfl, rfl, rfl, rfl, rfl⟩ (HR.out.ext X.out) HNm.out) ?_
            intro e a8 w8 hr
            cases e with
            | ret => exact hr
            | _ => exact hr.elim
          | false =>
            rw [hn] at N1
            have er : r = (L, nilT, 31) := by rw [hr, restyleG, hn]; simp
            clear hn hr
            simp only [List.length_cons, List.length_nil, Nat.zero_add, Nat.reduceAdd]
            go_wp2_with fail
            refine (N1 _).mono ?_
            rintro e w1 ⟨rfl, x1⟩
            have X := Lib.hid x1
            obtain ⟨m0, m1, m2, m3, m4, f0, f1', f2', f3, f4⟩ := cells5 (X.out.obj HR.out.ob)
            clear x1
            go_wp2_with fail
            obtain ⟨o4, hch⟩ := put5 (v0 := .int .i64 0) (v1 := .int .i64 0) (v2 := .float .f64 0) (v3 := .string ⟨#[]⟩) (v4 := .slice none 0 0) (X.out.obj HR.out.ob)
            have key := fun (a : Act) ha hs h6 h7 => RF.fail (a := a) HR.out X.out 31 hch o4 ha hs h6 h7
            rw [er]
            exact key _ rfl rfl rfl rfl
        · have er : r = (L, nilT, 31) := by rw [hr, restyleG_else q2]
          have q3 : ((ts.length : Int) == 2) = false := by rw [beq_eq_false_iff_ne]; omega
          clear q2 hr
          obtain ⟨m0, m1, m2, m3, m4, f0, f1', f2', f3, f4⟩ := cells5 HR.out.ob
          go_wp2_with fail
          obtain ⟨o4, hch⟩ := put5 (v0 := .int .i64 0) (v1 := .int .i64 0) (v2 := .float .f64 0) (v3 := .string ⟨#[]⟩) (v4 := .slice none 0 0) HR.out.ob
          have key := fun (a : Act) ha hs h6 h7 => RF.fail (a := a) HR.out (Ext.refl _) 31 hch o4 ha hs h6 h7
          rw [er]
          exact key _ rfl rfl rfl rfl
      · rw [eqN_no q1] at l3 hr
        rw [if_neg (by simp)] at hr
        clear q1
        cases q1 : eqN m bList with
        | true =>
          rw [q1] at l4 hr
          rw [if_pos rfl] at hr
          clear q1
          by_cases q2 : ts.length = 0
          · rw [if_pos q2] at hr
            have q3 : ((ts.length : Int) == 0) = true := by rw [beq_iff_eq]; omega
            clear q2
            go_wp2_with fail
            rw [hr, ← hD4]
            refine wp_mono (list_piece (ts := ts) (c := c) (m := m) ⟨rfl, rfl, rfl, rfl, rfl, rfl, rfl⟩ HR.out) ?_
            intro e a8 w8 hr
            cases e with
            | ret => exact hr
            | _ => exact hr.elim
          · rw [if_neg q2] at hr
            have er := hr
            have q3 : ((ts.length : Int) == 0) = false := by rw [beq_eq_false_iff_ne]; omega
            clear q2 hr
            obtain ⟨m0, m1, m2, m3, m4, f0, f1', f2', f3, f4⟩ := cells5 HR.out.ob
            go_wp2_with fail
            obtain ⟨o4, hch⟩ := put5 (v0 := .int .i64 0) (v1 := .int .i64 0) (v2 := .float .f64 0) (v3 := .string ⟨#[]⟩) (v4 := .slice none 0 0) HR.out.ob
            have key := fun (a : Act) ha hs h6 h7 => RF.fail (a := a) HR.out (Ext.refl _) 31 hch o4 ha hs h6 h7
            rw [er]
            exact key _ rfl rfl rfl rfl
        | false =>
          rw [q1] at l4 hr
          rw [if_neg (by simp)] at hr
          have er := hr
          clear q1 hr
          obtain ⟨m0, m1, m2, m3, m4, f0, f1', f2', f3, f4⟩ := cells5 HR.out.ob
          go_wp2_with fail
          obtain ⟨o4, hch⟩ := put5 (v0 := .int .i64 0) (v1 := .int .i64 0) (v2 := .float .f64 0) (v3 := .string ⟨#[]⟩) (v4 := .slice none 0 0) HR.out.ob
          have key := fun (a : Act) ha hs h6 h7 => RF.fail (a := a) HR.out (Ext.refl _) 31 hch o4 ha hs h6 h7
          rw [er]
          exact key _ rfl rfl rfl rfl
end Go.Proofs.Ytdcbpnkcpglhhaa
