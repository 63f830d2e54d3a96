/- Do of the program. -/
import Derived.Test.YtdcbpnkcpglhhaaGrpL
namespace Go.Proofs.Ytdcbpnkcpglhhaa
open Go.RowKit
set_option linter.unusedVariables false
set_option linter.unusedSimpArgs false
set_option linter.unnecessarySimpa false
attribute [local go_sem] stepR givesR fillE Ext.refl run_store_float

def bCreate : ByteArray := ⟨#[99, 114, 101, 97, 116, 101]⟩
theorem litCreate (m : ByteArray) : (m.toList == [99, 114, 101, 97, 116, 101]) = eqN m bCreate := by rw [eqN, show bCreate.toList = [99, 114, 101, 97, 116, 101] by rw [Lib.toList_data]; rfl]
def bDestroy : ByteArray := ⟨#[100, 101, 115, 116, 114, 111, 121]⟩
theorem litDestroy (m : ByteArray) : (m.toList == [100, 101, 115, 116, 114, 111, 121]) = eqN m bDestroy := by rw [eqN, show bDestroy.toList = [100, 101, 115, 116, 114, 111, 121] by rw [Lib.toList_data]; rfl]
def bStyle : ByteArray := ⟨#[115, 116, 121, 108, 101]⟩
theorem litStyle (m : ByteArray) : (m.toList == [115, 116, 121, 108, 101]) = eqN m bStyle := by rw [eqN, show bStyle.toList = [115, 116, 121, 108, 101] by rw [Lib.toList_data]; rfl]
def bList : ByteArray := ⟨#[108, 105, 115, 116]⟩
theorem litList (m : ByteArray) : (m.toList == [108, 105, 115, 116]) = eqN m bList := by rw [eqN, show bList.toList = [108, 105, 115, 116] by rw [Lib.toList_data]; rfl]
def nilT : T := .mk 0 0 0 ⟨#[]⟩ []
/-- the first value that may not be -/
def chkL : List T → Int
  | [] => 0
  | t :: l => if checkT t = 0 then chkL l else checkT t
theorem chkL_none : ∀ (l : List T), (∀ (j : Nat) t, l[j]? = some t → checkT t = 0) → chkL l = 0
  | [], _ => rfl
  | t :: l, h => by rw [chkL, if_pos (h 0 t rfl)]; exact chkL_none l (fun j u hu => h (j + 1) u (by simpa using hu))
theorem chkL_hit : ∀ (l : List T) (j : Nat) (t : T), l[j]? = some t → (∀ (q : Nat) u, q < j → l[q]? = some u → checkT u = 0) → checkT t ≠ 0 → chkL l = checkT t
  | [], j, t, h, _, _ => by simp at h
  | a :: l, 0, t, h, _, hn => by
    simp at h
    subst h
    rw [chkL, if_neg hn]
  | a :: l, j + 1, t, h, hp, hn => by
    rw [chkL, if_pos (hp 0 a (by omega) rfl)]
    exact chkL_hit l j t (by simpa using h) (fun q u hq hu => hp (q + 1) u (by omega) (by simpa using hu)) hn
def DoG (L : List Gp) (m : ByteArray) (ts : List T) : List Gp × T × Int :=
  if chkL ts = 0 then
    (if eqN m bCreate then ((createG L ts).1, nilT, (createG L ts).2) else if eqN m bDestroy then ((destroyG L ts).1, nilT, (destroyG L ts).2) else if eqN m bStyle then ((restyleG L ts).1, nilT, (restyleG L ts).2)
      else if eqN m bList then (if ts.length = 0 then (L, listT L, 0) else (L, nilT, 31)) else (L, nilT, 31))
  else (L, nilT, chkL ts)
def DoP (T0 : TypeId) (w : World) (base g : Nat) (v : Value) (r : List Gp × T × Int) (e : Ending) (w' : World) : Prop :=
  ∃ v' A c, e = .returned (.tuple #[r.2.1.val A c, .int .i64 r.2.2]) ∧ Dr T0 w' base g v' r.1 ∧ Rd w' (fun k => k < w.heap.size) 3 r.2.1 A c ∧ Chg (fun k => k = g ∨ some k = v.ownBlock) w w' ∧ Fresh w v v'
theorem put5 {T0 : TypeId} {w : World} {b : Nat} {a0 a1 a2 a3 a4 v0 v1 v2 v3 v4 : Value} (h : w.heap[b]? = some (.cells #[a0, a1, a2, a3, a4] T0 (0, 0))) :
    (((((w.setCell ⟨b, 0, none⟩ v0).setCell ⟨b, 1, none⟩ v1).setCell ⟨b, 2, none⟩ v2).setCell ⟨b, 3, none⟩ v3).setCell ⟨b, 4, none⟩ v4).heap[b]? = some (.cells #[v0, v1, v2, v3, v4] T0 (0, 0)) ∧
    Chg (fun k => k = b) w (((((w.setCell ⟨b, 0, none⟩ v0).setCell ⟨b, 1, none⟩ v1).setCell ⟨b, 2, none⟩ v2).setCell ⟨b, 3, none⟩ v3).setCell ⟨b, 4, none⟩ v4) :=
  ⟨put2' (i := 4) (x := v4) (put2' (i := 3) (x := v3) (put2' (i := 2) (x := v2) (put2' (i := 1) (x := v1) (put2' (i := 0) (x := v0) h)))),
   (((((Chg.refl (fun k => k = b) w).setCell ⟨b, 0, none⟩ _ (fun _ => rfl)).setCell ⟨b, 1, none⟩ _ (fun _ => rfl)).setCell ⟨b, 2, none⟩ _ (fun _ => rfl)).setCell ⟨b, 3, none⟩ _ (fun _ => rfl)).setCell ⟨b, 4, none⟩ _ (fun _ => rfl)⟩
theorem cells5 {T0 : TypeId} {w : World} {b : Nat} {a0 a1 a2 a3 a4 : Value} (h : w.heap[b]? = some (.cells #[a0, a1, a2, a3, a4] T0 (0, 0))) :
    w.cell? ⟨b, 0, none⟩ = some a0 ∧ w.cell? ⟨b, 1, none⟩ = some a1 ∧ w.cell? ⟨b, 2, none⟩ = some a2 ∧ w.cell? ⟨b, 3, none⟩ = some a3 ∧ w.cell? ⟨b, 4, none⟩ = some a4 ∧
    w.frozen? ⟨b, 0, none⟩ = false ∧ w.frozen? ⟨b, 1, none⟩ = false ∧ w.frozen? ⟨b, 2, none⟩ = false ∧ w.frozen? ⟨b, 3, none⟩ = false ∧ w.frozen? ⟨b, 4, none⟩ = false :=
  ⟨(cell_of_row w b 0 _ _ _ h).trans rfl, (cell_of_row w b 1 _ _ _ h).trans rfl, (cell_of_row w b 2 _ _ _ h).trans rfl, (cell_of_row w b 3 _ _ _ h).trans rfl, (cell_of_row w b 4 _ _ _ h).trans rfl,
   by simp [World.frozen?, h], by simp [World.frozen?, h], by simp [World.frozen?, h], by simp [World.frozen?, h], by simp [World.frozen?, h]⟩
theorem nil_rd (w : World) (S : Nat → Prop) : Rd w S 3 nilT none 0 := Rd.leaf (by simp only [inI]; decide) (by simp only [inI]; decide) (Nat.zero_le _) 2
/-- a call's end: what it tells is laid into the result's place -/
theorem DoP.fin {T0 : TypeId} {w w1 w2 w3 : World} {base g bx : Nat} {v v' : Value} {L : List Gp} {t : T} {A : Option Addr} {c : Nat} {z : Int} (hb : w.heap.size ≤ bx) (hd : Dr T0 w2 base g v' L) (hgb : g ≠ bx) (hvb : v'.ownBlock ≠ some bx) (hx : Ext w w1) (hc : Chg (fun k => k = g ∨ some k = v.ownBlock) w1 w2) (hf : Fresh w v v')
    (hr : Rd w3 (fun k => k < w.heap.size) 3 t A c) (h3 : Chg (fun k => k = bx) w2 w3) : DoP T0 w base g v (L, t, z) (.returned (.tuple #[t.val A c, .int .i64 z])) w3 := by
  refine ⟨v', A, c, rfl, hd.chg h3 hgb (fun k hk e => hvb (e ▸ hk)), hr, ?_, hf⟩
  have h1 : Chg (fun k => k = g ∨ some k = v.ownBlock) w w2 := (Chg.of_ext hx).trans hc (fun _ _ h => h.elim) (fun _ _ h => h)
  exact h1.trans h3 (fun _ _ h => h) (fun k hk e => by omega)
theorem Fresh.ne {w : World} {v v' : Value} {b : Nat} (h : Fresh w v v') (hb : b < w.heap.size) (hv : v.ownBlock ≠ some b) : v'.ownBlock ≠ some b := by
  rcases h with e | ⟨k, e, hk⟩
  · rw [e]; exact hv
  · rw [e]; intro e2; injection e2 with e2; omega
theorem Fresh.low {w w' : World} {v v' : Value} (h : Fresh w' v v') (hx : w.heap.size ≤ w'.heap.size) : Fresh w v v' := by
  rcases h with e | ⟨k, e, hk⟩
  · exact .inl e
  · exact .inr ⟨k, e, Nat.le_trans hx hk⟩
set_option maxRecDepth 1000000 in
set_option maxHeartbeats 4000000 in
theorem do_any {w : World} {base g : Nat} {v : Value} {L : List Gp} {S : Nat → Prop} {n : Nat} {A : Option Addr} {c : Nat} {ts : List T} {m : ByteArray} (h : Dr 57 w base g v L) (hbase : base ≤ w.heap.size) (hts : Rds w S n A c ts) (hSv : ∀ k, v.ownBlock = some k → S k) :
    Calls Try.prog 7 #[.pointer (some ⟨g, 0, none⟩), .string m, .slice A ts.length c] w (DoP 57 w base g v (DoG L m ts)) := by
  have HX := Lib.hid ((Ext.refl w).alloc (.cells #[.int .i64 0, .int .i64 0, .float .f64 0, .string ⟨#[]⟩, .slice none 0 0] 28))
  have HO := Lib.hid (heap_alloc_new w (.cells #[.int .i64 0, .int .i64 0, .float .f64 0, .string ⟨#[]⟩, .slice none 0 0] 28))
  have HT := Lib.hid hts
  have H := Lib.hid (And.intro h (And.intro hbase hSv))
  have hcm := hts.2.1
  have hlc := hts.1
  have hmm : maxLen ≤ 9223372036854775807 := by decide
  clear hts h hbase hSv
  go_enter Try.func7, Try.ntmps7
  go_wp2_with fail
  have ha := HX.out
  have ho := HO.out
  revert ha ho
  clear HX HO
  generalize World.alloc _ _ = w1
  generalize hbx : w.heap.size = bx
  intro ha ho
  have HA := Lib.hid (And.intro ha (And.intro ho hbx))
  clear ha ho hbx
  go_loopw [13] (fun i wr => ∃ j : Nat, j ≤ ts.length ∧ i = .int .i64 j ∧ Ext w1 wr ∧ Hid (∀ (q : Nat) u, q < j → ts[q]? = some u → checkT u = 0)) (fun i _ => ts.length - (intOf i).toNat)
  case atStart => exact ⟨0, Nat.zero_le _, rfl, Ext.refl _, Lib.hid fun q u hq => by omega⟩
  case round =>
    obtain ⟨j, hj, rfl, hx, I⟩ := hrel
    have hjn : ((j : Int) < 0) = False := by simp
    have hx0 := HA.out.1.trans hx
    by_cases hlt : j < ts.length
    · obtain ⟨b, off, rfl, hb, hat⟩ := HT.out.2.2 (by omega)
      obtain ⟨t, ht⟩ : ∃ t, ts[j]? = some t := ⟨_, List.getElem?_eq_getElem hlt⟩
      obtain ⟨A1, c1, ⟨hta, hr⟩⟩ := hat j t ht
      have hji : (j : Int) < (ts.length : Int) := by omega
      have hw1 : IntKind.i64.wrap ((j : Int) + 1) = (j : Int) + 1 := IntWalk.i64_in _ (by omega)
      have C1 := fun (w' : World) (hx' : Ext w w') => check_any (hr.ext hx')
      have HC : Hid (∀ e, checkT t = e → e ≠ 0 → chkL ts = e) := Lib.hid (fun e he hn => by rw [← he] at hn ⊢; exact chkL_hit ts j t ht I.out hn)
      have HN : Hid (checkT t = 0 → ∀ (q : Nat) u, q < j + 1 → ts[q]? = some u → checkT u = 0) := Lib.hid (fun he q u hq hu => by
        rcases Nat.lt_succ_iff_lt_or_eq.1 hq with hq | rfl
        · exact I.out q u hq hu
        · rw [ht] at hu; cases hu; exact he)
      generalize checkT t = ck at *
      obtain ⟨k, i, f, s, l⟩ := t
      obtain ⟨a0, a1, a2, a3, a4⟩ := hta
      have b0 := hx0.cell a0
      have b1 := hx0.cell a1
      have b2 := hx0.cell a2
      have b3 := hx0.cell a3
      have b4 := hx0.cell a4
      simp only [T.val] at C1
      have hx5 := (Ext.refl wr).alloc (.cells #[.int .i64 k, .int .i64 i, .float .f64 f, .string s, .slice A1 l.length c1] 28)
      have C2 := C1 _ (hx0.trans hx5)
      have HW := Lib.hid (And.intro hx hx5)
      clear ht hat hr a0 a1 a2 a3 a4 C1 hx0 hx hx5 hb hj
      by_cases hck : ck = 0
      · subst hck
        have I2 := Lib.hid (HN.out rfl)
        clear HN HC I
        go_wp2_with fail
        refine C2.mono ?_
        rintro e w3 ⟨rfl, hx6⟩
        have HY := Lib.hid ((HW.out.1.trans HW.out.2).trans hx6)
        clear hx6
        go_wp2_with fail
        go_roundw
        case rel => exact ⟨j + 1, by omega, by go_num, HY.out, I2⟩
        case measure => simp [intOf]; omega
      · have hcq : (ck != 0) = true := by simpa using hck
        have HE : Hid (DoG L m ts = (L, nilT, ck)) := Lib.hid (by
          have e := HC.out ck rfl hck
          rw [DoG, e, if_neg hck])
        clear HN HC I
        go_wp2_with fail
        refine C2.mono ?_
        rintro e w3 ⟨rfl, hx6⟩
        have hx7 := HA.out.1.trans ((HW.out.1.trans HW.out.2).trans hx6)
        have o3 := ((HW.out.1.trans HW.out.2).trans hx6).obj HA.out.2.1
        obtain ⟨c0, c1', c2, c3, c4, f0, f1, f2, f3, f4⟩ := cells5 o3
        have HY := Lib.hid (And.intro hx7 o3)
        clear hx6 hx7 o3
        go_wp2_with fail
        obtain ⟨o4, hch⟩ := put5 (v0 := .int .i64 0) (v1 := .int .i64 0) (v2 := .float .f64 0) (v3 := .string ⟨#[]⟩) (v4 := .slice none 0 0) HY.out.2
        obtain ⟨z0, z1, z2, z3, z4, _⟩ := cells5 o4
        refine bodyPost_ret (v := .tuple #[.agg #[.int .i64 0, .int .i64 0, .float .f64 0, .string ⟨#[]⟩, .slice none 0 0], .int .i64 ck]) (by simp [results, Try.results7, go_sem, z0, z1, z2, z3, z4]; try rfl) rfl ?_
        rw [HE.out]
        exact DoP.fin (t := nilT) (A := none) (c := 0) (Nat.le_of_eq HA.out.2.2) (H.out.1.ext HY.out.1) (by have := H.out.1.lt; have := HA.out.2.2; omega) (fun e => by have := (CRow.lt H.out.1.row _ e).2.1; have := HA.out.2.2; omega) HY.out.1 (Chg.refl _ _) (.inl rfl) (nil_rd _ _) hch
    · obtain rfl : j = ts.length := by omega
      have hnl : decide ((ts.length : Int) < (ts.length : Int)) = false := by simp
      have hck : chkL ts = 0 := chkL_none ts (fun j t ht => I.out j t (List.getElem?_eq_some_iff.1 ht).1 ht)
      have HY := Lib.hid (And.intro hx0 (hx.obj HA.out.2.1))
      have HTr := Lib.hid (HT.out.ext hx0)
      have HD := Lib.hid (H.out.1.ext hx0)
      have HBs := Lib.hid (Nat.le_trans H.out.2.1 hx0.size_le')
      have hg : g ≠ bx := by have := H.out.1.lt; have := HA.out.2.2; omega
      have hvb : v.ownBlock ≠ some bx := fun e => by have := (CRow.lt H.out.1.row _ e).2.1; have := HA.out.2.2; omega
      have hblt : bx < wr.heap.size := (Array.getElem?_eq_some_iff.1 (hx.obj HA.out.2.1)).1
      have HG := Lib.hid (And.intro hg (And.intro hvb hblt))
      have E0 : DoG L m ts = (if eqN m bCreate then ((createG L ts).1, nilT, (createG L ts).2) else if eqN m bDestroy then ((destroyG L ts).1, nilT, (destroyG L ts).2) else if eqN m bStyle then ((restyleG L ts).1, nilT, (restyleG L ts).2)
        else if eqN m bList then (if ts.length = 0 then (L, listT L, 0) else (L, nilT, 31)) else (L, nilT, 31)) := by rw [DoG, if_pos hck]
      have l1 := litCreate m
      have l2 := litDestroy m
      have l3 := litStyle m
      have l4 := litList m
      clear hx0 hx I hck hg hvb hblt
      cases e1 : eqN m bCreate with
      | true =>
        have HE : Hid (DoG L m ts = ((createG L ts).1, nilT, (createG L ts).2)) := Lib.hid (by rw [E0, e1, if_pos rfl])
        rw [e1] at l1
        have T1 := create_any HD.out HBs.out HTr.out H.out.2.2
        clear E0 e1
        generalize createG L ts = r at *
        go_wp2_with fail
        refine T1.mono ?_
        rintro e w3 ⟨v3, rfl, hd3, hc3, hf3⟩
        have o3 := hc3.obj HY.out.2 (fun h => by rcases h with h | h; exact HG.out.1 h.symm; exact HG.out.2.1 h.symm)
        obtain ⟨c0, c1', c2, c3, c4, f0, f1, f2, f3, f4⟩ := cells5 o3
        have HR := Lib.hid (And.intro hd3 (And.intro hc3 (And.intro hf3 o3)))
        clear hd3 hc3 hf3 o3
        go_wp2_with fail
        obtain ⟨o4, hch⟩ := put5 (v0 := .int .i64 0) (v1 := .int .i64 0) (v2 := .float .f64 0) (v3 := .string ⟨#[]⟩) (v4 := .slice none 0 0) HR.out.2.2.2
        obtain ⟨z0, z1, z2, z3, z4, _⟩ := cells5 o4
        refine bodyPost_ret (v := .tuple #[.agg #[.int .i64 0, .int .i64 0, .float .f64 0, .string ⟨#[]⟩, .slice none 0 0], .int .i64 r.2]) (by simp [results, Try.results7, go_sem, z0, z1, z2, z3, z4]; try rfl) rfl ?_
        rw [HE.out]
        exact DoP.fin (t := nilT) (A := none) (c := 0) (Nat.le_of_eq HA.out.2.2) HR.out.1 HG.out.1 (HR.out.2.2.1.ne HG.out.2.2 HG.out.2.1) HY.out.1 HR.out.2.1 (HR.out.2.2.1.low HY.out.1.size_le') (nil_rd _ _) hch
      | false =>
        cases e2 : eqN m bDestroy with
        | true =>
          have HE : Hid (DoG L m ts = ((destroyG L ts).1, nilT, (destroyG L ts).2)) := Lib.hid (by rw [E0, e1, e2, if_neg (by simp), if_pos rfl])
          rw [e1] at l1
          rw [e2] at l2
          have T1 := destroy_any HD.out HTr.out
          clear E0 e1 e2
          generalize destroyG L ts = r at *
          go_wp2_with fail
          refine T1.mono ?_
          rintro e w3 ⟨v3, rfl, hd3, hc3, hf3⟩
          have o3 := hc3.obj HY.out.2 (fun h => by rcases h with h | h; exact HG.out.1 h.symm; exact HG.out.2.1 h.symm)
          obtain ⟨c0, c1', c2, c3, c4, f0, f1, f2, f3, f4⟩ := cells5 o3
          have HR := Lib.hid (And.intro hd3 (And.intro hc3 (And.intro hf3 o3)))
          clear hd3 hc3 hf3 o3
          go_wp2_with fail
          obtain ⟨o4, hch⟩ := put5 (v0 := .int .i64 0) (v1 := .int .i64 0) (v2 := .float .f64 0) (v3 := .string ⟨#[]⟩) (v4 := .slice none 0 0) HR.out.2.2.2
          obtain ⟨z0, z1, z2, z3, z4, _⟩ := cells5 o4
          refine bodyPost_ret (v := .tuple #[.agg #[.int .i64 0, .int .i64 0, .float .f64 0, .string ⟨#[]⟩, .slice none 0 0], .int .i64 r.2]) (by simp [results, Try.results7, go_sem, z0, z1, z2, z3, z4]; try rfl) rfl ?_
          rw [HE.out]
          exact DoP.fin (t := nilT) (A := none) (c := 0) (Nat.le_of_eq HA.out.2.2) HR.out.1 HG.out.1 (HR.out.2.2.1.ne HG.out.2.2 HG.out.2.1) HY.out.1 HR.out.2.1 (HR.out.2.2.1.low HY.out.1.size_le') (nil_rd _ _) hch
        | false =>
          cases e3 : eqN m bStyle with
          | true =>
            have HE : Hid (DoG L m ts = ((restyleG L ts).1, nilT, (restyleG L ts).2)) := Lib.hid (by rw [E0, e1, e2, e3, if_neg (by simp), if_neg (by simp), if_pos rfl])
            rw [e1] at l1
            rw [e2] at l2
            rw [e3] at l3
            have T1 := restyle_any HD.out HTr.out
            clear E0 e1 e2 e3
            generalize restyleG L ts = r at *
            go_wp2_with fail
            refine T1.mono ?_
            rintro e w3 ⟨v3, rfl, hd3, hc3, hf3⟩
            have o3 := hc3.obj HY.out.2 (fun h => by rcases h with h | h; exact HG.out.1 h.symm; exact HG.out.2.1 h.symm)
            obtain ⟨c0, c1', c2, c3, c4, f0, f1, f2, f3, f4⟩ := cells5 o3
            have HR := Lib.hid (And.intro hd3 (And.intro hc3 (And.intro hf3 o3)))
            clear hd3 hc3 hf3 o3
            go_wp2_with fail
            obtain ⟨o4, hch⟩ := put5 (v0 := .int .i64 0) (v1 := .int .i64 0) (v2 := .float .f64 0) (v3 := .string ⟨#[]⟩) (v4 := .slice none 0 0) HR.out.2.2.2
            obtain ⟨z0, z1, z2, z3, z4, _⟩ := cells5 o4
            refine bodyPost_ret (v := .tuple #[.agg #[.int .i64 0, .int .i64 0, .float .f64 0, .string ⟨#[]⟩, .slice none 0 0], .int .i64 r.2]) (by simp [results, Try.results7, go_sem, z0, z1, z2, z3, z4]; try rfl) rfl ?_
            rw [HE.out]
            exact DoP.fin (t := nilT) (A := none) (c := 0) (Nat.le_of_eq HA.out.2.2) HR.out.1 HG.out.1 (HR.out.2.2.1.ne HG.out.2.2 HG.out.2.1) HY.out.1 HR.out.2.1 (HR.out.2.2.1.low HY.out.1.size_le') (nil_rd _ _) hch
          | false =>
            cases e4 : eqN m bList with
            | true =>
              by_cases hl0 : ts.length = 0
              · have HE : Hid (DoG L m ts = (L, listT L, 0)) := Lib.hid (by rw [E0, e1, e2, e3, e4, if_neg (by simp), if_neg (by simp), if_neg (by simp), if_pos rfl, if_pos hl0])
                rw [e1] at l1
                rw [e2] at l2
                rw [e3] at l3
                rw [e4] at l4
                have hl00 : ((ts.length : Int) == 0) = true := by rw [beq_iff_eq]; omega
                have T1 := list_any HD.out
                clear E0 e1 e2 e3 e4
                go_wp2_with fail
                refine T1.mono ?_
                rintro e w3 ⟨A3, c3, rfl, hr3, hx3⟩
                have o3 := hx3.obj HY.out.2
                obtain ⟨c0, c1', c2, c3', c4, f0, f1, f2, f3, f4⟩ := cells5 o3
                have HR := Lib.hid (And.intro hr3 (And.intro hx3 o3))
                clear hr3 hx3 o3
                have hll : (L.map rowT).length = L.length := List.length_map ..
                simp only [listT, T.val, hll]
                go_wp2_with fail
                obtain ⟨o4, hch⟩ := put5 (v0 := .int .i64 4) (v1 := .int .i64 0) (v2 := .float .f64 0) (v3 := .string ⟨#[]⟩) (v4 := .slice A3 L.length c3) HR.out.2.2
                obtain ⟨z0, z1, z2, z3, z4, _⟩ := cells5 o4
                refine bodyPost_ret (v := .tuple #[.agg #[.int .i64 4, .int .i64 0, .float .f64 0, .string ⟨#[]⟩, .slice A3 L.length c3], .int .i64 0]) (by simp [results, Try.results7, go_sem, z0, z1, z2, z3, z4]; try rfl) rfl ?_
                rw [HE.out]
                have e9 : (Value.agg #[.int .i64 4, .int .i64 0, .float .f64 0, .string ⟨#[]⟩, .slice A3 L.length c3]) = (listT L).val A3 c3 := by rw [listT, T.val, hll]
                rw [e9]
                refine DoP.fin (t := listT L) (A := A3) (c := c3) (Nat.le_of_eq HA.out.2.2) (HD.out.ext HR.out.2.1) HG.out.1 HG.out.2.1 (HY.out.1.trans HR.out.2.1) (Chg.refl _ _) (.inl rfl) ?_ hch
                exact Rd.chg hch (fun k _ e => by rw [e]; exact HG.out.2.2) (fun k _ e => Nat.lt_of_lt_of_le e HY.out.1.size_le') _ _ _ _ HR.out.1
              · have HE : Hid (DoG L m ts = (L, nilT, 31)) := Lib.hid (by rw [E0, e1, e2, e3, e4, if_neg (by simp), if_neg (by simp), if_neg (by simp), if_pos rfl, if_neg hl0])
                have hl00 : ((ts.length : Int) == 0) = false := by rw [beq_eq_false_iff_ne]; omega
                rw [e4] at l4
                rw [e1] at l1
                rw [e2] at l2
                rw [e3] at l3
                clear E0 e1 e2 e3 e4
                obtain ⟨c0, c1', c2, c3, c4, f0, f1, f2, f3, f4⟩ := cells5 HY.out.2
                go_wp2_with fail
                obtain ⟨o4, hch⟩ := put5 (v0 := .int .i64 0) (v1 := .int .i64 0) (v2 := .float .f64 0) (v3 := .string ⟨#[]⟩) (v4 := .slice none 0 0) HY.out.2
                obtain ⟨z0, z1, z2, z3, z4, _⟩ := cells5 o4
                refine bodyPost_ret (v := .tuple #[.agg #[.int .i64 0, .int .i64 0, .float .f64 0, .string ⟨#[]⟩, .slice none 0 0], .int .i64 31]) (by simp [results, Try.results7, go_sem, z0, z1, z2, z3, z4]; try rfl) rfl ?_
                rw [HE.out]
                exact DoP.fin (t := nilT) (A := none) (c := 0) (Nat.le_of_eq HA.out.2.2) HD.out HG.out.1 HG.out.2.1 HY.out.1 (Chg.refl _ _) (.inl rfl) (nil_rd _ _) hch
            | false =>
              have HE : Hid (DoG L m ts = (L, nilT, 31)) := Lib.hid (by rw [E0, e1, e2, e3, e4, if_neg (by simp), if_neg (by simp), if_neg (by simp), if_neg (by simp)])
              rw [e4] at l4
              rw [e1] at l1
              rw [e2] at l2
              rw [e3] at l3
              clear E0 e1 e2 e3 e4
              obtain ⟨c0, c1', c2, c3, c4, f0, f1, f2, f3, f4⟩ := cells5 HY.out.2
              go_wp2_with fail
              obtain ⟨o4, hch⟩ := put5 (v0 := .int .i64 0) (v1 := .int .i64 0) (v2 := .float .f64 0) (v3 := .string ⟨#[]⟩) (v4 := .slice none 0 0) HY.out.2
              obtain ⟨z0, z1, z2, z3, z4, _⟩ := cells5 o4
              refine bodyPost_ret (v := .tuple #[.agg #[.int .i64 0, .int .i64 0, .float .f64 0, .string ⟨#[]⟩, .slice none 0 0], .int .i64 31]) (by simp [results, Try.results7, go_sem, z0, z1, z2, z3, z4]; try rfl) rfl ?_
              rw [HE.out]
              exact DoP.fin (t := nilT) (A := none) (c := 0) (Nat.le_of_eq HA.out.2.2) HD.out HG.out.1 HG.out.2.1 HY.out.1 (Chg.refl _ _) (.inl rfl) (nil_rd _ _) hch
end Go.Proofs.Ytdcbpnkcpglhhaa
