/- The document's directory: at, Get. -/
import Derived.Test.YtdcbpnkcpglhhaaGrpC
namespace Go.Proofs.Ytdcbpnkcpglhhaa
open Go.RowKit
set_option linter.unusedVariables false
set_option linter.unusedSimpArgs false
attribute [local go_sem] stepR givesR fillE Ext.refl

set_option maxRecDepth 100000 in
set_option maxHeartbeats 1000000 in
theorem at_any {w : World} {base g : Nat} {v : Value} {L : List Gp} (h : Dr 45 w base g v L) (k : ByteArray) :
    Calls Try.prog 30 #[.pointer (some ⟨g, 0, none⟩), .string k] w (RetX (.tuple #[.int .i64 (posN L k), .bool (hasN L k)]) w) := by
  obtain ⟨c0, f0⟩ := h.cell
  obtain ⟨A, c, rfl, _⟩ := h.row.form
  have H := Lib.hid h.row.rd
  have HL := Lib.hid h.few
  have HP : Hid (∀ i, i ≤ L.length → (∀ t g, t < i → L[t]? = some g → ltN g.name k = true) → (∀ g, L[i]? = some g → ltN g.name k = false) → posN L k = i) := Lib.hid (posN_of L k)
  have HH : Hid (∀ i, posN L k = i → hasN L k = (match L[i]? with | some g => eqN g.name k | none => false)) := Lib.hid (fun i e => by subst e; rfl)
  generalize posN L k = pos at *
  generalize hasN L k = has at *
  clear h
  go_enter Try.func30, Try.ntmps30
  go_wp2_with fail
  go_loopw [6] (fun i wr => ∃ j : Nat, j ≤ L.length ∧ i = .int .i64 j ∧ Ext w wr ∧ Hid (∀ t g, t < j → L[t]? = some g → ltN g.name k = true)) (fun i _ => L.length - (intOf i).toNat)
  case atStart => exact ⟨0, Nat.zero_le _, rfl, Ext.refl _, Lib.hid fun t g ht => by omega⟩
  case round =>
    obtain ⟨j, hj, rfl, hx, I⟩ := hrel
    have c0' := hx.cell c0
    have hjn : ((j : Int) < 0) = False := by simp
    have HLo := HL.out
    by_cases hlt : j < L.length
    · obtain ⟨b, rfl, hat⟩ := H.out (by omega)
      obtain ⟨p, hp⟩ : ∃ p, L[j]? = some p := ⟨_, List.getElem?_eq_getElem hlt⟩
      obtain ⟨a0, a1, a2, a3⟩ := hat _ p hp
      have b0 := hx.cell a0
      have hji : (j : Int) < (L.length : Int) := by omega
      have hw1 : IntKind.i64.wrap ((j : Int) + 1) = (j : Int) + 1 := IntWalk.i64_in _ (by omega)
      have HX := Lib.hid (And.intro hx hp)
      cases hs : ltN p.name k with
      | true =>
        have hs' : Op.bytesLess p.name.toList k.toList = true := hs
        have HS := Lib.hid hs
        clear hs hx hat a0 a1 a2 a3 hp
        go_wp2_with fail
        go_roundw
        case rel =>
          refine ⟨j + 1, by omega, by go_num, HX.out.1, Lib.hid fun t g ht hg => ?_⟩
          rcases Nat.lt_succ_iff_lt_or_eq.1 ht with ht | rfl
          · exact I.out t g ht hg
          · rw [HX.out.2] at hg
            cases hg
            exact HS.out
        case measure => simp [intOf]; omega
      | false =>
        have hs' : Op.bytesLess p.name.toList k.toList = false := hs
        obtain rfl : pos = j := HP.out j hj I.out (fun g hg => by rw [hp] at hg; cases hg; exact hs)
        have hh := HH.out pos rfl
        rw [hp] at hh
        simp only at hh
        have hh' : (p.name.toList == k.toList) = has := hh.symm
        clear hs hx hat a0 a1 a2 a3 hp hh
        go_wp2_with fail
        go_quiet (fail)
        go_wp2_with fail
        go_ret2
        exact ⟨rfl, HX.out.1.drewN nq⟩
    · obtain rfl : j = L.length := by omega
      obtain rfl : pos = L.length := HP.out L.length hj I.out (fun g hg => by rw [List.getElem?_eq_none (Nat.le_refl _)] at hg; cases hg)
      have hh := HH.out _ rfl
      rw [List.getElem?_eq_none (Nat.le_refl _)] at hh
      simp only at hh
      subst hh
      have HX := Lib.hid hx
      have hnn : decide ((L.length : Int) < (L.length : Int)) = false := by simp
      clear hx
      go_wp2_with fail
      go_quiet (fail)
      go_wp2_with fail
      go_ret2
      exact ⟨rfl, HX.out.drewN nq⟩
set_option maxRecDepth 100000 in
set_option maxHeartbeats 1000000 in
theorem rget_any {w : World} {base g : Nat} {v : Value} {L : List Gp} (h : Dr 45 w base g v L) (k : ByteArray) :
    Calls Try.prog 17 #[.pointer (some ⟨g, 0, none⟩), .string k] w (RetX (.tuple #[(getG L k).val, .bool (hasN L k)]) w) := by
  obtain ⟨c0, f0⟩ := h.cell
  have T1 := fun w' (hx : Ext w w') => at_any (h.ext hx) k
  have HX := Lib.hid ((Ext.refl w).alloc (.cells #[.string ⟨#[]⟩, .string ⟨#[]⟩, .int .i64 0, .int .u32 0] 36))
  have HO := Lib.hid (heap_alloc_new w (.cells #[.string ⟨#[]⟩, .string ⟨#[]⟩, .int .i64 0, .int .u32 0] 36))
  cases hh : hasN L k with
  | false =>
    have e : getG L k = gp0 := by unfold getG; rw [hh]; rfl
    rw [e]
    rw [hh] at T1
    clear e hh
    obtain ⟨A, c, rfl, _⟩ := h.row.form
    clear h
    show Calls _ _ _ _ (RetX (.tuple #[.agg #[.string ⟨#[]⟩, .string ⟨#[]⟩, .int .i64 0, .int .u32 0], .bool false]) w)
    generalize posN L k = pos at *
    go_enter Try.func17, Try.ntmps17
    go_wp2_with fail
    have ha := HX.out
    have ho := HO.out
    revert ha ho
    generalize World.alloc _ _ = w0
    generalize hbx : w.heap.size = bx
    intro ha ho
    have HB := Lib.hid (And.intro ha (And.intro ho (Nat.le_of_eq hbx)))
    have T2 := T1 w0 ha
    clear hbx ha ho T1
    refine T2.mono ?_
    rintro e w1 ⟨rfl, hx⟩
    have HY := Lib.hid hx
    have o1 := hx.obj HB.out.2.1
    have d0 : w1.cell? ⟨bx, 0, none⟩ = some (.string ⟨#[]⟩) := (cell_of_row w1 bx 0 _ _ _ o1).trans rfl
    have d1 : w1.cell? ⟨bx, 1, none⟩ = some (.string ⟨#[]⟩) := (cell_of_row w1 bx 1 _ _ _ o1).trans rfl
    have d2 : w1.cell? ⟨bx, 2, none⟩ = some (.int .i64 0) := (cell_of_row w1 bx 2 _ _ _ o1).trans rfl
    have d3 : w1.cell? ⟨bx, 3, none⟩ = some (.int .u32 0) := (cell_of_row w1 bx 3 _ _ _ o1).trans rfl
    have e0 : w1.frozen? ⟨bx, 0, none⟩ = false := by simp [World.frozen?, o1]
    have e1 : w1.frozen? ⟨bx, 1, none⟩ = false := by simp [World.frozen?, o1]
    have e2 : w1.frozen? ⟨bx, 2, none⟩ = false := by simp [World.frozen?, o1]
    have e3 : w1.frozen? ⟨bx, 3, none⟩ = false := by simp [World.frozen?, o1]
    have HO1 := Lib.hid o1
    clear hx o1
    go_wp2_with fail
    have q1 := (put2' (i := 0) (x := .string ⟨#[]⟩) HO1.out)
    have q2 := (put2' (i := 1) (x := .string ⟨#[]⟩) q1)
    have q3 := (put2' (i := 2) (x := .int .i64 0) q2)
    have q4 := (put2' (i := 3) (x := .int .u32 0) q3)
    have z0 := (cell_of_row _ bx 0 _ _ _ q4)
    have z1 := (cell_of_row _ bx 1 _ _ _ q4)
    have z2 := (cell_of_row _ bx 2 _ _ _ q4)
    have z3 := (cell_of_row _ bx 3 _ _ _ q4)
    refine bodyPost_ret (v := .tuple #[.agg #[.string ⟨#[]⟩, .string ⟨#[]⟩, .int .i64 0, .int .u32 0], .bool false]) (by simp [results, Try.results17, go_sem, z0, z1, z2, z3]; try rfl) rfl ⟨rfl, ?_⟩
    exact ((((HB.out.1.trans HY.out).put HB.out.2.2).put HB.out.2.2).put HB.out.2.2).put HB.out.2.2
  | true =>
    obtain ⟨p, hp, hpk⟩ := hasN_at hh
    have e : getG L k = p := by unfold getG; rw [hh, List.getD_eq_getElem?_getD, hp]; rfl
    rw [e]
    rw [hh] at T1
    clear e hh
    obtain ⟨A, c, rfl, _⟩ := h.row.form
    have hlt := (List.getElem?_eq_some_iff.1 hp).1
    obtain ⟨b, rfl, hat⟩ := h.row.rd (by omega)
    obtain ⟨a0, a1, a2, a3⟩ := hat _ p hp
    have HA := Lib.hid (And.intro a0 (And.intro a1 (And.intro a2 (And.intro a3 c0))))
    obtain ⟨nm, cl, st, ve⟩ := p
    clear h hat hp hpk a0 a1 a2 a3
    show Calls _ _ _ _ (RetX (.tuple #[.agg #[.string nm, .string cl, .int .i64 st, .int .u32 ve], .bool true]) w)
    generalize posN L k = pos at *
    go_enter Try.func17, Try.ntmps17
    go_wp2_with fail
    have ha := HX.out
    have ho := HO.out
    revert ha ho
    generalize World.alloc _ _ = w0
    generalize hbx : w.heap.size = bx
    intro ha ho
    have HB := Lib.hid (And.intro ha (And.intro ho (Nat.le_of_eq hbx)))
    have T2 := T1 w0 ha
    clear hbx ha ho T1
    refine T2.mono ?_
    rintro e w1 ⟨rfl, hx⟩
    have HY := Lib.hid hx
    have o1 := hx.obj HB.out.2.1
    have d0 : w1.cell? ⟨bx, 0, none⟩ = some (.string ⟨#[]⟩) := (cell_of_row w1 bx 0 _ _ _ o1).trans rfl
    have d1 : w1.cell? ⟨bx, 1, none⟩ = some (.string ⟨#[]⟩) := (cell_of_row w1 bx 1 _ _ _ o1).trans rfl
    have d2 : w1.cell? ⟨bx, 2, none⟩ = some (.int .i64 0) := (cell_of_row w1 bx 2 _ _ _ o1).trans rfl
    have d3 : w1.cell? ⟨bx, 3, none⟩ = some (.int .u32 0) := (cell_of_row w1 bx 3 _ _ _ o1).trans rfl
    have e0 : w1.frozen? ⟨bx, 0, none⟩ = false := by simp [World.frozen?, o1]
    have e1 : w1.frozen? ⟨bx, 1, none⟩ = false := by simp [World.frozen?, o1]
    have e2 : w1.frozen? ⟨bx, 2, none⟩ = false := by simp [World.frozen?, o1]
    have e3 : w1.frozen? ⟨bx, 3, none⟩ = false := by simp [World.frozen?, o1]
    have hx2 := HB.out.1.trans hx
    obtain ⟨a0, a1, a2, a3, c0'⟩ := HA.out
    have b0 := hx2.cell a0
    have b1 := hx2.cell a1
    have b2 := hx2.cell a2
    have b3 := hx2.cell a3
    have b4 := hx2.cell c0'
    have HO1 := Lib.hid o1
    clear hx o1 hx2 a0 a1 a2 a3 c0'
    go_wp2_with fail
    have q1 := (put2' (i := 0) (x := .string nm) HO1.out)
    have q2 := (put2' (i := 1) (x := .string cl) q1)
    have q3 := (put2' (i := 2) (x := .int .i64 st) q2)
    have q4 := (put2' (i := 3) (x := .int .u32 ve) q3)
    have z0 := (cell_of_row _ bx 0 _ _ _ q4)
    have z1 := (cell_of_row _ bx 1 _ _ _ q4)
    have z2 := (cell_of_row _ bx 2 _ _ _ q4)
    have z3 := (cell_of_row _ bx 3 _ _ _ q4)
    refine bodyPost_ret (v := .tuple #[.agg #[.string nm, .string cl, .int .i64 st, .int .u32 ve], .bool true]) (by simp [results, Try.results17, go_sem, z0, z1, z2, z3]; try rfl) rfl ⟨rfl, ?_⟩
    exact ((((HB.out.1.trans HY.out).put HB.out.2.2).put HB.out.2.2).put HB.out.2.2).put HB.out.2.2
end Go.Proofs.Ytdcbpnkcpglhhaa
