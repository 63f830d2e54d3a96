/- The net: packets held against one another; the document's net. -/
import Derived.Test.YtbeoickdcbnjgaaNetG
namespace Go.Proofs.Ytbeoickdcbnjgaa
open Go.RowKit
set_option linter.unusedVariables false
set_option linter.unusedSimpArgs false
attribute [local go_sem] stepR givesR fillE Ext.refl

set_option maxRecDepth 100000 in
set_option maxHeartbeats 1000000 in
theorem packet_same {w : World} {S S' : Nat → Prop} {p q : Pk} (hp : PkOk w S p) (hq : PkOk w S' q) (h : p.says = q.says) : Calls Try.prog 8 #[p.val, q.val] w (RetX (.bool true) w) := by
  obtain ⟨f, t, B, n, c, xs⟩ := p
  obtain ⟨f', t', B', n', c', xs'⟩ := q
  simp only [Pk.says, Prod.mk.injEq] at h
  obtain ⟨rfl, rfl, rfl⟩ := h
  show Calls _ _ #[.agg #[.int .i64 f, .int .i64 t, .slice B n c], .agg #[.int .i64 f, .int .i64 t, .slice B' n' c']] _ _
  have hx : Ext w ((w.alloc (.cells #[.int .i64 f, .int .i64 t, .slice B n c] 33)).alloc (.cells #[.int .i64 f, .int .i64 t, .slice B' n' c'] 33)) := ((Ext.refl w).alloc _).alloc _
  have k1 := (hp.1.ext hx).string (P := Try.prog) (c := c) 31 5 Try.underlying31 Try.underlying5 9 Try.underlying9
  have k2 := (hq.1.ext hx).string (P := Try.prog) (c := c') 31 5 Try.underlying31 Try.underlying5 9 Try.underlying9
  have HX := Lib.hid hx
  clear hp hq hx
  generalize strOfNums xs = s at k1 k2
  go_enter Try.func8, Try.ntmps8
  go_wp2
  go_ret
  exact ⟨rfl, HX.out⟩

/-- the document's net behind a pointer: its row is never written -/
structure NetR (w : World) (S : Nat → Prop) (base h : Nat) (u : Value) (m : Nat) (qs : List Pk) : Prop where
  obj : w.heap[h]? = some (.cells #[u, .int .u64 m] 30 (0, 0))
  low : base ≤ h
  mem : S h
  row : PRow w base u qs
  apart : ∀ k, u.ownBlock = some k → ¬ S k
  ok : ∀ q ∈ qs, PkOk w S q
  few : qs.length ≤ 1000
  mask : m < 18446744073709551616
  sub : ∀ k, S k → k < w.heap.size
theorem NetR.cells {w : World} {S : Nat → Prop} {base g : Nat} {v : Value} {m : Nat} {ps : List Pk} (h : NetR w S base g v m ps) :
    w.cell? ⟨g, 0, none⟩ = some v ∧ w.cell? ⟨g, 1, none⟩ = some (.int .u64 m) ∧ w.frozen? ⟨g, 0, none⟩ = false ∧ w.frozen? ⟨g, 1, none⟩ = false := by
  refine ⟨?_, ?_, ?_, ?_⟩
  · rw [cell_of_row w g 0 _ _ (0, 0) h.obj]; rfl
  · rw [cell_of_row w g 1 _ _ (0, 0) h.obj]; rfl
  · simp [World.frozen?, h.obj]
  · simp [World.frozen?, h.obj]
theorem NetR.ext {w w' : World} {S : Nat → Prop} {base g : Nat} {v : Value} {m : Nat} {ps : List Pk} (h : NetR w S base g v m ps) (hx : Ext w w') : NetR w' S base g v m ps :=
  ⟨hx.obj h.obj, h.low, h.mem, CRow.ext h.row hx, h.apart, fun p hp => (h.ok p hp).ext hx, h.few, h.mask, fun k hk => Nat.lt_of_lt_of_le (h.sub k hk) hx.size_le'⟩
/-- a step that leaves it alone -/
theorem NetR.chg {T S S' : Nat → Prop} {w w' : World} {base g : Nat} {v : Value} {m : Nat} {ps : List Pk} (h : NetR w S base g v m ps) (hc : Chg T w w') (hT : ∀ k, k < w.heap.size → T k → S k) (hS : ∀ k, k < w.heap.size → S' k → S k) (hg : ¬ T g) (hm : S' g) (hsub : ∀ k, S' k → k < w'.heap.size) : NetR w' S' base g v m ps :=
  ⟨hc.obj h.obj hg, h.low, hm, CRow.chg h.row hc (fun k hk ht => h.apart k hk (hT k (CRow.lt h.row k hk).2.1 ht)), fun k hk hs => h.apart k hk (hS k (CRow.lt h.row k hk).2.1 hs), fun p hp => (h.ok p hp).chg hc hT hS, h.few, h.mask, hsub⟩
theorem rside_any {w : World} {S : Nat → Prop} {base g : Nat} {v : Value} {m : Nat} {ps : List Pk} (h : NetR w S base g v m ps) (a : Int) (ha : IntKind.i64.min ≤ a ∧ a ≤ IntKind.i64.max) : Calls Try.prog 22 #[.pointer (some ⟨g, 0, none⟩), .int .i64 a] w (RetS (.bool (sideB m a)) w) := by
  obtain ⟨c0, c1, f0, f1⟩ := h.cells
  have H := Lib.hid h
  clear h
  by_cases h2 : 0 ≤ a ∧ a < 32
  · obtain ⟨i, rfl⟩ := Int.eq_ofNat_of_zero_le h2.1
    have e : sideB m (i : Int) = bitB m i := by unfold sideB; rw [if_neg (by omega), if_pos h2]; rfl
    rw [e]
    obtain ⟨h3, h4⟩ := h2
    clear e
    go_enter Try.func22, Try.ntmps22
    go_wp2
    all_goals
      go_ret
      exact ⟨rfl, rfl⟩
  · by_cases h1 : 100 ≤ a ∧ a < 132
    · obtain ⟨i, hi⟩ : ∃ i : Nat, a - 68 = (i : Int) := ⟨(a - 68).toNat, by omega⟩
      have e : sideB m a = bitB m i := by unfold sideB; rw [if_pos h1, hi]; rfl
      rw [e]
      obtain rfl : a = (i : Int) + 68 := by omega
      have e2 : (i : Int) + 68 - 68 = (i : Int) := by omega
      have h5 : (0 : Int) ≤ (i : Int) + 68 := by omega
      have h6 : decide ((i : Int) + 68 < 32) = false := by simp; omega
      obtain ⟨h3, h4⟩ := h1
      clear hi e h2
      go_enter Try.func22, Try.ntmps22
      go_wp2
      all_goals
        go_ret
        exact ⟨rfl, rfl⟩
    · have e : sideB m a = false := by unfold sideB; rw [if_neg h1, if_neg h2]
      rw [e]
      by_cases h3 : a < 0
      · have h4 : decide (100 ≤ a) = false := by simp; omega
        have h5 : decide (0 ≤ a) = false := by simp; omega
        go_enter Try.func22, Try.ntmps22
        go_wp2
        all_goals
          go_ret
          exact ⟨rfl, rfl⟩
      · have h5 : 0 ≤ a := by omega
        have h6 : decide (a < 32) = false := by simp; omega
        by_cases h4 : a < 100
        · have h7 : decide (100 ≤ a) = false := by simp; omega
          go_enter Try.func22, Try.ntmps22
          go_wp2
          all_goals
            go_ret
            exact ⟨rfl, rfl⟩
        · have h7 : decide (a < 132) = false := by simp; omega
          have h8 : 100 ≤ a := by omega
          go_enter Try.func22, Try.ntmps22
          go_wp2
          all_goals
            go_ret
            exact ⟨rfl, rfl⟩
theorem rjoined_any {w : World} {S : Nat → Prop} {base g : Nat} {v : Value} {m : Nat} {ps : List Pk} (h : NetR w S base g v m ps) (a b : Int) (ha : IntKind.i64.min ≤ a ∧ a ≤ IntKind.i64.max) (hb : IntKind.i64.min ≤ b ∧ b ≤ IntKind.i64.max) : Calls Try.prog 16 #[.pointer (some ⟨g, 0, none⟩), .int .i64 a, .int .i64 b] w (RetS (.bool (joinB m a b)) w) := by
  obtain ⟨x, hx⟩ : ∃ x, sideB m a = x := ⟨_, rfl⟩
  obtain ⟨y, hy⟩ : ∃ y, sideB m b = y := ⟨_, rfl⟩
  have A1 := rside_any h a ha
  have A2 := rside_any h b hb
  unfold joinB
  rw [hx] at A1 ⊢
  rw [hy] at A2 ⊢
  clear hx hy h ha hb
  go_enter Try.func16, Try.ntmps16
  go_wp2_with fail
  refine A1.mono ?_; rintro e w1 ⟨rfl, rfl⟩
  go_wp2_with fail
  refine A2.mono ?_; rintro e w1 ⟨rfl, rfl⟩
  go_wp2_with fail
  go_ret
  exact ⟨rfl, rfl⟩
end Go.Proofs.Ytbeoickdcbnjgaa
