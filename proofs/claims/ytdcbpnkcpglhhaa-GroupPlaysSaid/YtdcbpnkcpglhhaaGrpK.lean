/- A directory's list as a tree; a row of lists, made by append. -/
import Derived.Test.YtdcbpnkcpglhhaaGrpJ
namespace Go.Proofs.Ytdcbpnkcpglhhaa
open Go.RowKit
set_option linter.unusedVariables false
set_option linter.unusedSimpArgs false
set_option linter.unnecessarySimpa false

def textT (s : ByteArray) : T := .mk 3 0 0 s []
def intT (z : Int) : T := .mk 1 z 0 ⟨#[]⟩ []
def styN (z : Int) : ByteArray := stylesL.getD z.toNat ⟨#[]⟩
def rowT (p : Gp) : T := .mk 4 0 0 ⟨#[]⟩ [textT p.name, textT p.cls, textT (styN p.sty), intT p.ver]
def listT (L : List Gp) : T := .mk 4 0 0 ⟨#[]⟩ (L.map rowT)
def vhead (q : Nat) : List Value := [.int .i64 4, .int .i64 0, .float .f64 0, .string ⟨#[]⟩, .slice (some ⟨q, 0, none⟩) 4 4]
def vtext (s : ByteArray) : List Value := [.int .i64 3, .int .i64 0, .float .f64 0, .string s, .slice none 0 0]
def vint (z : Int) : List Value := [.int .i64 1, .int .i64 z, .float .f64 0, .string ⟨#[]⟩, .slice none 0 0]
def rowcells (p : Gp) : List Value := vtext p.name ++ vtext p.cls ++ vtext (styN p.sty) ++ vint p.ver
/-- the lists so far, in a row of one's own -/
def LstP (w : World) (base : Nat) (vL : Value) (j : Nat) (L : List Gp) : Prop :=
  ∃ qs : List Nat, qs.length = j ∧ CRow 28 5 w base vL j (qs.flatMap vhead) ∧ ∀ (i q : Nat) (p : Gp), qs[i]? = some q → L[i]? = some p → base ≤ q ∧ vL.ownBlock ≠ some q ∧ w.heap[q]? = some (.cells (rowcells p).toArray 28 (0, 0))
theorem LstP.ext {w w' : World} {base : Nat} {vL : Value} {j : Nat} {L : List Gp} (h : LstP w base vL j L) (hx : Ext w w') : LstP w' base vL j L := by
  obtain ⟨qs, h1, h2, h3⟩ := h
  exact ⟨qs, h1, h2.ext hx, fun i q p hq hp => ⟨(h3 i q p hq hp).1, (h3 i q p hq hp).2.1, hx.obj (h3 i q p hq hp).2.2⟩⟩
theorem LstP.chg {S : Nat → Prop} {w w' : World} {base : Nat} {vL : Value} {j : Nat} {L : List Gp} (h : LstP w base vL j L) (hc : Chg S w w') (hS : ∀ k, base ≤ k → ¬ S k) : LstP w' base vL j L := by
  obtain ⟨qs, h1, h2, h3⟩ := h
  exact ⟨qs, h1, CRow.chg h2 hc (fun k hk => hS k (h2.lt k hk).1), fun i q p hq hp => ⟨(h3 i q p hq hp).1, (h3 i q p hq hp).2.1, hc.obj (h3 i q p hq hp).2.2 (hS q (h3 i q p hq hp).1)⟩⟩
theorem vheads_at : ∀ (qs : List Nat) (j u : Nat) (q : Nat), qs[j]? = some q → u < 5 → (qs.flatMap vhead)[j * 5 + u]? = (vhead q)[u]?
  | [], j, u, q, h, _ => by simp at h
  | q' :: qs, 0, u, q, h, hu => by
    simp at h
    subst h
    simp only [List.flatMap_cons, Nat.zero_mul, Nat.zero_add]
    rw [List.getElem?_append_left (by simp [vhead]; omega)]
  | q' :: qs, j + 1, u, q, h, hu => by
    have e : (j + 1) * 5 + u = 5 + (j * 5 + u) := by omega
    simp only [List.flatMap_cons]
    rw [e, List.getElem?_append_right (by simp [vhead])]
    have e2 : 5 + (j * 5 + u) - (vhead q').length = j * 5 + u := by simp [vhead]
    rw [e2]
    exact vheads_at qs j u q (by simpa using h) hu
theorem Rd.leaf {w : World} {S : Nat → Prop} {k i : Int} {s : ByteArray} (hk : inI k) (hi : inI i) (hs : s.size ≤ maxLen) (n : Nat) : Rd w S (n + 1) (.mk k i 0 s []) none 0 :=
  ⟨hk, hi, by decide, hs, Nat.le_refl _, Nat.zero_le _, fun h => absurd h (Nat.lt_irrefl 0)⟩
theorem styN_size (z : Int) : (styN z).size ≤ maxLen := by
  have h : ∀ x ∈ stylesL, x.size ≤ 32 := by decide
  have hm : 32 ≤ maxLen := by decide
  unfold styN
  rw [List.getD_eq_getElem?_getD]
  cases hz : stylesL[z.toNat]? with
  | none => exact Nat.zero_le _
  | some x => exact Nat.le_trans (h x (List.mem_of_getElem? hz)) hm
/-- a group's list, as it lies -/
theorem row_rd {w : World} {S : Nat → Prop} {q : Nat} {p : Gp} (hp : p.ok) (hq : w.heap[q]? = some (.cells (rowcells p).toArray 28 (0, 0))) (hS : ¬ S q) : Rd w S 2 (rowT p) (some ⟨q, 0, none⟩) 4 := by
  have hm : 32 ≤ maxLen := by decide
  have hc := fun j => cell_of_row w q j (rowcells p).toArray 28 (0, 0) hq
  obtain ⟨_, h0, h1, h2, h3⟩ := hp
  refine ⟨by simp only [inI]; decide, by simp only [inI]; decide, by decide, Nat.zero_le _, Nat.le_refl _, by decide, fun _ => ⟨q, 0, rfl, hS, fun j t ht => ⟨none, 0, ?_⟩⟩⟩
  have i3 : inI 3 := by simp only [inI]; decide
  have i1 : inI 1 := by simp only [inI]; decide
  have i0 : inI 0 := by simp only [inI]; decide
  match j, ht with
  | 0, ht =>
    cases ht
    exact ⟨⟨hc 0, hc 1, hc 2, hc 3, hc 4⟩, Rd.leaf i3 i0 (Nat.le_trans h2 hm) 0⟩
  | 1, ht =>
    cases ht
    exact ⟨⟨hc 5, hc 6, hc 7, hc 8, hc 9⟩, Rd.leaf i3 i0 (Nat.le_trans h3 hm) 0⟩
  | 2, ht =>
    cases ht
    exact ⟨⟨hc 10, hc 11, hc 12, hc 13, hc 14⟩, Rd.leaf i3 i0 (styN_size _) 0⟩
  | 3, ht =>
    cases ht
    refine ⟨⟨hc 15, hc 16, hc 17, hc 18, hc 19⟩, Rd.leaf i1 ?_ (Nat.zero_le _) 0⟩
    have e1 : IntKind.i64.min = -9223372036854775808 := rfl
    have e2 : IntKind.i64.max = 9223372036854775807 := rfl
    unfold inI
    rw [e1, e2]
    omega
  | j + 4, ht => simp at ht
theorem LstP.rd {w : World} {base : Nat} {A : Option Addr} {n c : Nat} {L : List Gp} (h : LstP w base (.slice A n c) L.length L) (hok : ∀ p ∈ L, p.ok) {S : Nat → Prop} (hS : ∀ k, base ≤ k → ¬ S k) : n = L.length ∧ Rd w S 3 (listT L) A c := by
  obtain ⟨qs, h1, h2, h3⟩ := h
  have hn : n = L.length ∧ n ≤ c ∧ c ≤ maxLen := by
    rcases h2 with ⟨h', h0, _⟩ | ⟨_, _, _, h', _, _, hl, _, hm, _⟩
    · injection h' with e1 e2 e3
      exact ⟨by omega, by omega, by omega⟩
    · injection h' with e1 e2 e3
      exact ⟨by omega, by omega, by omega⟩
  obtain ⟨rfl, hnc, hcm⟩ := hn
  refine ⟨rfl, by simp only [inI]; decide, by simp only [inI]; decide, by decide, Nat.zero_le _, by simpa using hnc, hcm, fun h0 => ?_⟩
  rw [List.length_map] at h0
  obtain ⟨g, rfl, hb, _, _, hc⟩ := CRow.cell h2 h0
  refine ⟨g, 0, rfl, hS g hb, fun j t ht => ?_⟩
  rw [List.getElem?_map] at ht
  obtain ⟨p, hp, rfl⟩ := Option.map_eq_some_iff.1 ht
  have hj := (List.getElem?_eq_some_iff.1 hp).1
  obtain ⟨q, hq⟩ : ∃ q, qs[j]? = some q := ⟨_, List.getElem?_eq_getElem (by omega)⟩
  obtain ⟨hbq, _, hcell⟩ := h3 j q p hq hp
  have hk : ∀ u, u < 5 → w.cell? ⟨g, 0 + j * 5 + u, none⟩ = (vhead q)[u]? := fun u hu => by
    rw [Nat.zero_add, (hc (j * 5 + u) (by omega)).1, vheads_at qs j u q hq hu]
  exact ⟨some ⟨q, 0, none⟩, 4, ⟨hk 0 (by omega), hk 1 (by omega), hk 2 (by omega), hk 3 (by omega), hk 4 (by omega)⟩, row_rd (hok p (List.mem_of_getElem? hp)) hcell (hS q hbq)⟩
/-- one more -/
theorem LstP.more {w w' : World} {base j q : Nat} {vL v1 : Value} {L : List Gp} {p : Gp} {qs : List Nat} (hl : qs.length = j) (h2 : CRow 28 5 w base vL j (qs.flatMap vhead)) (h3 : ∀ (i q : Nat) (p : Gp), qs[i]? = some q → L[i]? = some p → base ≤ q ∧ vL.ownBlock ≠ some q ∧ w.heap[q]? = some (.cells (rowcells p).toArray 28 (0, 0)))
    (hp : L[j]? = some p) (hq : w.heap[q]? = some (.cells (rowcells p).toArray 28 (0, 0))) (hb : base ≤ q) (hne : vL.ownBlock ≠ some q) (h4 : CRow 28 5 w' base v1 (j + 1) (qs.flatMap vhead ++ vhead q)) (hg : w.grownBy w' vL.ownBlock) (hf : Fresh w vL v1) : LstP w' base v1 (j + 1) L := by
  have hfr : ∀ k, k < w.heap.size → vL.ownBlock ≠ some k → v1.ownBlock ≠ some k := by
    intro k hk hn
    rcases hf with e | ⟨i, e, hi⟩
    · rw [e]; exact hn
    · rw [e]; intro e2; injection e2 with e2; omega
  have hkeep : ∀ k o, w.heap[k]? = some o → vL.ownBlock ≠ some k → w'.heap[k]? = some o := fun k o ho hn => (Chg.of_grown hg).obj ho (fun e => hn e.symm)
  refine ⟨qs ++ [q], by simp [hl], by simpa using h4, fun i q' p' hq' hp' => ?_⟩
  rcases Nat.lt_or_ge i qs.length with hi | hi
  · rw [List.getElem?_append_left hi] at hq'
    obtain ⟨k1, k2, k3⟩ := h3 i q' p' hq' hp'
    exact ⟨k1, hfr q' (Array.getElem?_eq_some_iff.1 k3).1 k2, hkeep q' _ k3 k2⟩
  · rw [List.getElem?_append_right hi] at hq'
    have hi0 : i - qs.length = 0 := by
      have := (List.getElem?_eq_some_iff.1 hq').1
      simp at this
      omega
    rw [hi0] at hq'
    obtain rfl : q = q' := by simpa using hq'
    obtain rfl : i = j := by omega
    rw [hp] at hp'
    cases hp'
    exact ⟨hb, hfr q (Array.getElem?_eq_some_iff.1 hq).1 hne, hkeep q _ hq hne⟩
end Go.Proofs.Ytdcbpnkcpglhhaa
