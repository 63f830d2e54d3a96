/- Values as trees of data, as they lie; what the small readers come to. -/
import Derived.Test.YtdcbpnkcpglhhaaProg
import Derived.Test.YtdcbpnkcpglhhaaKit
import Derived.Handy
import Derived.Deep.RegionWith
import Derived.Deep.QuietTactic
import Derived.BigQuiet
import Derived.Deep.LoopGhost
namespace Go.Proofs.Ytdcbpnkcpglhhaa
open Go.RowKit
set_option linter.unusedVariables false
set_option linter.unusedSimpArgs false
attribute [local go_sem] stepR givesR fillE Ext.refl

def RetS (v : Value) (w : World) (e : Ending) (w' : World) : Prop := e = .returned v ∧ w = w'
def RetX (v : Value) (w : World) (e : Ending) (w' : World) : Prop := e = .returned v ∧ Ext w w'
def inI (n : Int) : Prop := IntKind.i64.min ≤ n ∧ n ≤ IntKind.i64.max
inductive T where
  | mk (k i : Int) (f : Nat) (s : ByteArray) (l : List T)
def T.k : T → Int | .mk k _ _ _ _ => k
def T.l : T → List T | .mk _ _ _ _ l => l
/-- its five cells, its row at A, room for c -/
def T.cells : T → Option Addr → Nat → List Value | .mk k i f s l, A, c => [.int .i64 k, .int .i64 i, .float .f64 f, .string s, .slice A l.length c]
def T.val : T → Option Addr → Nat → Value | .mk k i f s l, A, c => .agg #[.int .i64 k, .int .i64 i, .float .f64 f, .string s, .slice A l.length c]
def TAt (w : World) (b o : Nat) : T → Option Addr → Nat → Prop
  | .mk k i f s l, A, c => w.cell? ⟨b, o, none⟩ = some (.int .i64 k) ∧ w.cell? ⟨b, o + 1, none⟩ = some (.int .i64 i) ∧ w.cell? ⟨b, o + 2, none⟩ = some (.float .f64 f) ∧ w.cell? ⟨b, o + 3, none⟩ = some (.string s) ∧ w.cell? ⟨b, o + 4, none⟩ = some (.slice A l.length c)
/-- what is in a row of trees -/
def RowOf (w : World) (S : Nat → Prop) (R : T → Option Addr → Nat → Prop) (A : Option Addr) (l : List T) : Prop :=
  0 < l.length → ∃ b off, A = some ⟨b, off, none⟩ ∧ ¬ S b ∧ ∀ (j : Nat) t, l[j]? = some t → ∃ A1 c1, TAt w b (off + j * 5) t A1 c1 ∧ R t A1 c1
/-- a tree, read, n deep at most; no block of S is in it -/
def Rd (w : World) (S : Nat → Prop) : Nat → T → Option Addr → Nat → Prop
  | 0, _, _, _ => False
  | n + 1, .mk k i f s l, A, c => inI k ∧ inI i ∧ f < 18446744073709551616 ∧ s.size ≤ maxLen ∧ l.length ≤ c ∧ c ≤ maxLen ∧ RowOf w S (Rd w S n) A l
theorem TAt.chg {T1 : Nat → Prop} {w w' : World} {b o : Nat} {t : T} {A : Option Addr} {c : Nat} (h : TAt w b o t A c) (hc : Chg T1 w w') (hn : ¬ T1 b) : TAt w' b o t A c := by
  obtain ⟨k, i, f, s, l⟩ := t
  exact ⟨hc.cell h.1 hn, hc.cell h.2.1 hn, hc.cell h.2.2.1 hn, hc.cell h.2.2.2.1 hn, hc.cell h.2.2.2.2 hn⟩
theorem TAt.lt {w : World} {b o : Nat} {t : T} {A : Option Addr} {c : Nat} (h : TAt w b o t A c) : b < w.heap.size := by
  obtain ⟨k, i, f, s, l⟩ := t
  exact World.block_lt_of_cell? w _ h.1
theorem RowOf.chg {T1 S S' : Nat → Prop} {w w' : World} {R R' : T → Option Addr → Nat → Prop} {A : Option Addr} {l : List T} (h : RowOf w S R A l) (hc : Chg T1 w w') (hT : ∀ k, k < w.heap.size → T1 k → S k) (hS : ∀ k, k < w.heap.size → S' k → S k) (hR : ∀ t A c, t ∈ l → R t A c → R' t A c) : RowOf w' S' R' A l := by
  intro h0
  obtain ⟨b, off, rfl, hb, hj⟩ := h h0
  have hlt : b < w.heap.size := by
    obtain ⟨A1, c1, ha, _⟩ := hj 0 _ (List.getElem?_eq_getElem h0)
    exact ha.lt
  refine ⟨b, off, rfl, fun h' => hb (hS b hlt h'), fun j t ht => ?_⟩
  obtain ⟨A1, c1, ha, hr⟩ := hj j t ht
  exact ⟨A1, c1, ha.chg hc (fun h' => hb (hT b hlt h')), hR t A1 c1 (List.mem_of_getElem? ht) hr⟩
theorem Rd.chg {T1 S S' : Nat → Prop} {w w' : World} (hc : Chg T1 w w') (hT : ∀ k, k < w.heap.size → T1 k → S k) (hS : ∀ k, k < w.heap.size → S' k → S k) : ∀ (n : Nat) (t : T) (A : Option Addr) (c : Nat), Rd w S n t A c → Rd w' S' n t A c
  | 0, _, _, _, h => h
  | n + 1, .mk k i f s l, A, c, h => ⟨h.1, h.2.1, h.2.2.1, h.2.2.2.1, h.2.2.2.2.1, h.2.2.2.2.2.1, h.2.2.2.2.2.2.chg hc hT hS (fun t A c _ => Rd.chg hc hT hS n t A c)⟩
theorem Rd.ext {S : Nat → Prop} {w w' : World} {n : Nat} {t : T} {A : Option Addr} {c : Nat} (h : Rd w S n t A c) (hx : Ext w w') : Rd w' S n t A c := Rd.chg (Chg.of_ext hx) (fun _ _ h => h.elim) (fun _ _ h => h) n t A c h
theorem Rd.up {S : Nat → Prop} {w : World} : ∀ (n : Nat) (t : T) (A : Option Addr) (c : Nat), Rd w S n t A c → Rd w S (n + 1) t A c
  | 0, _, _, _, h => h.elim
  | n + 1, .mk k i f s l, A, c, h => ⟨h.1, h.2.1, h.2.2.1, h.2.2.2.1, h.2.2.2.2.1, h.2.2.2.2.2.1, h.2.2.2.2.2.2.chg (Chg.refl (fun _ => False) w) (fun _ _ h => h.elim) (fun _ _ h => h) (fun t A c _ => Rd.up n t A c)⟩
/-- a row of trees that came, or was made -/
def Rds (w : World) (S : Nat → Prop) (n : Nat) (A : Option Addr) (c : Nat) (l : List T) : Prop := l.length ≤ c ∧ c ≤ maxLen ∧ RowOf w S (Rd w S n) A l
theorem Rds.ext {S : Nat → Prop} {w w' : World} {n : Nat} {A : Option Addr} {c : Nat} {l : List T} (h : Rds w S n A c l) (hx : Ext w w') : Rds w' S n A c l := ⟨h.1, h.2.1, h.2.2.chg (Chg.of_ext hx) (fun _ _ h => h.elim) (fun _ _ h => h) (fun t A c _ h => Rd.ext h hx)⟩

/-- of no kind is Nil -/
def kindI (k : Int) : Int := if k < 0 ∨ 4 < k then 0 else k
theorem kind_any {w : World} {k i : Int} {f : Nat} {s : ByteArray} {A : Option Addr} {n c : Nat} : Calls Try.prog 56 #[.agg #[.int .i64 k, .int .i64 i, .float .f64 f, .string s, .slice A n c]] w (RetX (.int .i64 (kindI k)) w) := by
  by_cases h1 : k < 0
  · have e : kindI k = 0 := if_pos (.inl h1)
    rw [e]
    go_enter Try.func56, Try.ntmps56
    go_wp2
    go_ret
    exact ⟨rfl, (Ext.refl w).alloc _⟩
  · by_cases h2 : 4 < k
    · have e : kindI k = 0 := if_pos (.inr h2)
      rw [e]
      have h1' : decide (k < 0) = false := by simpa using h1
      go_enter Try.func56, Try.ntmps56
      go_wp2
      go_ret
      exact ⟨rfl, (Ext.refl w).alloc _⟩
    · have e : kindI k = k := if_neg (by omega)
      rw [e]
      have h1' : decide (k < 0) = false := by simpa using h1
      have h2' : decide (4 < k) = false := by simpa using h2
      go_enter Try.func56, Try.ntmps56
      go_wp2
      go_ret
      exact ⟨rfl, (Ext.refl w).alloc _⟩
end Go.Proofs.Ytdcbpnkcpglhhaa
