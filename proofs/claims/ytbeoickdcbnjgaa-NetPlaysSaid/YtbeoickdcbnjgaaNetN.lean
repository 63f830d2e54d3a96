/- The law NetPlays: what the pieces know. -/
import Derived.Test.YtbeoickdcbnjgaaOwn
import Derived.Test.YtbeoickdcbnjgaaNetL
import Derived.Deep.DeepCutAuto
import Derived.Deep.CutRange
import Derived.Deep.LoopGhost
namespace Go.Proofs.Ytbeoickdcbnjgaa
open Go.RowKit
set_option linter.unusedVariables false
set_option linter.unusedSimpArgs false
attribute [local go_sem] stepR givesR fillE Ext.refl
def Wf (s : Says) : Prop := (IntKind.i64.min ≤ s.1 ∧ s.1 ≤ IntKind.i64.max) ∧ (IntKind.i64.min ≤ s.2.1 ∧ s.2.1 ≤ IntKind.i64.max)
def GH (g h k : Nat) : Prop := k = g ∨ k = h
/-- an act that came in, at its six cells -/
structure ActV where
  what : Int
  num : Int
  mask : Nat
  p : Pk
def ActV.cells (x : ActV) : List Value := [.int .u8 x.what, .int .i64 x.num, .int .u64 x.mask, .int .i64 x.p.f, .int .i64 x.p.t, .slice x.p.B x.p.n x.p.c]
def ActOk (w : World) (x : ActV) : Prop := 0 ≤ x.what ∧ x.what ≤ 255 ∧ (IntKind.i64.min ≤ x.num ∧ x.num ≤ IntKind.i64.max) ∧ x.mask < 18446744073709551616 ∧ Wf x.p.says ∧ Bt w (fun _ => False) x.p.B x.p.n x.p.xs ∧ x.p.n ≤ x.p.c ∧ x.p.c ≤ maxLen
def Acts (w : World) (A : Option Addr) (n : Nat) (f : Nat → ActV) : Prop := 0 < n → ∃ b off, A = some ⟨b, off, none⟩ ∧ ∀ j, j < n → (∀ q u, (f j).cells[q]? = some u → w.cell? ⟨b, off + j * 6 + q, none⟩ = some u) ∧ ActOk w (f j)

theorem Duo.old {W w : World} {g h m m' : Nat} {x : Option (Nat × Array Value)} {L L' : List Says} {X : List Pk} (d : Duo (GH g h) W w g h x m m' L L' X) {p : Pk} (hp : Bt W (fun _ => False) p.B p.n p.xs) (h1 : p.n ≤ p.c) (h2 : p.n ≤ 1000) : Duo (GH g h) W w g h x m m' L L' (p :: X) := by
  obtain ⟨v, u, ps, qs, d1, d2, d3, d4, d5, d6⟩ := d
  refine ⟨v, u, ps, qs, d1, d2, d3, d4, fun q hq => ?_, d6⟩
  rcases List.mem_cons.1 hq with rfl | hq
  · refine ⟨hp.chg (Chg.of_ext d6.1) (fun _ _ h => h.elim) (fun k hk hw => ?_), h1, h2⟩
    rcases hw with (hw | hw) | hw
    · have := d1.low; omega
    · have := d2.low; omega
    · have := (CRow.lt d1.row k hw.symm).1; omega
  · exact d5 q hq

theorem duo_start {W w1 : World} (hx : Ext W w1) : Duo (GH w1.heap.size (w1.heap.size + 1)) W ((w1.alloc (.cells #[.slice none 0 0, .int .u64 0] 47)).alloc (.cells #[.slice none 0 0, .int .u64 0] 30)) w1.heap.size (w1.heap.size + 1) none 0 0 [] [] [] := by
  have x2 : Ext (w1.alloc (.cells #[.slice none 0 0, .int .u64 0] 47)) ((w1.alloc (.cells #[.slice none 0 0, .int .u64 0] 47)).alloc (.cells #[.slice none 0 0, .int .u64 0] 30)) := (Ext.refl _).alloc _
  have o1 := x2.obj (heap_alloc_new w1 (.cells #[.slice none 0 0, .int .u64 0] 47))
  have o2 : ((w1.alloc (.cells #[.slice none 0 0, .int .u64 0] 47)).alloc (.cells #[.slice none 0 0, .int .u64 0] 30)).heap[w1.heap.size + 1]? = some (.cells #[.slice none 0 0, .int .u64 0] 30 (0, 0)) := by
    have := heap_alloc_new (w1.alloc (.cells #[.slice none 0 0, .int .u64 0] 47)) (.cells #[.slice none 0 0, .int .u64 0] 30)
    simpa using this
  have hs : ∀ k, GH w1.heap.size (w1.heap.size + 1) k → k < ((w1.alloc (.cells #[.slice none 0 0, .int .u64 0] 47)).alloc (.cells #[.slice none 0 0, .int .u64 0] 30)).heap.size := by
    intro k hk
    simp
    rcases hk with hk | hk <;> omega
  have hw : ∀ k, With (GH w1.heap.size (w1.heap.size + 1)) (.slice none 0 0) k → GH w1.heap.size (w1.heap.size + 1) k := by
    intro k hk
    rcases hk with hk | hk
    · exact hk
    · simp [Value.ownBlock] at hk
  have hb := hx.size_le'
  exact ⟨.slice none 0 0, .slice none 0 0, [], [], new_net o1 hb (.inl rfl) hs, ⟨o2, by omega, .inl (.inr rfl), CRow.nil _ _, fun k hk => by simp [Value.ownBlock] at hk, by simp, by simp, by decide, fun k hk => hs k (hw k hk)⟩, rfl, rfl, by simp, (hx.alloc _).trans x2, (fun _ _ e => (by cases e)), .inr rfl⟩

noncomputable def theBody : Code := (Try.f3.body).getD .skip
set_option maxRecDepth 100000 in
theorem act_281 (a : Act) (hd : a.defers = []) (hs : a.tmps.size = 281) : a = ⟨#[G a 0, G a 1, G a 2, G a 3, G a 4, G a 5, G a 6, G a 7, G a 8, G a 9, G a 10, G a 11, G a 12, G a 13, G a 14, G a 15, G a 16, G a 17, G a 18, G a 19, G a 20, G a 21, G a 22, G a 23, G a 24, G a 25, G a 26, G a 27, G a 28, G a 29, G a 30, G a 31, G a 32, G a 33, G a 34, G a 35, G a 36, G a 37, G a 38, G a 39, G a 40, G a 41, G a 42, G a 43, G a 44, G a 45, G a 46, G a 47, G a 48, G a 49, G a 50, G a 51, G a 52, G a 53, G a 54, G a 55, G a 56, G a 57, G a 58, G a 59, G a 60, G a 61, G a 62, G a 63, G a 64, G a 65, G a 66, G a 67, G a 68, G a 69, G a 70, G a 71, G a 72, G a 73, G a 74, G a 75, G a 76, G a 77, G a 78, G a 79, G a 80, G a 81, G a 82, G a 83, G a 84, G a 85, G a 86, G a 87, G a 88, G a 89, G a 90, G a 91, G a 92, G a 93, G a 94, G a 95, G a 96, G a 97, G a 98, G a 99, G a 100, G a 101, G a 102, G a 103, G a 104, G a 105, G a 106, G a 107, G a 108, G a 109, G a 110, G a 111, G a 112, G a 113, G a 114, G a 115, G a 116, G a 117, G a 118, G a 119, G a 120, G a 121, G a 122, G a 123, G a 124, G a 125, G a 126, G a 127, G a 128, G a 129, G a 130, G a 131, G a 132, G a 133, G a 134, G a 135, G a 136, G a 137, G a 138, G a 139, G a 140, G a 141, G a 142, G a 143, G a 144, G a 145, G a 146, G a 147, G a 148, G a 149, G a 150, G a 151, G a 152, G a 153, G a 154, G a 155, G a 156, G a 157, G a 158, G a 159, G a 160, G a 161, G a 162, G a 163, G a 164, G a 165, G a 166, G a 167, G a 168, G a 169, G a 170, G a 171, G a 172, G a 173, G a 174, G a 175, G a 176, G a 177, G a 178, G a 179, G a 180, G a 181, G a 182, G a 183, G a 184, G a 185, G a 186, G a 187, G a 188, G a 189, G a 190, G a 191, G a 192, G a 193, G a 194, G a 195, G a 196, G a 197, G a 198, G a 199, G a 200, G a 201, G a 202, G a 203, G a 204, G a 205, G a 206, G a 207, G a 208, G a 209, G a 210, G a 211, G a 212, G a 213, G a 214, G a 215, G a 216, G a 217, G a 218, G a 219, G a 220, G a 221, G a 222, G a 223, G a 224, G a 225, G a 226, G a 227, G a 228, G a 229, G a 230, G a 231, G a 232, G a 233, G a 234, G a 235, G a 236, G a 237, G a 238, G a 239, G a 240, G a 241, G a 242, G a 243, G a 244, G a 245, G a 246, G a 247, G a 248, G a 249, G a 250, G a 251, G a 252, G a 253, G a 254, G a 255, G a 256, G a 257, G a 258, G a 259, G a 260, G a 261, G a 262, G a 263, G a 264, G a 265, G a 266, G a 267, G a 268, G a 269, G a 270, G a 271, G a 272, G a 273, G a 274, G a 275, G a 276, G a 277, G a 278, G a 279, G a 280], []⟩ := (act_all a 281 hd hs).trans rfl
/-- a piece ends, and what holds then -/
def Norm (K : Act → World → Prop) : Exit → Act → World → Prop
  | .normal, a, w => K a w
  | _, _, _ => False
/-- what all rounds know of the frame -/
structure Kn (A : Option Addr) (n c : Nat) (x y : Int) (g h : Nat) (j : Nat) (a : Act) : Prop where
  d : a.defers = []
  s : a.tmps.size = 281
  h0 : G a 0 = .slice A n c
  h1 : G a 1 = .int .i64 x
  h2 : G a 2 = .int .i64 y
  h7 : G a 7 = .pointer (some ⟨g, 0, none⟩)
  h8 : G a 8 = .pointer (some ⟨h, 0, none⟩)
  h9 : G a 9 = .int .i64 j
/-- how the nets stand -/
def Stand (W : World) (g h : Nat) (z : Option (Nat × Array Value)) (X : List Pk) (l : Nat) (w : World) : Prop := ∃ m L, Duo (GH g h) W w g h z m m L L X ∧ L.length ≤ l ∧ ∀ s ∈ L, Wf s
def StandI (W : World) (g h : Nat) (z : Option (Nat × Array Value)) (X : List Pk) (l : Nat) (k : Int) (t : Bool) (w : World) : Prop := ∃ m L, Duo (GH g h) W w g h z m m L L X ∧ L.length ≤ l ∧ (∀ s ∈ L, Wf s) ∧ t = inB k L.length
def ActV.arr (x : ActV) : Array Value := #[.int .u8 x.what, .int .i64 x.num, .int .u64 x.mask, .int .i64 x.p.f, .int .i64 x.p.t, .slice x.p.B x.p.n x.p.c]
/-- behind the switch -/
def SwPost (A : Option Addr) (n c : Nat) (x y : Int) (W : World) (g h j gx l : Nat) (v : ActV) (a : Act) (w : World) : Prop :=
  Kn A n c x y g h j a ∧ G a 10 = .pointer (some ⟨gx, 0, none⟩) ∧ Stand W g h (some (gx, v.arr)) [v.p] l w
end Go.Proofs.Ytbeoickdcbnjgaa
