/- The document's Do in pieces: what the pieces know. -/
import Derived.Test.YtdcbpnkcpglhhaaGrpT
import Derived.Test.YtdcbpnkcpglhhaaGrpN
import Derived.Test.YtdcbpnkcpglhhaaOwn
import Derived.Test.YtdcbpnkcpglhhaaKitF
namespace Go.Proofs.Ytdcbpnkcpglhhaa
open Go.RowKit
set_option linter.unusedVariables false
set_option linter.unusedSimpArgs false
attribute [local go_sem] stepR givesR fillE Ext.refl

theorem seq_norm {P : Program} {c d : Code} {K1 : Act → World → Prop} {Q : Exit → Act → World → Prop} {a : Act} {w : World} (h1 : c.wp P (fun e a w => match e with | .normal => K1 a w | e => Q e a w) a w) (h2 : ∀ a w, K1 a w → d.wp P Q a w) : (Code.seq c d).wp P Q a w := by
  refine wp_seq (wp_mono h1 ?_)
  intro e a' w' h
  cases e with
  | normal => exact h2 _ _ h
  | _ => exact h
/-- a piece ends, and what holds then -/
def Norm (K : Act → World → Prop) : Exit → Act → World → Prop
  | .normal, a, w => K a w
  | _, _, _ => False
noncomputable def doBody : Code := (Try.f14.body).getD .skip
set_option maxRecDepth 100000 in
theorem act_292 (a : Act) (hd : a.defers = []) (hs : a.tmps.size = 292) : a = ⟨#[G a 0, G a 1, G a 2, G a 3, G a 4, G a 5, G a 6, G a 7, G a 8, G a 9, G a 10, G a 11, G a 12, G a 13, G a 14, G a 15, G a 16, G a 17, G a 18, G a 19, G a 20, G a 21, G a 22, G a 23, G a 24, G a 25, G a 26, G a 27, G a 28, G a 29, G a 30, G a 31, G a 32, G a 33, G a 34, G a 35, G a 36, G a 37, G a 38, G a 39, G a 40, G a 41, G a 42, G a 43, G a 44, G a 45, G a 46, G a 47, G a 48, G a 49, G a 50, G a 51, G a 52, G a 53, G a 54, G a 55, G a 56, G a 57, G a 58, G a 59, G a 60, G a 61, G a 62, G a 63, G a 64, G a 65, G a 66, G a 67, G a 68, G a 69, G a 70, G a 71, G a 72, G a 73, G a 74, G a 75, G a 76, G a 77, G a 78, G a 79, G a 80, G a 81, G a 82, G a 83, G a 84, G a 85, G a 86, G a 87, G a 88, G a 89, G a 90, G a 91, G a 92, G a 93, G a 94, G a 95, G a 96, G a 97, G a 98, G a 99, G a 100, G a 101, G a 102, G a 103, G a 104, G a 105, G a 106, G a 107, G a 108, G a 109, G a 110, G a 111, G a 112, G a 113, G a 114, G a 115, G a 116, G a 117, G a 118, G a 119, G a 120, G a 121, G a 122, G a 123, G a 124, G a 125, G a 126, G a 127, G a 128, G a 129, G a 130, G a 131, G a 132, G a 133, G a 134, G a 135, G a 136, G a 137, G a 138, G a 139, G a 140, G a 141, G a 142, G a 143, G a 144, G a 145, G a 146, G a 147, G a 148, G a 149, G a 150, G a 151, G a 152, G a 153, G a 154, G a 155, G a 156, G a 157, G a 158, G a 159, G a 160, G a 161, G a 162, G a 163, G a 164, G a 165, G a 166, G a 167, G a 168, G a 169, G a 170, G a 171, G a 172, G a 173, G a 174, G a 175, G a 176, G a 177, G a 178, G a 179, G a 180, G a 181, G a 182, G a 183, G a 184, G a 185, G a 186, G a 187, G a 188, G a 189, G a 190, G a 191, G a 192, G a 193, G a 194, G a 195, G a 196, G a 197, G a 198, G a 199, G a 200, G a 201, G a 202, G a 203, G a 204, G a 205, G a 206, G a 207, G a 208, G a 209, G a 210, G a 211, G a 212, G a 213, G a 214, G a 215, G a 216, G a 217, G a 218, G a 219, G a 220, G a 221, G a 222, G a 223, G a 224, G a 225, G a 226, G a 227, G a 228, G a 229, G a 230, G a 231, G a 232, G a 233, G a 234, G a 235, G a 236, G a 237, G a 238, G a 239, G a 240, G a 241, G a 242, G a 243, G a 244, G a 245, G a 246, G a 247, G a 248, G a 249, G a 250, G a 251, G a 252, G a 253, G a 254, G a 255, G a 256, G a 257, G a 258, G a 259, G a 260, G a 261, G a 262, G a 263, G a 264, G a 265, G a 266, G a 267, G a 268, G a 269, G a 270, G a 271, G a 272, G a 273, G a 274, G a 275, G a 276, G a 277, G a 278, G a 279, G a 280, G a 281, G a 282, G a 283, G a 284, G a 285, G a 286, G a 287, G a 288, G a 289, G a 290, G a 291], []⟩ := act_all a 292 hd hs
abbrev RD : TypeId := 45
structure RK (g bx : Nat) (m : ByteArray) (A : Option Addr) (l c : Nat) (a : Act) : Prop where
  d : a.defers = []
  s : a.tmps.size = 292
  h0 : G a 0 = .pointer (some ⟨g, 0, none⟩)
  h1 : G a 1 = .string m
  h2 : G a 2 = .slice A l c
  h6 : G a 6 = .pointer (some ⟨bx, 0, none⟩)
  h10 : G a 10 = .int .i64 31
def zeroV : Obj := .cells #[.int .i64 0, .int .i64 0, .float .f64 0, .string ⟨#[]⟩, .slice none 0 0] 28 (0, 0)
/-- the world at a piece's start -/
structure RW (w : World) (base g bx : Nat) (v : Value) (L : List Gp) (S : Nat → Prop) (n : Nat) (A : Option Addr) (c : Nat) (ts : List T) (wr : World) : Prop where
  ex : Ext w wr
  bxw : bx = w.heap.size
  ob : wr.heap[bx]? = some zeroV
  ne : g ≠ bx
  nv : v.ownBlock ≠ some bx
  dr : Dr RD wr base g v L
  rd : Rds wr S n A c ts
  bl : base ≤ wr.heap.size
  sv : ∀ k, v.ownBlock = some k → S k
theorem RW.ext {w : World} {base g bx : Nat} {v : Value} {L : List Gp} {S : Nat → Prop} {n : Nat} {A : Option Addr} {c : Nat} {ts : List T} {wr wr' : World} (h : RW w base g bx v L S n A c ts wr) (hx : Ext wr wr') : RW w base g bx v L S n A c ts wr' :=
  ⟨h.ex.trans hx, h.bxw, hx.obj h.ob, h.ne, h.nv, h.dr.ext hx, h.rd.ext hx, Nat.le_trans h.bl hx.size_le', h.sv⟩
/-- how a piece ends the call -/
def RF (w : World) (base g bx : Nat) (v : Value) (r : List Gp × T × Int) : Exit → Act → World → Prop
  | .ret, a, w' => a.defers = [] ∧ a.tmps.size = 292 ∧ G a 6 = .pointer (some ⟨bx, 0, none⟩) ∧ G a 7 = .int .i64 r.2.2 ∧ ∃ A c, w'.heap[bx]? = some (.cells (T.cells r.2.1 A c).toArray 28 (0, 0)) ∧ DoP RD w base g v r (.returned (.tuple #[r.2.1.val A c, .int .i64 r.2.2])) w'
  | _, _, _ => False
/-- an end with nothing told -/
theorem RF.nil {w : World} {base g bx : Nat} {v v' : Value} {L L' : List Gp} {S : Nat → Prop} {n : Nat} {A : Option Addr} {c : Nat} {ts : List T} {wr w2 w3 : World} (h : RW w base g bx v L S n A c ts wr) (hd : Dr RD w2 base g v' L') (hc : Chg (fun k => k = g ∨ some k = v.ownBlock) wr w2) (hf : Fresh wr v v') (z : Int)
    (h3 : Chg (fun k => k = bx) w2 w3) (ho : w3.heap[bx]? = some zeroV) {a : Act} (ha : a.defers = []) (hs : a.tmps.size = 292) (h6 : G a 6 = .pointer (some ⟨bx, 0, none⟩)) (h7 : G a 7 = .int .i64 z) : RF w base g bx v (L', nilT, z) .ret a w3 :=
  ⟨ha, hs, h6, h7, none, 0, ho, DoP.fin (t := nilT) (A := none) (c := 0) (Nat.le_of_eq h.bxw.symm) hd h.ne (hf.ne (Array.getElem?_eq_some_iff.1 h.ob).1 h.nv) h.ex hc (hf.low h.ex.size_le') (nil_rd _ _) h3⟩
/-- append onto a row that is cut to its length, at an operation of a region that draws -/
theorem stepR_append_full {E : TypeId} {sz : Nat} {P : Program} {ops : Array Oper} {o : Oper} {a : Act} {w : World} {V : Value → World → Prop} (hgd : o.guard = none) (base : Nat) (s x : Operand) (t : TypeId)
    (ho : o.op = .call { callee := .builtin .append, args := #[s, x], argTypes := #[t, t] }) (ht : P.underlying t = some (.slice E)) (bytes : Nat) (hinfo : (P.info? E).map (fun i => (i.zero.map (·.cells.size), i.size, i.bytes)) = some (some sz, sz, bytes)) (hsz : 0 < sz)
    (B : Option Addr) (n : Nat) (xs news : List Value) (A : Option Addr) (m c : Nat) (hs : a.eval s = .slice B n n) (hx : a.eval x = .slice A m c) (HO : CRow E sz w base (.slice B n n) n xs) (HR : Src w sz A m news) (hbase : base ≤ w.heap.size) (h63 : n + m ≤ maxLen) (hby : (n + m) * bytes ≤ 140737488355328)
    (h : ∀ v1 w1, CRow E sz w1 base v1 (n + m) (xs ++ news) → Ext w w1 → Fresh w (.slice B n n) v1 → V v1 w1) : stepR P ops o a w V := by
  obtain ⟨i0, hi, hzz⟩ := Option.map_eq_some_iff.1 hinfo
  simp only [Prod.mk.injEq] at hzz
  obtain ⟨hz0, hz1, hz2⟩ := hzz
  obtain ⟨z, hz, hzc⟩ := Option.map_eq_some_iff.1 hz0
  obtain ⟨v1, w1, hr, h2, h3, h4⟩ := run_append_full (P := P) w base t o.type i0 z bytes ht hi hz hz1 hz2 hzc hsz B n xs A m c news HO HR hbase h63 hby
  have hw : Region.wanted o (yielded ops a.tmps) = true := by simp [Region.wanted, hgd]
  unfold stepR
  rw [if_pos hw]
  unfold execOp
  simp only [ho, resolve, invoke, builtin, Sem.run_bind, Sem.run_pure, Result.andThen_ok, List.map_toArray, List.map_cons, List.map_nil, hs, hx, hr]
  exact ⟨h3, h v1 w1 h2 h3 h4⟩
def IsG (base : Nat) (L : List Gp) (v : Value) (w : World) : Prop := GRow w base v L
theorem IsG.later (base : Nat) (L : List Gp) : ∀ v w w', IsG base L v w → Ext w w' → IsG base L v w' := fun v w w' h hx => GRow.ext h hx
/-- the row's end, as it is read -/
theorem GRow.tail {w : World} {base r c i : Nat} {L : List Gp} (h : GRow w base (.slice (some ⟨r, 0, none⟩) L.length c) L) (hi : i ≤ L.length) : ∃ T1, (if c = i then some (⟨r, 0, none⟩ : Addr) else some ⟨r, i * 4, none⟩) = some T1 ∧ Src w 4 (some T1) (L.length - i) (gcells (L.drop i)) := by
  obtain ⟨g, cur, hgr, hb, hg, hnc, hcs, hcm, hlen, htk⟩ := CRow.block h (by simp)
  simp only [Option.some.injEq, Addr.mk.injEq, and_true] at hgr
  subst hgr
  have hl : (gcells (L.drop i)).length = (L.length - i) * 4 := by rw [gcells_length, List.length_drop]
  by_cases hc : c = i
  · refine ⟨⟨r, 0, none⟩, by simp [hc], Src.at hl (fun j u hu => ?_) (gcells_one _)⟩
    have h0 : (gcells (L.drop i)).length = 0 := by rw [hl]; omega
    rw [List.eq_nil_of_length_eq_zero h0] at hu
    simp at hu
  · refine ⟨⟨r, i * 4, none⟩, by simp [hc], Src.at hl (fun j u hu => ?_) (gcells_one _)⟩
    have hj := (List.getElem?_eq_some_iff.1 hu).1
    rw [← gcells_drop, List.getElem?_drop] at hu
    rw [cell_of_row w r _ cur _ _ hg, ← hu, ← htk, List.getElem?_take, if_pos (by omega)]
    simp
end Go.Proofs.Ytdcbpnkcpglhhaa
