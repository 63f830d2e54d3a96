/- slices.Insert of one element, at elements of 4 cells. -/
import Derived.Test.YtdcbpnkcpglhhaaGrpDel
import Derived.Lib.Overlaps
import Derived.Lib.AppendZerosOnto
import Derived.Lib.AppendZeros
import Derived.Laws.CopyRow
import Derived.Laws.Externs
import Derived.Laws.NewBlocks
import Derived.WalkKit
import Derived.Lib.Walk
import Derived.Lib.SliceRun
import Derived.Lib.JoinLaws
namespace Go.Proofs.Ytdcbpnkcpglhhaa
open Go.RowKit
set_option linter.unusedVariables false
set_option linter.unusedSimpArgs false

theorem run_copy_crow {P : Program} (w : World) (dT sT ty elem : TypeId) (g o dLen dCap : Nat) (a : Addr) (sLen sCap sz : Nat) (cur : Array Value) (t : TypeId) (cs : List Value)
    (hu : P.underlying dT = some (.slice elem)) (hs : (P.info? elem).map (·.size) = some sz)
    (hg : w.heap[g]? = some (.cells cur t (0, 0))) (hn : cs.length = Nat.min sLen dLen * sz)
    (hsrc : ∀ j v, cs[j]? = some v → w.cell? (a.add j) = some v) (hfit : o + cs.length ≤ cur.size) (h1 : ∀ v ∈ cs, v.oneCell' = true) :
    (Builtin.copy_ #[dT, sT] ty #[.slice (some ⟨g, o, none⟩) dLen dCap, .slice (some a) sLen sCap]).run P w =
      .ok (goInt (Nat.min sLen dLen)) (w.setRow g (cur.toList.take o ++ cs ++ cur.toList.drop (o + cs.length)).toArray) := by
  have hl := run_firstCells_some (P := P) w sz (Nat.min sLen dLen) a sLen sCap cs hn hsrc
  have hst := run_storeCells_at P g o t cs 0 cur w hg (by simpa using hfit) h1
  cases hq : P.info? elem with
  | none => simp [hq] at hs
  | some i =>
    have hi : i.size = sz := by simpa [hq] using hs
    simp [Builtin.copy_, run_underlying hu, Builtin.lenOf, sizeOf, typeInfo, hq, hi, hl, hst]
theorem wpList_copy_run {P : Program} (w : World) {ops : Array Oper} {rest : List Oper} {o : Oper} {a : Act} {Q : Exit → Act → World → Prop} (hgd : o.guard = none) (d s : Operand) (t t' : TypeId)
    (ho : o.op = .call { callee := .builtin .copy, args := #[d, s], argTypes := #[t, t'] }) (v u : Value) (hd : a.eval d = v) (hs : a.eval s = u) {v' : Value} {w' : World}
    (hr : (Builtin.copy_ #[t, t'] o.type #[v, u]).run P w = .ok v' w') (h : wpList P ops Q rest (a.put o.dst v') w') : wpList P ops Q (o :: rest) a w := by
  refine wpList_plain hgd fun K hK => ?_
  unfold Oper.wp execOp
  simp only [ho, resolve, invoke, builtin, Sem.run_bind, Sem.run_pure, Result.andThen_ok, List.map_toArray, List.map_cons, List.map_nil, hd, hs, hr]
  exact hK _ _ h
theorem step_copy_run {P : Program} {ops : Array Oper} {o : Oper} {a : Act} {w : World} {K : Act → World → Prop} {Q : Exit → Act → World → Prop} {F : Prop} (hgd : o.guard = none) (d s : Operand) (t t' : TypeId)
    (ho : o.op = .call { callee := .builtin .copy, args := #[d, s], argTypes := #[t, t'] }) (v u : Value) (hd : a.eval d = v) (hs : a.eval s = u) {v' : Value} {w' : World}
    (hr : (Builtin.copy_ #[t, t'] o.type #[v, u]).run P w = .ok v' w') (h : K (a.put o.dst v') w') : if Region.wanted o (yielded ops a.tmps) = true then Oper.wp P o a w K Q else F := by
  have hw : Region.wanted o (yielded ops a.tmps) = true := by simp [Region.wanted, hgd]
  rw [if_pos hw]
  unfold Oper.wp execOp
  simp only [ho, resolve, invoke, builtin, Sem.run_bind, Sem.run_pure, Result.andThen_ok, List.map_toArray, List.map_cons, List.map_nil, hd, hs, hr]
  exact h

def InsPost (w : World) (base : Nat) (v : Value) (n i : Nat) (cs vs : List Value) (e : Ending) (w' : World) : Prop :=
  ∃ v', e = .returned v' ∧ CRow 36 4 w' base v' (n + 1) (cs.take (i * 4) ++ vs ++ cs.drop (i * 4)) ∧ Chg (fun k => some k = v.ownBlock) w w' ∧ Fresh w v v'
set_option maxRecDepth 100000 in
set_option maxHeartbeats 1000000 in
/-- at the end -/
theorem insert_end (w : World) (A : Option Addr) (n c base vb vc : Nat) (cs vs : List Value) (h : CRow 36 4 w base (.slice A n c) n cs) (hbase : base ≤ w.heap.size) (hn : n ≤ 1000)
    (hv : w.heap[vb]? = some (.cells vs.toArray 36 (0, 0))) (hvl : vs.length = 4) (hvo : ∀ u ∈ vs, u.oneCell' = true) :
    Calls Try.prog 41 #[.slice A n c, .int .i64 n, .slice (some ⟨vb, 0, none⟩) 1 vc] w (InsPost w base (.slice A n c) n n cs vs) := by
  have hmm : (1001 : Nat) ≤ maxLen := by decide
  have hlen := h.length
  have hsrc : Src w 4 (some ⟨vb, 0, none⟩) 1 vs := Src.at (by omega) (fun j u hu => by rw [Nat.zero_add, cell_of_row w vb j _ _ _ hv]; simpa using hu) hvo
  have HS := Lib.hid hsrc
  have hfin : ∀ v1 w1, CRow 36 4 w1 base v1 (n + 1) (cs ++ vs) → w.grownBy w1 (Value.slice A n c).ownBlock → Fresh w (.slice A n c) v1 → InsPost w base (.slice A n c) n n cs vs (.returned v1) w1 := by
    intro v1 w1 h1 h2 h3
    refine ⟨v1, rfl, ?_, (Chg.of_grown h2).mono fun k _ e => e, h3⟩
    rw [List.take_of_length_le (by omega), List.drop_of_length_le (by omega), List.append_nil]
    exact h1
  have HF := Lib.hid hfin
  have hncc : (n : Int) ≤ (c : Int) := by
    rcases h with ⟨h', _, _⟩ | ⟨_, _, _, h', _, _, hl, _⟩
    · injection h' with h1 h2 h3; omega
    · injection h' with h1 h2 h3; omega
  have H := Lib.hid h
  clear hsrc hfin hv hvo hlen hvl
  rcases A with _ | a
  · have h0 : n = 0 ∧ c = 0 := by
      rcases h with ⟨h', _, _⟩ | ⟨_, _, _, h', _⟩
      · injection h' with h1 h2 h3; exact ⟨h2, h3⟩
      · injection h' with h1 h2 h3; cases h1
    obtain ⟨rfl, rfl⟩ := h0
    clear h
    go_enter Try.func41, Try.ntmps41
    go_wp2_with (at_builtin; refine wpList_append_crow rfl base (.tmp 23) (.tmp 24) 39 rfl Try.underlying39 48 infoE (by omega) (.slice none 0 0) 0 cs vs (some ⟨vb, 0, none⟩) 1 vc rfl rfl H.out HS.out hbase (by omega) (by omega) ?next)
    case next =>
      intro v1 w1 h1 h2 h3
      have H1 := Lib.hid (HF.out v1 w1 h1 h2 h3)
      clear h1 h2 h3
      go_wp2_with fail
      go_ret
      exact H1.out
  · obtain ⟨r, cur, hr, _⟩ := h.block (by simp)
    obtain rfl : a = ⟨r, 0, none⟩ := by simpa using hr
    clear h hr
    by_cases hcn : c = n
    · subst hcn
      go_enter Try.func41, Try.ntmps41
      go_wp2_with (at_builtin; refine wpList_append_crow rfl base (.tmp 23) (.tmp 24) 39 rfl Try.underlying39 48 infoE (by omega) (.slice (some ⟨r, 0, none⟩) c c) c cs vs (some ⟨vb, 0, none⟩) 1 vc rfl rfl H.out HS.out hbase (by omega) (by omega) ?next)
      case next =>
        intro v1 w1 h1 h2 h3
        have H1 := Lib.hid (HF.out v1 w1 h1 h2 h3)
        clear h1 h2 h3
        go_wp2_with fail
        go_ret
        exact H1.out
    · go_enter Try.func41, Try.ntmps41
      go_wp2_with (at_builtin; refine wpList_append_crow rfl base (.tmp 23) (.tmp 24) 39 rfl Try.underlying39 48 infoE (by omega) (.slice (some ⟨r, 0, none⟩) n c) n cs vs (some ⟨vb, 0, none⟩) 1 vc rfl rfl H.out HS.out hbase (by omega) (by omega) ?next)
      case next =>
        intro v1 w1 h1 h2 h3
        have H1 := Lib.hid (HF.out v1 w1 h1 h2 h3)
        clear h1 h2 h3
        go_wp2_with fail
        go_ret
        exact H1.out
end Go.Proofs.Ytdcbpnkcpglhhaa
