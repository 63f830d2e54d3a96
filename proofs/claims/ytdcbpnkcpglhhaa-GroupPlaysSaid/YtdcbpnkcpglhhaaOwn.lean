/- A body in pieces, each proved over a frame of which only some slots are known. -/
import Derived.Test.YtdcbpnkcpglhhaaProg
import Derived.WalkKit
namespace Go.Proofs.Ytdcbpnkcpglhhaa
open Go Go.RowKit

/-- a piece of a body: 0, 1: a sequence's; 2: a block's; 3: a loop's; 4, 5: a test's; 6: a scope's -/
def nav : List Nat → Code → Code
  | [], c => c
  | 0 :: p, .seq a _ => nav p a
  | 1 :: p, .seq _ b => nav p b
  | 2 :: p, .block _ c => nav p c
  | 3 :: p, .loop c => nav p c
  | 4 :: p, .cond _ t _ => nav p t
  | 5 :: p, .cond _ _ e => nav p e
  | 6 :: p, .scope c => nav p c
  | _, _ => .skip
/-- a slot's value -/
def G (a : Act) (i : Nat) : Value := a.tmps.getD i undef
theorem arr_all (a : Array Value) (n : Nat) (h : a.size = n) : a = ((List.range n).map fun i => a.getD i undef).toArray := by
  apply Array.ext
  · simp [h]
  · intro i h1 h2
    simp [Array.getD_eq_getD_getElem?, h1]
theorem act_all (a : Act) (n : Nat) (hd : a.defers = []) (h : a.tmps.size = n) : a = ⟨((List.range n).map fun i => G a i).toArray, []⟩ := by
  obtain ⟨t, d⟩ := a
  simp only at hd h
  subst hd
  congr 1
  exact arr_all t n h
end Go.Proofs.Ytdcbpnkcpglhhaa
