/- The law NetPlays: a round, the loop, the law. -/
import Derived.Test.YtbeoickdcbnjgaaNetP
import Derived.Test.YtbeoickdcbnjgaaNetQ
import Derived.Test.YtbeoickdcbnjgaaNetR
import Derived.Test.YtbeoickdcbnjgaaNetS
import Derived.Test.YtbeoickdcbnjgaaNetU
import Derived.Test.YtbeoickdcbnjgaaNetV
namespace Go.Proofs.Ytbeoickdcbnjgaa
open Go.RowKit
set_option linter.unusedVariables false
set_option linter.unusedSimpArgs false
attribute [local go_sem] stepR givesR fillE Ext.refl

section
variable {A : Option Addr} {n c : Nat} {x y : Int} {W : World} {g h : Nat}
theorem sw_any {j gx : Nat} {v : ActV} {k : Int} {t : Bool} {a : Act} {w : World} (hS : KS A n c x y W g h j gx v k t a w) (hj : j ≤ 60) (hkr : IntKind.i64.min ≤ k ∧ k ≤ IntKind.i64.max) (hok : ActOk W v) :
    Code.wp Try.prog (nav [1,1,1,1,0,1,2,3,1,0,2,1,1,1,1,1,0] theBody) (Norm (SwPost A n c x y W g h j gx (j + 1) v)) a w := by
  obtain ⟨hk, h10, h11, h12, hI⟩ := hS
  have hw2 : 0 ≤ v.what ∧ v.what ≤ 255 := ⟨hok.1, hok.2.1⟩
  rcases (show v.what % 8 < 3 ∨ (v.what % 8 = 3 ∨ v.what % 8 = 4) ∨ v.what % 8 = 5 ∨ v.what % 8 = 6 ∨ v.what % 8 = 7 by omega) with h' | h' | h' | h' | h'
  · exact sw_give hk h10 hI hj hok h' hw2
  · refine norm_mono (sw_take hk h10 h11 h12 hI h' hw2) ?_
    rintro a w ⟨h1, h2, m, L, h3, h4, h5⟩
    exact ⟨h1, h2, m, L, h3, by omega, h5⟩
  · exact sw_drop hk h10 h11 h12 hI hj hkr hok h' hw2
  · exact sw_double hk h10 h11 h12 hI hj hkr hok h' hw2
  · exact sw_part hk h10 h11 h12 hI hj hkr hok h' hw2
set_option maxRecDepth 1000000 in
theorem body_any {f : Nat → ActV} {j : Nat} {a : Act} {w : World} (hk : Kn A n c x y g h j a) (hS : Stand W g h none [] j w) (hA : Acts W A n f) (hj : j < n) (hn : n ≤ 60)
    (hxy : (IntKind.i64.min ≤ x ∧ x ≤ IntKind.i64.max) ∧ (IntKind.i64.min ≤ y ∧ y ≤ IntKind.i64.max)) :
    Code.wp Try.prog (nav [1,1,1,1,0,1,2,3,1,0,2] theBody) (Fin W (TailPost A n c x y W g h j (j + 1))) a w := by
  have hok : ActOk W (f j) := by
    obtain ⟨_, _, _, hact⟩ := hA (by omega)
    exact (hact j hj).2
  show Code.wp Try.prog (Code.seq (nav [1,1,1,1,0,1,2,3,1,0,2,0] theBody) (Code.seq (nav [1,1,1,1,0,1,2,3,1,0,2,1,0] theBody) (Code.seq (nav [1,1,1,1,0,1,2,3,1,0,2,1,1,0] theBody) (Code.seq (nav [1,1,1,1,0,1,2,3,1,0,2,1,1,1,0] theBody) (Code.seq (nav [1,1,1,1,0,1,2,3,1,0,2,1,1,1,1,0] theBody) (Code.seq (nav [1,1,1,1,0,1,2,3,1,0,2,1,1,1,1,1,0] theBody) (nav [1,1,1,1,0,1,2,3,1,0,2,1,1,1,1,1,1] theBody))))))) _ _ _
  refine seq_fin (norm_fin (hd_read hk hS hA hj) (fun _ _ h => h)) ?_
  rintro a w ⟨gx, hH⟩
  refine seq_fin (hd_long hH hok) ?_
  intro a w hH
  refine seq_fin (norm_fin (hd_num hH) (fun _ _ h => h)) ?_
  intro a w hH
  refine seq_fin (norm_fin (hd_rem hH hok.2.2.1 ⟨hok.1, hok.2.1⟩) (fun _ _ h => h)) ?_
  rintro a w ⟨k, hkr, hH⟩
  refine seq_fin (norm_fin (hd_in hH) (fun _ _ h => h)) ?_
  rintro a w ⟨t, hH⟩
  refine seq_fin (norm_fin (sw_any hH (by omega) hkr hok) (fun _ _ h => h)) ?_
  intro a w hH
  exact norm_fin (tail_any hH (by omega) hxy hok.2.2.2.2.1) (fun _ _ h => h)
def LI (A : Option Addr) (n c : Nat) (x y : Int) (W : World) (g h j : Nat) (a : Act) (w : World) : Prop := Kn A n c x y g h j a ∧ j ≤ n ∧ Stand W g h none [] j w
/-- a round of the great loop ends: the next; or all acts are played; or the answer is given -/
def RQ (W : World) (N K : Act → World → Prop) : Exit → Act → World → Prop
  | .normal, a, w => N a w
  | .exit i, a, w => i = 0 ∧ K a w
  | .ret, a, w => a.defers = [] ∧ a.tmps.size = 281 ∧ G a 6 = .bool true ∧ Ext W w
  | _, _, _ => False
set_option maxRecDepth 1000000 in
set_option maxHeartbeats 4000000 in
theorem lp_test {j : Nat} {a : Act} {w : World} (hI : LI A n c x y W g h j a w) : Code.wp Try.prog (nav [1,1,1,1,0,1,2,3,0] theBody) (RQ W (fun a w => LI A n c x y W g h j a w ∧ j < n) (LI A n c x y W g h n)) a w := by
  have HI := Lib.hid hI
  obtain ⟨hk, hj, hS⟩ := hI
  rw [act_281 a hk.d hk.s, hk.h0, hk.h9]
  clear hk hS
  conv => arg 2; whnf
  by_cases hlt : j < n
  · have hjn : (j : Int) < (n : Int) := by omega
    have HL := Lib.hid hlt
    clear hlt hj
    go_wp2_with fail
    obtain ⟨hk, hj, hS⟩ := HI.out
    exact ⟨⟨⟨rfl, rfl, rfl, hk.h1, hk.h2, hk.h7, hk.h8, rfl⟩, hj, hS⟩, HL.out⟩
  · obtain rfl : j = n := by omega
    have hjn : decide ((j : Int) < (j : Int)) = false := by simp
    clear hlt hj
    go_wp2_with fail
    obtain ⟨hk, hj, hS⟩ := HI.out
    exact ⟨rfl, ⟨rfl, rfl, rfl, hk.h1, hk.h2, hk.h7, hk.h8, rfl⟩, hj, hS⟩
set_option maxRecDepth 1000000 in
set_option maxHeartbeats 4000000 in
theorem lp_next {j : Nat} {a : Act} {w : World} (hT : TailPost A n c x y W g h j (j + 1) a w) (hj : j < n) (hn : n ≤ 60) : Code.wp Try.prog (nav [1,1,1,1,0,1,2,3,1,1] theBody) (Norm (LI A n c x y W g h (j + 1))) a w := by
  have HT := Lib.hid hT
  obtain ⟨hk, hS⟩ := hT
  have hw1 : IntKind.i64.wrap ((j : Int) + 1) = (j : Int) + 1 := IntWalk.i64_in _ (by omega)
  rw [act_281 a hk.d hk.s, hk.h9]
  have HL := Lib.hid hj
  clear hk hS hj hn
  conv => arg 2; whnf
  go_wp2_with fail
  obtain ⟨hk, hS⟩ := HT.out
  exact ⟨⟨rfl, rfl, hk.h0, hk.h1, hk.h2, hk.h7, hk.h8, rfl⟩, HL.out, hS⟩
set_option maxRecDepth 1000000 in
theorem lp_round {f : Nat → ActV} {j : Nat} {a : Act} {w : World} (hI : LI A n c x y W g h j a w) (hA : Acts W A n f) (hn : n ≤ 60)
    (hxy : (IntKind.i64.min ≤ x ∧ x ≤ IntKind.i64.max) ∧ (IntKind.i64.min ≤ y ∧ y ≤ IntKind.i64.max)) :
    Code.wp Try.prog (nav [1,1,1,1,0,1,2,3] theBody) (RQ W (fun a w => LI A n c x y W g h (j + 1) a w ∧ j < n) (LI A n c x y W g h n)) a w := by
  show Code.wp Try.prog (Code.seq (nav [1,1,1,1,0,1,2,3,0] theBody) (Code.seq (Code.block 1 (nav [1,1,1,1,0,1,2,3,1,0,2] theBody)) (nav [1,1,1,1,0,1,2,3,1,1] theBody))) _ _ _
  refine wp_seq (wp_mono (lp_test hI) ?_)
  intro e a w hr
  cases e with
  | normal =>
    obtain ⟨⟨hk, _, hS⟩, hlt⟩ := hr
    refine wp_seq (wp_block (wp_mono (body_any hk hS hA hlt hn hxy) ?_))
    intro e a w hr
    cases e with
    | normal =>
      refine wp_mono (lp_next hr hlt hn) ?_
      intro e a w hr
      cases e with
      | normal => exact ⟨hr, hlt⟩
      | _ => exact hr.elim
    | ret => exact hr
    | _ => exact hr.elim
  | exit i => exact hr
  | ret => exact hr
  | _ => exact hr.elim
set_option maxRecDepth 1000000 in
theorem lp_all {f : Nat → ActV} {a : Act} {w : World} (hI : LI A n c x y W g h 0 a w) (hA : Acts W A n f) (hn : n ≤ 60)
    (hxy : (IntKind.i64.min ≤ x ∧ x ≤ IntKind.i64.max) ∧ (IntKind.i64.min ≤ y ∧ y ≤ IntKind.i64.max)) :
    Code.wp Try.prog (nav [1,1,1,1,0,1] theBody) (Fin W (LI A n c x y W g h n)) a w := by
  show Code.wp Try.prog (Code.block 0 (Code.loop (nav [1,1,1,1,0,1,2,3] theBody))) _ _ _
  refine wp_block (wp_loop (fun a w => ∃ j, LI A n c x y W g h j a w) (fun a w => n - (intOf (G a 9)).toNat) ⟨0, hI⟩ ?_)
  rintro a w ⟨j, hI⟩
  refine wp_mono (lp_round hI hA hn hxy) ?_
  intro e a' w' hr
  cases e with
  | normal =>
    obtain ⟨hr, hlt⟩ := hr
    refine ⟨⟨j + 1, hr⟩, ?_⟩
    have h2 := hr.1.h9
    have h3 := hI.1.h9
    simp only [h2, h3, intOf]
    omega
  | exit id =>
    obtain ⟨rfl, hr⟩ := hr
    simp only [Exit.then, Exit.inBlock, if_true]
    exact hr
  | ret => exact hr
  | _ => exact hr.elim
end
set_option maxRecDepth 1000000 in
set_option maxHeartbeats 4000000 in
theorem netPlays_law (W : World) (A : Option Addr) (n c : Nat) (f : Nat → ActV) (ha : Acts W A n f ∧ n ≤ c ∧ c ≤ maxLen) (a : Int) (hwa : (Lit.int .i64 a).wf = true) (b : Int) (hwb : (Lit.int .i64 b).wf = true) :
    Calls Try.prog 3 #[.slice A n c, .int .i64 a, .int .i64 b] W (RetX (.bool true) W) := by
  have HA := Lib.hid ha
  have HAB : Hid ((IntKind.i64.min ≤ a ∧ a ≤ IntKind.i64.max) ∧ (IntKind.i64.min ≤ b ∧ b ≤ IntKind.i64.max)) := Lib.hid ⟨by simpa [Lit.wf] using hwa, by simpa [Lit.wf] using hwb⟩
  clear ha hwa hwb
  by_cases h60 : 60 < n
  · have h60' : (60 : Int) < (n : Int) := by omega
    go_enter Try.func3, Try.ntmps3
    go_wp2_with fail
    refine (known_any _).mono ?_
    rintro e w1 ⟨rfl, hx⟩
    go_wp2
    go_ret
    exact ⟨rfl, hx⟩
  have h60' : ((60 : Int) < (n : Int)) = False := by simp; omega
  have hn : n ≤ 60 := by omega
  have HN := Lib.hid hn
  clear hn h60
  go_enter Try.func3, Try.ntmps3
  obtain ⟨D, hD⟩ : ∃ D, nav [1,1,1,1,0,1] theBody = D := ⟨_, rfl⟩
  have hD2 := hD
  conv at hD2 => lhs; whnf
  rw [hD2]
  clear hD2
  go_wp2_with fail
  refine (known_any _).mono ?_
  rintro e w1 ⟨rfl, hx⟩
  go_wp2_with fail
  refine (new_any _).mono ?_
  rintro e w2 ⟨rfl, rfl⟩
  go_wp2_with fail
  rename_i K hK
  have D0 := duo_start hx
  rw [← hD]
  refine wp_mono (lp_all (g := w1.heap.size) (h := w1.heap.size + 1) ⟨⟨rfl, rfl, rfl, rfl, rfl, rfl, rfl, rfl⟩, Nat.zero_le _, 0, [], D0, Nat.le_refl _, by simp⟩ HA.out.1 HN.out HAB.out) ?_
  intro e a9 w9 hr
  cases e with
  | normal =>
    show K a9 w9
    refine hK _ _ ?_
    rw [act_281 a9 hr.1.d hr.1.s]
    have HR := Lib.hid hr
    clear hK hr
    go_wp2
    go_ret
    exact ⟨rfl, HR.out.2.2.low⟩
  | ret =>
    obtain ⟨h1, h2, h3, h4⟩ := hr
    show bodyPost _ _ _ .ret a9 w9
    rw [act_281 a9 h1 h2, h3]
    go_ret
    exact ⟨rfl, h4⟩
  | _ => exact hr.elim
end Go.Proofs.Ytbeoickdcbnjgaa
