/- QuorumMeet, walked. -/
import Derived.Test.YtkipdnleebcbmaaQI
namespace Go.Proofs.Ytkipdnleebcbmaa
open Go.RowKit
set_option linter.unusedVariables false
set_option linter.unusedSimpArgs false

def pB (a : Nat) (i : Nat) : Bool := bits BinOp.and IntKind.u16 ((a : Int) / 2 ^ i) 1 == 1
def anyB (f : Nat → Bool) : Nat → Bool
  | 0 => false
  | i + 1 => anyB f i || f i
theorem anyB_false {f : Nat → Bool} : ∀ {i j : Nat}, anyB f i = false → j < i → f j = false
  | 0, j, _, h => by omega
  | i + 1, j, h, hj => by
    simp only [anyB, Bool.or_eq_false_iff] at h
    rcases Nat.eq_or_lt_of_le (Nat.le_of_lt_succ hj) with e | e
    · exact e ▸ h.2
    · exact anyB_false h.1 e
theorem hasB_picks (p : Nat → Bool) (k : Nat) : hasB k (QP.picks p k) = decide (need k ≤ (List.range k).countP p) := by unfold hasB; rw [QP.hits_picks]
theorem meet_any (p q : Nat → Bool) (k : Nat) (h1 : hasB k (QP.picks p k) = true) (h2 : hasB k (QP.picks q k) = true) : anyB (fun i => p i && q i) k = true := by
  cases h : anyB (fun i => p i && q i) k with
  | true => rfl
  | false =>
    exfalso
    rw [hasB_picks] at h1 h2
    simp only [decide_eq_true_eq] at h1 h2
    have := QP.meet p q k (fun i hi hp hq => by
      have := anyB_false h hi
      simp [hp, hq] at this)
    unfold need at h1 h2
    omega
/-- where the law's loop stands -/
def Both (p q : Nat → Bool) (w wr : World) (x y : Value) (i : Nat) : Prop := OwnI wr w.heap.size x (QP.picks p i) ∧ OwnI wr w.heap.size y (QP.picks q i) ∧ Apart x y ∧ Ext w wr
theorem Both.ext {p q : Nat → Bool} {w wr w' : World} {x y : Value} {i : Nat} (h : Both p q w wr x y i) (hx : Ext wr w') : Both p q w w' x y i := ⟨h.1.ext hx, h.2.1.ext hx, h.2.2.1, h.2.2.2.trans hx⟩
theorem picks_yes {p : Nat → Bool} {i : Nat} (h : p i = true) : QP.picks p (i + 1) = QP.picks p i ++ [(i : Int)] := by rw [QP.picks_succ, if_pos h]
theorem picks_no {p : Nat → Bool} {i : Nat} (h : p i = false) : QP.picks p (i + 1) = QP.picks p i := by rw [QP.picks_succ, if_neg (by simp [h]), List.append_nil]
theorem cell_new (w : World) (v : Value) (T : TypeId) : (w.alloc (.cells #[v] T)).cell? ⟨w.heap.size, 0, none⟩ = some v := by
  rw [cell_of_row _ _ _ _ _ _ (heap_alloc_new w _)]; rfl
/-- half a step: x's row has grown -/
theorem grown_x {w wr w' : World} {x y x' : Value} {F F' G : List Int} (hx : OwnI wr w.heap.size x F) (hy : OwnI wr w.heap.size y G) (ha : Apart x y) (he : Ext w wr) (h1 : OwnI w' w.heap.size x' F') (h2 : wr.grownBy w' x.ownBlock) {m : Nat} (hm : wr.heap.size ≤ m) (h4 : x'.ownBlock = x.ownBlock ∨ x'.ownBlock = some m) :
    OwnI w' w.heap.size x' F' ∧ OwnI w' w.heap.size y G ∧ Apart x' y ∧ Ext w w' :=
  ⟨h1, hy.kept h2 (fun k hk e => ha k e hk), ha.fresh hy hm h4, he.grown h2 he.size (fun k hk => (World.ownsRow.lt hx k hk).1)⟩

set_option maxRecDepth 100000 in
set_option maxHeartbeats 1000000 in
theorem quorumMeet_law (n0 : Int) (hn0 : (Lit.int .u8 n0).wf = true) (a0 : Int) (ha0 : (Lit.int .u16 a0).wf = true) (b0 : Int) (hb0 : (Lit.int .u16 b0).wf = true) (w : World) : Calls Try.prog 4 #[.int .u8 n0, .int .u16 a0, .int .u16 b0] w (RetX (.bool true) w) := by
  have hn : 0 ≤ n0 ∧ n0 ≤ 255 := by simpa [Lit.wf, IntKind.min, IntKind.max, IntKind.signed, IntKind.bits] using hn0
  have ha : 0 ≤ a0 ∧ a0 ≤ 65535 := by simpa [Lit.wf, IntKind.min, IntKind.max, IntKind.signed, IntKind.bits] using ha0
  have hb : 0 ≤ b0 ∧ b0 ≤ 65535 := by simpa [Lit.wf, IntKind.min, IntKind.max, IntKind.signed, IntKind.bits] using hb0
  clear hn0 ha0 hb0
  obtain ⟨n, rfl⟩ := Int.eq_ofNat_of_zero_le hn.1
  obtain ⟨a, rfl⟩ := Int.eq_ofNat_of_zero_le ha.1
  obtain ⟨b, rfl⟩ := Int.eq_ofNat_of_zero_le hb.1
  obtain ⟨k, hk⟩ : ∃ k : Nat, (n : Int) % 7 + 1 = (k : Int) := ⟨n % 7 + 1, by omega⟩
  have hk1 : 1 ≤ k := by omega
  have hk7 : k ≤ 7 := by omega
  have hNK : nod (k : Int) = k := nod_small k hk1 hk7
  have HNK := Lib.hid hNK
  clear hNK
  go_enter Try.func4, Try.ntmps4
  go_wp2_with fail
  refine (known_any _).mono ?_; rintro e w1 ⟨rfl, hx⟩
  go_wp2_with fail
  clear hk
  have HB : Hid (Both (pB a) (pB b) w w1 (.slice none 0 0) (.slice none 0 0) 0) := Lib.hid ⟨OwnI.nil _ _, OwnI.nil _ _, fun k hk => by simp [Value.ownBlock] at hk, hx⟩
  clear hx
  go_loopw [8, 9, 10, 11] (fun x y t i wr => ∃ j : Nat, j ≤ k ∧ i = .int .i64 j ∧ t = .bool (anyB (fun i => pB a i && pB b i) j) ∧ Both (pB a) (pB b) w wr x y j) (fun _ _ _ i _ => k - (intOf i).toNat)
  case atStart => exact ⟨0, Nat.zero_le _, rfl, rfl, HB.out⟩
  case round =>
    clear HB
    obtain ⟨i, hi, rfl, rfl, hb0⟩ := hrel
    obtain ⟨T, hT⟩ : ∃ T, anyB (fun i => pB a i && pB b i) i = T := ⟨_, rfl⟩
    rw [hT]
    have HT := Lib.hid hT
    clear hT
    by_cases hlt : i < k
    · obtain ⟨p, hp⟩ : ∃ p, (bits BinOp.and IntKind.u16 ((a : Int) / 2 ^ i) 1 == 1) = p := ⟨_, rfl⟩
      obtain ⟨q, hq⟩ : ∃ q, (bits BinOp.and IntKind.u16 ((b : Int) / 2 ^ i) 1 == 1) = q := ⟨_, rfl⟩
      have HP : Hid (pB a i = p) := Lib.hid hp
      have HQ : Hid (pB b i = q) := Lib.hid hq
      have H0 := Lib.hid hb0
      clear hb0
      have hpl := QP.picks_length (pB a) i
      have hql := QP.picks_length (pB b) i
      cases T with
      | true =>
        cases p with
        | true =>
          cases q with
          | true =>
            go_wp2_with fail
            go_quiet (fail)
            have H2 := Lib.hid (H0.out.ext ((Ext.refl wr).drewN nq))
            clear H0
            generalize wr.drewN nq = w2 at *
            have S := Lib.hid (H2.out.ext ((Ext.refl w2).alloc (.cells #[.int .i64 (i : Int)] 3)))
            have hsz := S.out.2.2.2.size
            clear H2
            go_wp2_with (at_builtin; refine wpList_append_int rfl (.tmp 36) (.tmp 38) rfl w.heap.size u8 (QP.picks (pB a) i) (i : Int) rfl w2.heap.size 1 rfl (cell_new w2 _ _) S.out.1 (by omega) hsz ?next1)
            case next1 =>
              intro n' w3 g1 g2 g4
              rw [← picks_yes HP.out] at g1
              have R := Lib.hid (grown_x S.out.1 S.out.2.1 S.out.2.2.1 S.out.2.2.2 g1 g2 (by simp) g4)
              clear g1 g2 g4 hsz S
              have S := Lib.hid (And.intro (R.out.1.ext ((Ext.refl w3).alloc (.cells #[.int .i64 (i : Int)] 3))) (And.intro (R.out.2.1.ext ((Ext.refl w3).alloc (.cells #[.int .i64 (i : Int)] 3))) (And.intro R.out.2.2.1 (R.out.2.2.2.trans ((Ext.refl w3).alloc (.cells #[.int .i64 (i : Int)] 3))))))
              have hsz := S.out.2.2.2.size
              clear R
              go_wp2_with (at_builtin; refine wpList_append_int rfl (.tmp 41) (.tmp 43) rfl w.heap.size u9 (QP.picks (pB b) i) (i : Int) rfl w3.heap.size 1 rfl (cell_new w3 _ _) S.out.2.1 (by omega) hsz ?next2)
              case next2 =>
                intro n' w4 g1 g2 g4
                rw [← picks_yes HQ.out] at g1
                have R := Lib.hid (grown_x S.out.2.1 S.out.1 S.out.2.2.1.symm S.out.2.2.2 g1 g2 (by simp) g4)
                clear g1 g2 g4 hsz S
                go_wp2_with fail
                go_roundw
                case rel => exact ⟨i + 1, by omega, by go_num, by rw [anyB, HT.out, HP.out, HQ.out]; rfl, R.out.2.1, R.out.1, R.out.2.2.1.symm, R.out.2.2.2⟩
                case measure => simp [intOf]; omega
          | false =>
            go_wp2_with fail
            go_quiet (fail)
            have H2 := Lib.hid (H0.out.ext ((Ext.refl wr).drewN nq))
            clear H0
            generalize wr.drewN nq = w2 at *
            have S := Lib.hid (H2.out.ext ((Ext.refl w2).alloc (.cells #[.int .i64 (i : Int)] 3)))
            have hsz := S.out.2.2.2.size
            clear H2
            go_wp2_with (at_builtin; refine wpList_append_int rfl (.tmp 36) (.tmp 38) rfl w.heap.size u8 (QP.picks (pB a) i) (i : Int) rfl w2.heap.size 1 rfl (cell_new w2 _ _) S.out.1 (by omega) hsz ?next3)
            case next3 =>
              intro n' w3 g1 g2 g4
              rw [← picks_yes HP.out] at g1
              have R := Lib.hid (grown_x S.out.1 S.out.2.1 S.out.2.2.1 S.out.2.2.2 g1 g2 (by simp) g4)
              clear g1 g2 g4 hsz S
              go_wp2_with fail
              go_roundw
              case rel => exact ⟨i + 1, by omega, by go_num, by rw [anyB, HT.out, HP.out, HQ.out]; rfl, R.out.1, by rw [picks_no HQ.out]; exact R.out.2.1, R.out.2.2⟩
              case measure => simp [intOf]; omega
        | false =>
          cases q with
          | true =>
            go_wp2_with fail
            go_quiet (fail)
            have H2 := Lib.hid (H0.out.ext ((Ext.refl wr).drewN nq))
            clear H0
            generalize wr.drewN nq = w2 at *
            have S := Lib.hid (H2.out.ext ((Ext.refl w2).alloc (.cells #[.int .i64 (i : Int)] 3)))
            have hsz := S.out.2.2.2.size
            clear H2
            go_wp2_with (at_builtin; refine wpList_append_int rfl (.tmp 41) (.tmp 43) rfl w.heap.size u9 (QP.picks (pB b) i) (i : Int) rfl w2.heap.size 1 rfl (cell_new w2 _ _) S.out.2.1 (by omega) hsz ?next4)
            case next4 =>
              intro n' w3 g1 g2 g4
              rw [← picks_yes HQ.out] at g1
              have R := Lib.hid (grown_x S.out.2.1 S.out.1 S.out.2.2.1.symm S.out.2.2.2 g1 g2 (by simp) g4)
              clear g1 g2 g4 hsz S
              go_wp2_with fail
              go_roundw
              case rel => exact ⟨i + 1, by omega, by go_num, by rw [anyB, HT.out, HP.out, HQ.out]; rfl, by rw [picks_no HP.out]; exact R.out.2.1, R.out.1, R.out.2.2.1.symm, R.out.2.2.2⟩
              case measure => simp [intOf]; omega
          | false =>
            go_wp2_with fail
            go_quiet (fail)
            have H2 := Lib.hid (H0.out.ext ((Ext.refl wr).drewN nq))
            clear H0
            generalize wr.drewN nq = w2 at *
            go_wp2_with fail
            go_roundw
            case rel => exact ⟨i + 1, by omega, by go_num, by rw [anyB, HT.out, HP.out, HQ.out]; rfl, by rw [picks_no HP.out]; exact H2.out.1, by rw [picks_no HQ.out]; exact H2.out.2.1, H2.out.2.2⟩
            case measure => simp [intOf]; omega
      | false =>
        cases p with
        | true =>
          cases q with
          | true =>
            go_wp2_with fail
            go_quiet (fail)
            have H2 := Lib.hid (H0.out.ext ((Ext.refl wr).drewN nq))
            clear H0
            generalize wr.drewN nq = w2 at *
            have S := Lib.hid (H2.out.ext ((Ext.refl w2).alloc (.cells #[.int .i64 (i : Int)] 3)))
            have hsz := S.out.2.2.2.size
            clear H2
            go_wp2_with (at_builtin; refine wpList_append_int rfl (.tmp 36) (.tmp 38) rfl w.heap.size u8 (QP.picks (pB a) i) (i : Int) rfl w2.heap.size 1 rfl (cell_new w2 _ _) S.out.1 (by omega) hsz ?next5)
            case next5 =>
              intro n' w3 g1 g2 g4
              rw [← picks_yes HP.out] at g1
              have R := Lib.hid (grown_x S.out.1 S.out.2.1 S.out.2.2.1 S.out.2.2.2 g1 g2 (by simp) g4)
              clear g1 g2 g4 hsz S
              have S := Lib.hid (And.intro (R.out.1.ext ((Ext.refl w3).alloc (.cells #[.int .i64 (i : Int)] 3))) (And.intro (R.out.2.1.ext ((Ext.refl w3).alloc (.cells #[.int .i64 (i : Int)] 3))) (And.intro R.out.2.2.1 (R.out.2.2.2.trans ((Ext.refl w3).alloc (.cells #[.int .i64 (i : Int)] 3))))))
              have hsz := S.out.2.2.2.size
              clear R
              go_wp2_with (at_builtin; refine wpList_append_int rfl (.tmp 41) (.tmp 43) rfl w.heap.size u9 (QP.picks (pB b) i) (i : Int) rfl w3.heap.size 1 rfl (cell_new w3 _ _) S.out.2.1 (by omega) hsz ?next6)
              case next6 =>
                intro n' w4 g1 g2 g4
                rw [← picks_yes HQ.out] at g1
                have R := Lib.hid (grown_x S.out.2.1 S.out.1 S.out.2.2.1.symm S.out.2.2.2 g1 g2 (by simp) g4)
                clear g1 g2 g4 hsz S
                go_wp2_with fail
                go_roundw
                case rel => exact ⟨i + 1, by omega, by go_num, by rw [anyB, HT.out, HP.out, HQ.out]; rfl, R.out.2.1, R.out.1, R.out.2.2.1.symm, R.out.2.2.2⟩
                case measure => simp [intOf]; omega
          | false =>
            go_wp2_with fail
            go_quiet (fail)
            have H2 := Lib.hid (H0.out.ext ((Ext.refl wr).drewN nq))
            clear H0
            generalize wr.drewN nq = w2 at *
            have S := Lib.hid (H2.out.ext ((Ext.refl w2).alloc (.cells #[.int .i64 (i : Int)] 3)))
            have hsz := S.out.2.2.2.size
            clear H2
            go_wp2_with (at_builtin; refine wpList_append_int rfl (.tmp 36) (.tmp 38) rfl w.heap.size u8 (QP.picks (pB a) i) (i : Int) rfl w2.heap.size 1 rfl (cell_new w2 _ _) S.out.1 (by omega) hsz ?next7)
            case next7 =>
              intro n' w3 g1 g2 g4
              rw [← picks_yes HP.out] at g1
              have R := Lib.hid (grown_x S.out.1 S.out.2.1 S.out.2.2.1 S.out.2.2.2 g1 g2 (by simp) g4)
              clear g1 g2 g4 hsz S
              go_wp2_with fail
              go_roundw
              case rel => exact ⟨i + 1, by omega, by go_num, by rw [anyB, HT.out, HP.out, HQ.out]; rfl, R.out.1, by rw [picks_no HQ.out]; exact R.out.2.1, R.out.2.2⟩
              case measure => simp [intOf]; omega
        | false =>
          cases q with
          | true =>
            go_wp2_with fail
            go_quiet (fail)
            have H2 := Lib.hid (H0.out.ext ((Ext.refl wr).drewN nq))
            clear H0
            generalize wr.drewN nq = w2 at *
            have S := Lib.hid (H2.out.ext ((Ext.refl w2).alloc (.cells #[.int .i64 (i : Int)] 3)))
            have hsz := S.out.2.2.2.size
            clear H2
            go_wp2_with (at_builtin; refine wpList_append_int rfl (.tmp 41) (.tmp 43) rfl w.heap.size u9 (QP.picks (pB b) i) (i : Int) rfl w2.heap.size 1 rfl (cell_new w2 _ _) S.out.2.1 (by omega) hsz ?next8)
            case next8 =>
              intro n' w3 g1 g2 g4
              rw [← picks_yes HQ.out] at g1
              have R := Lib.hid (grown_x S.out.2.1 S.out.1 S.out.2.2.1.symm S.out.2.2.2 g1 g2 (by simp) g4)
              clear g1 g2 g4 hsz S
              go_wp2_with fail
              go_roundw
              case rel => exact ⟨i + 1, by omega, by go_num, by rw [anyB, HT.out, HP.out, HQ.out]; rfl, by rw [picks_no HP.out]; exact R.out.2.1, R.out.1, R.out.2.2.1.symm, R.out.2.2.2⟩
              case measure => simp [intOf]; omega
          | false =>
            go_wp2_with fail
            go_quiet (fail)
            have H2 := Lib.hid (H0.out.ext ((Ext.refl wr).drewN nq))
            clear H0
            generalize wr.drewN nq = w2 at *
            go_wp2_with fail
            go_roundw
            case rel => exact ⟨i + 1, by omega, by go_num, by rw [anyB, HT.out, HP.out, HQ.out]; rfl, by rw [picks_no HP.out]; exact H2.out.1, by rw [picks_no HQ.out]; exact H2.out.2.1, H2.out.2.2⟩
            case measure => simp [intOf]; omega
    · obtain rfl : i = k := by omega
      have hNK := HNK.out
      have hm := meet_any (pB a) (pB b) i
      rw [HT.out] at hm
      obtain ⟨o1, o2, ap, hx⟩ := hb0
      obtain ⟨A1, c1, rfl, l1, m1, r1⟩ := o1.form
      obtain ⟨A2, c2, rfl, l2, m2, r2⟩ := o2.form
      have q1 := QP.picks_length (pB a) i
      have q2 := QP.picks_length (pB b) i
      obtain ⟨X, hX⟩ : ∃ X, hasB i (QP.picks (pB a) i) = X := ⟨_, rfl⟩
      obtain ⟨Y, hY⟩ : ∃ Y, hasB i (QP.picks (pB b) i) = Y := ⟨_, rfl⟩
      have H1 : Hid (∀ w', Ext wr w' → Calls Try.prog 10 #[.int .i64 i, .slice A1 (QP.picks (pB a) i).length c1] w' (RetS (.bool X) w')) := Lib.hid (fun w' hw' => by
        have := has_any (i : Int) A1 _ c1 _ w' (r1.ext hw') (by omega)
        rwa [hNK, hX] at this)
      have H2 : Hid (∀ w', Ext wr w' → Calls Try.prog 10 #[.int .i64 i, .slice A2 (QP.picks (pB b) i).length c2] w' (RetS (.bool Y) w')) := Lib.hid (fun w' hw' => by
        have := has_any (i : Int) A2 _ c2 _ w' (r2.ext hw') (by omega)
        rwa [hNK, hY] at this)
      rw [hX, hY] at hm
      clear hX hY o1 o2 ap l1 m1 r1 l2 m2 r2 q1 q2 hNK HT
      cases X with
      | false =>
        go_wp2_with fail
        refine (H1.out _ (Ext.refl _)).mono ?_; rintro e w2 ⟨rfl, rfl⟩
        go_wp2
        go_ret
        exact ⟨rfl, hx⟩
      | true =>
        cases Y with
        | false =>
          go_wp2_with fail
          refine (H1.out _ (Ext.refl _)).mono ?_; rintro e w2 ⟨rfl, rfl⟩
          go_wp2_with fail
          refine (H2.out _ (Ext.refl _)).mono ?_; rintro e w2 ⟨rfl, rfl⟩
          go_wp2
          go_ret
          exact ⟨rfl, hx⟩
        | true =>
          obtain rfl : T = true := hm rfl rfl
          clear hm
          go_wp2_with fail
          refine (H1.out _ (Ext.refl _)).mono ?_; rintro e w2 ⟨rfl, rfl⟩
          go_wp2_with fail
          refine (H2.out _ (Ext.refl _)).mono ?_; rintro e w2 ⟨rfl, rfl⟩
          go_wp2
          go_ret
          exact ⟨rfl, hx⟩
end Go.Proofs.Ytkipdnleebcbmaa
