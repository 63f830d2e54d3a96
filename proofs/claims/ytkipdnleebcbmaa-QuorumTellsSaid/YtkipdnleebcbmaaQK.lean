/- QuorumSure, walked. -/
import Derived.Test.YtkipdnleebcbmaaQJ
namespace Go.Proofs.Ytkipdnleebcbmaa
open Go.RowKit
set_option linter.unusedVariables false
set_option linter.unusedSimpArgs false

/-- bytes that came -/
def U8s (w : World) (A : Option Addr) (n : Nat) (zs : List Int) : Prop :=
  zs.length = n ∧ (∀ z ∈ zs, 0 ≤ z ∧ z ≤ 255) ∧ (0 < n → ∃ b off, A = some ⟨b, off, none⟩ ∧ ∀ j, j < n → w.cell? ⟨b, off + j, none⟩ = some (.int .u8 (zs.getD j 0)))
theorem u8_get {zs : List Int} (h : ∀ z ∈ zs, 0 ≤ z ∧ z ≤ 255) (j : Nat) : 0 ≤ zs.getD j 0 ∧ zs.getD j 0 ≤ 255 := by
  rw [List.getD_eq_getElem?_getD]
  by_cases hj : j < zs.length
  · rw [List.getElem?_eq_getElem hj]; exact h _ (List.getElem_mem hj)
  · rw [List.getElem?_eq_none (by omega)]; simp
def heads (zs : List Int) (k : Nat) : List Int := (List.range k).map fun i => zs.getD i 0
theorem heads_length (zs : List Int) (k : Nat) : (heads zs k).length = k := by simp [heads]
theorem heads_succ (zs : List Int) (k : Nat) : heads zs (k + 1) = heads zs k ++ [zs.getD k 0] := by simp [heads, List.range_succ]
theorem heads_get (zs : List Int) (k i : Nat) (hi : i < k) : (heads zs k).getD i 0 = zs.getD i 0 := by
  rw [List.getD_eq_getElem?_getD, List.getElem?_eq_getElem (by simpa [heads] using hi)]
  simp [heads]
def farP (zs : List Int) (s : Int) (i : Nat) : Bool := decide (s ≤ zs.getD i 0)
def beyP (zs : List Int) (s : Int) (i : Nat) : Bool := decide (s < zs.getD i 0)
theorem sure_far (zs : List Int) (k : Nat) (hk : 1 ≤ k) (h : ∀ z ∈ zs, 0 ≤ z ∧ z ≤ 255) (s : Int) (hs : s = QP.nth (QP.padded k (heads zs k)) (need k)) :
    hasB k (QP.picks (farP zs s) k) = true ∧ hasB k (QP.picks (beyP zs s) k) = false := by
  unfold farP beyP
  have e : QP.padded k (heads zs k) = heads zs k := QP.padded_self (fun i => zs.getD i 0) (fun i => (u8_get h i).1) k
  rw [e] at hs
  have hn := need_range hk
  have hi := fun t => QP.nth_iff t (heads zs k) (need k) hn.1 (by rw [heads_length]; exact hn.2)
  have c1 : ∀ t, QP.cnt t (heads zs k) = (List.range k).countP fun i => decide (t ≤ zs.getD i 0) := fun t => QP.cnt_range (fun i => zs.getD i 0) t k
  constructor
  · rw [hasB_picks]
    have := (hi s).1 (by rw [hs]; exact Int.le_refl _)
    rw [c1] at this
    simpa using this
  · rw [hasB_picks]
    have e2 : (fun i : Nat => decide (s < zs.getD i 0)) = fun i => decide (s + 1 ≤ zs.getD i 0) := by
      funext i; rw [Bool.eq_iff_iff]; simp; omega
    rw [e2, ← c1]
    have := mt (hi (s + 1)).2 (by rw [← hs]; omega)
    simpa using this

set_option maxRecDepth 100000 in
set_option maxHeartbeats 1000000 in
theorem quorumSure_law (w : World) (n0 : Int) (hn0 : (Lit.int .u8 n0).wf = true) (A : Option Addr) (l c : Nat) (zs : List Int) (hz : U8s w A l zs ∧ l ≤ c ∧ c ≤ maxLen) : Calls Try.prog 5 #[.int .u8 n0, .slice A l c] w (RetX (.bool true) w) := by
  have hn : 0 ≤ n0 ∧ n0 ≤ 255 := by simpa [Lit.wf, IntKind.min, IntKind.max, IntKind.signed, IntKind.bits] using hn0
  clear hn0
  obtain ⟨n, rfl⟩ := Int.eq_ofNat_of_zero_le hn.1
  obtain ⟨k, hk⟩ : ∃ k : Nat, (n : Int) % 7 + 1 = (k : Int) := ⟨n % 7 + 1, by omega⟩
  have hk1 : 1 ≤ k := by omega
  have hk7 : k ≤ 7 := by omega
  have hNK : nod (k : Int) = k := nod_small k hk1 hk7
  have HNK := Lib.hid hNK
  have HZ := Lib.hid hz
  clear hNK hz
  by_cases hlk : l < k
  · have hlk' : (l : Int) < (k : Int) := by omega
    go_enter Try.func5, Try.ntmps5
    go_wp2_with fail
    refine (known_any _).mono ?_; rintro e w1 ⟨rfl, hx⟩
    go_wp2
    go_ret
    exact ⟨rfl, hx⟩
  have hlk' : ((l : Int) < (k : Int)) = False := by simp; omega
  go_enter Try.func5, Try.ntmps5
  go_wp2_with fail
  refine (known_any _).mono ?_; rintro e w1 ⟨rfl, hx⟩
  go_wp2_with fail
  clear hk
  obtain ⟨b, off, rfl, hcell⟩ := HZ.out.1.2.2 (by omega)
  have HC := Lib.hid hcell
  clear hcell
  go_loopw [6, 9] (fun v i wr => ∃ j : Nat, j ≤ k ∧ i = .int .i64 j ∧ OwnI wr w.heap.size v (heads zs j) ∧ Ext w wr) (fun _ i _ => k - (intOf i).toNat)
  case atStart => exact ⟨0, Nat.zero_le _, rfl, OwnI.nil _ _, hx⟩
  case round =>
    clear hx
    obtain ⟨i, hi, rfl, hown, hx⟩ := hrel
    by_cases hlt : i < k
    · have e0 := hx.cell (HC.out i (by omega))
      have hxr := u8_get HZ.out.1.2.1 i
      have hs := heads_succ zs i
      obtain ⟨x, hxe⟩ : ∃ x, zs.getD i 0 = x := ⟨_, rfl⟩
      rw [hxe] at e0 hxr hs
      have HS := Lib.hid hs
      have hil : (i : Int) < (l : Int) := by omega
      have hin : ((i : Int) < 0) = False := by simp
      have hik : (i : Int) < (k : Int) := by omega
      have o1 := hown.ext ((Ext.refl wr).alloc (.cells #[.int .i64 x] 3))
      have hx2 := hx.alloc (.cells #[.int .i64 x] 3)
      have O1 := Lib.hid o1
      have hsz := hx2.size
      have hhl := heads_length zs i
      clear hs hxe hown o1
      go_wp2_with (at_builtin; refine wpList_append_int rfl (.tmp 27) (.tmp 33) rfl w.heap.size u6 (heads zs i) x rfl wr.heap.size 1 rfl (cell_new wr _ _) O1.out (by omega) hsz ?next)
      case next =>
        intro v' w' g1 g2 g4
        rw [← HS.out] at g1
        have hx3 : Ext w w' := hx2.grown g2 hx2.size (fun q hq => (World.ownsRow.lt O1.out q hq).1)
        have G1 := Lib.hid g1
        clear g1 g2 g4 hx2 hx O1 hsz hhl e0
        go_wp2_with fail
        go_roundw
        case rel => exact ⟨i + 1, by omega, by go_num, G1.out, hx3⟩
        case measure => simp [intOf]; omega
    · obtain rfl : i = k := by omega
      obtain ⟨A1, c1, rfl, l1, m1, r1⟩ := hown.form
      rw [heads_length] at l1 r1 ⊢
      have hSU := sure_any (i : Int) A1 i c1 (heads zs i) wr r1 l1 m1
      rw [HNK.out] at hSU
      obtain ⟨s, hs⟩ : ∃ s, s = QP.nth (QP.padded i (heads zs i)) (need i) := ⟨_, rfl⟩
      rw [← hs] at hSU
      have HF := Lib.hid (sure_far zs i hk1 HZ.out.1.2.1 s hs)
      clear hs hown
      go_wp2_with fail
      refine hSU.mono ?_
      rintro e w3 ⟨rfl, h3⟩
      have R3 := Lib.hid (r1.ext h3)
      replace hx := hx.trans h3
      clear hSU h3 r1
      go_wp2_with fail
      obtain ⟨b1, o1, rfl, hc1⟩ := R3.out.2 (by omega)
      have HR1 : Hid (∀ j, j < i → w3.cell? ⟨b1, o1 + j, none⟩ = some (.int .i64 (zs.getD j 0))) := Lib.hid (fun j hj => by rw [hc1 j hj, heads_get zs i j hj])
      have HB : Hid (Both (farP zs s) (beyP zs s) w3 w3 (.slice none 0 0) (.slice none 0 0) 0) := Lib.hid ⟨OwnI.nil _ _, OwnI.nil _ _, fun k hk => by simp [Value.ownBlock] at hk, Ext.refl _⟩
      have HXX := Lib.hid hx
      clear hx hc1 R3
      go_loopw [7, 8, 11] (fun x y t wr => ∃ j : Nat, j ≤ i ∧ t = .int .i64 j ∧ Both (farP zs s) (beyP zs s) w3 wr x y j) (fun _ _ t _ => i - (intOf t).toNat)
      case atStart => exact ⟨0, Nat.zero_le _, rfl, HB.out⟩
      case round =>
        clear HB
        obtain ⟨j, hj, rfl, hb0⟩ := hrel
        have H0 := Lib.hid hb0
        clear hb0
        have hpl := QP.picks_length (farP zs s) j
        have hql := QP.picks_length (beyP zs s) j
        by_cases hjt : j < i
        · have hji : (j : Int) < (i : Int) := by omega
          have hjn : ((j : Int) < 0) = False := by simp
          have e0 := H0.out.2.2.2.cell (HR1.out j hjt)
          obtain ⟨x, hxe⟩ : ∃ x, zs.getD j 0 = x := ⟨_, rfl⟩
          rw [hxe] at e0
          have HX := Lib.hid hxe
          clear hxe
          rcases Int.lt_trichotomy x s with hxs | hxs | hxs
          · have hxs' : (s ≤ x) = False := by simp; omega
            have hxs2 : (s < x) = False := by simp; omega
            have HP : Hid ((farP zs s) j = false) := Lib.hid (by show decide (s ≤ zs.getD j 0) = false; rw [HX.out]; simp; omega)
            have HQ : Hid ((beyP zs s) j = false) := Lib.hid (by show decide (s < zs.getD j 0) = false; rw [HX.out]; simp; omega)
            go_wp2_with fail
            go_roundw
            case rel => exact ⟨j + 1, by omega, by go_num, by rw [picks_no (p := farP zs s) HP.out]; exact H0.out.1, by rw [picks_no (p := beyP zs s) HQ.out]; exact H0.out.2.1, H0.out.2.2⟩
            case measure => simp [intOf]; omega
          · subst hxs
            have HP : Hid ((farP zs x) j = true) := Lib.hid (by show decide (x ≤ zs.getD j 0) = true; rw [HX.out]; simp)
            have HQ : Hid ((beyP zs x) j = false) := Lib.hid (by show decide (x < zs.getD j 0) = false; rw [HX.out]; simp)
            have S := Lib.hid (H0.out.ext ((Ext.refl wr).alloc (.cells #[.int .i64 (j : Int)] 3)))
            have hsz := S.out.2.2.2.size
            clear H0
            go_wp2_with (at_builtin; refine wpList_append_int rfl (.tmp 49) (.tmp 51) rfl w3.heap.size u7 (QP.picks (farP zs x) j) (j : Int) rfl wr.heap.size 1 rfl (cell_new wr _ _) S.out.1 (by omega) hsz ?nx1)
            case nx1 =>
              intro n' w9 g1 g2 g4
              rw [← picks_yes (p := farP zs x) HP.out] at g1
              have R := Lib.hid (grown_x S.out.1 S.out.2.1 S.out.2.2.1 S.out.2.2.2 g1 g2 (by simp) g4)
              clear g1 g2 g4 hsz S
              have e0 := R.out.2.2.2.cell (HR1.out j (by omega))
              rw [HX.out] at e0
              go_wp2_with fail
              go_roundw
              case rel => exact ⟨j + 1, by omega, by go_num, R.out.1, by rw [picks_no (p := beyP zs x) HQ.out]; exact R.out.2.1, R.out.2.2⟩
              case measure => simp [intOf]; omega
          · have hxs' : s ≤ x := by omega
            have HP : Hid ((farP zs s) j = true) := Lib.hid (by show decide (s ≤ zs.getD j 0) = true; rw [HX.out]; simp; omega)
            have HQ : Hid ((beyP zs s) j = true) := Lib.hid (by show decide (s < zs.getD j 0) = true; rw [HX.out]; simp; omega)
            have S := Lib.hid (H0.out.ext ((Ext.refl wr).alloc (.cells #[.int .i64 (j : Int)] 3)))
            have hsz := S.out.2.2.2.size
            clear H0
            go_wp2_with (at_builtin; refine wpList_append_int rfl (.tmp 49) (.tmp 51) rfl w3.heap.size u7 (QP.picks (farP zs s) j) (j : Int) rfl wr.heap.size 1 rfl (cell_new wr _ _) S.out.1 (by omega) hsz ?nx2)
            case nx2 =>
              intro n' w9 g1 g2 g4
              rw [← picks_yes (p := farP zs s) HP.out] at g1
              have R := Lib.hid (grown_x S.out.1 S.out.2.1 S.out.2.2.1 S.out.2.2.2 g1 g2 (by simp) g4)
              clear g1 g2 g4 hsz S
              have e0 := R.out.2.2.2.cell (HR1.out j (by omega))
              rw [HX.out] at e0
              generalize w9 = w10 at *
              have S := Lib.hid (And.intro (R.out.1.ext ((Ext.refl w10).alloc (.cells #[.int .i64 (j : Int)] 3))) (And.intro (R.out.2.1.ext ((Ext.refl w10).alloc (.cells #[.int .i64 (j : Int)] 3))) (And.intro R.out.2.2.1 (R.out.2.2.2.trans ((Ext.refl w10).alloc (.cells #[.int .i64 (j : Int)] 3))))))
              have hsz := S.out.2.2.2.size
              clear R
              go_wp2_with (at_builtin; refine wpList_append_int rfl (.tmp 59) (.tmp 61) rfl w3.heap.size u8 (QP.picks (beyP zs s) j) (j : Int) rfl w10.heap.size 1 rfl (cell_new w10 _ _) S.out.2.1 (by omega) hsz ?nx3)
              case nx3 =>
                intro n' w9 g1 g2 g4
                rw [← picks_yes (p := beyP zs s) HQ.out] at g1
                have R := Lib.hid (grown_x S.out.2.1 S.out.1 S.out.2.2.1.symm S.out.2.2.2 g1 g2 (by simp) g4)
                clear g1 g2 g4 hsz S e0
                go_wp2_with fail
                go_roundw
                case rel => exact ⟨j + 1, by omega, by go_num, R.out.2.1, R.out.1, R.out.2.2.1.symm, R.out.2.2.2⟩
                case measure => simp [intOf]; omega
        · obtain rfl : j = i := by omega
          have hNK := HNK.out
          obtain ⟨p1, p2, ap, hx⟩ := H0.out
          obtain ⟨A1, c2, rfl, l1, m1, r1⟩ := p1.form
          obtain ⟨A2, c3, rfl, l2, m2, r2⟩ := p2.form
          have H1 : Hid (∀ w', Ext wr w' → Calls Try.prog 10 #[.int .i64 j, .slice A1 (QP.picks (farP zs s) j).length c2] w' (RetS (.bool true) w')) := Lib.hid (fun w' hw' => by
            have := has_any (j : Int) A1 _ c2 _ w' (r1.ext hw') (by omega)
            rwa [hNK, HF.out.1] at this)
          have H2 : Hid (∀ w', Ext wr w' → Calls Try.prog 10 #[.int .i64 j, .slice A2 (QP.picks (beyP zs s) j).length c3] w' (RetS (.bool false) w')) := Lib.hid (fun w' hw' => by
            have := has_any (j : Int) A2 _ c3 _ w' (r2.ext hw') (by omega)
            rwa [hNK, HF.out.2] at this)
          clear p1 p2 ap l1 m1 r1 l2 m2 r2 hpl hql hNK H0
          go_wp2_with fail
          refine (H1.out _ (Ext.refl _)).mono ?_; rintro e w2 ⟨rfl, rfl⟩
          go_wp2_with fail
          refine (H2.out _ (Ext.refl _)).mono ?_; rintro e w2 ⟨rfl, rfl⟩
          go_wp2
          go_ret
          exact ⟨rfl, HXX.out.trans hx⟩
end Go.Proofs.Ytkipdnleebcbmaa
