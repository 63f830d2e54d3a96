/- What the directory's calls come to, on rows alone (no program in sight). -/
import Derived.Test.YtdcbpnkcpglhhaaGrpN
namespace Go.Proofs.Ytdcbpnkcpglhhaa
open Go.RowKit
set_option linter.unusedVariables false
set_option linter.unusedSimpArgs false
set_option linter.unnecessarySimpa false

theorem checkT_text {s : ByteArray} (h : s.size ≤ 256) : checkT (textT s) = 0 := by
  have h1 : strangeT (textT s) = false := by
    rw [textT, strangeT]
    simp [kindI]
  have h2 : greatT 8 (textT s) = false := by
    rw [textT, greatT, if_pos rfl]
    simp; omega
  have h3 : sizeT (textT s) = 3 + s.size := by
    rw [textT, sizeT, if_neg (by omega), if_pos rfl]
  have h4 : wsz (3 + (s.size : Int)) = 3 + s.size := by unfold wsz wrap64; omega
  unfold checkT
  rw [h1, h2, h3, h4, if_neg (by simp), if_neg]
  simp
  omega
theorem Srt.posN_at {L : List Gp} (h : Srt L) {i : Nat} {p : Gp} (hp : L[i]? = some p) : posN L p.name = i := by
  have hi := (List.getElem?_eq_some_iff.1 hp).1
  refine posN_of L p.name i (Nat.le_of_lt hi) (fun t g ht hg => h.at ht hg hp) (fun g hg => ?_)
  rw [hp] at hg
  cases hg
  exact ltN_irrefl _
theorem Srt.hasN_at {L : List Gp} (h : Srt L) {i : Nat} {p : Gp} (hp : L[i]? = some p) : hasN L p.name = true := by
  unfold hasN
  rw [h.posN_at hp, hp]
  exact (eqN_iff _ _).2 rfl
theorem Srt.getG_at {L : List Gp} (h : Srt L) {i : Nat} {p : Gp} (hp : L[i]? = some p) : getG L p.name = p := by
  unfold getG
  rw [h.hasN_at hp, if_pos rfl, h.posN_at hp, List.getD_eq_getElem?_getD, hp]
  rfl
theorem ins_at (L : List Gp) (g : Gp) : (insG L g)[posN L g.name]? = some g := by
  have hl := posN_le L g.name
  unfold insG
  rw [List.getElem?_append_right (by rw [List.length_take]; omega), List.length_take, Nat.min_eq_left hl, Nat.sub_self]
  rfl
theorem set_at {L : List Gp} {i : Nat} (h : i < L.length) (g : Gp) : (setG L i g)[i]? = some g := by
  unfold setG
  rw [List.getElem?_append_right (by rw [List.length_take]; omega), List.length_take, Nat.min_eq_left (by omega), Nat.sub_self]
  rfl
theorem Srt.del_no {L : List Gp} (h : Srt L) {i : Nat} {p : Gp} (hp : L[i]? = some p) : hasN (delG L i) p.name = false := by
  rw [← Bool.not_eq_true]
  intro hh
  obtain ⟨q, hq, hqn⟩ := Go.Proofs.Ytdcbpnkcpglhhaa.hasN_at hh
  have hi := (List.getElem?_eq_some_iff.1 hp).1
  obtain ⟨j, hj, hne⟩ : ∃ j, L[j]? = some q ∧ j ≠ i := by
    unfold delG at hq
    generalize posN (L.take i ++ L.drop (i + 1)) p.name = j at hq
    by_cases hji : j < i
    · rw [List.getElem?_append_left (by rw [List.length_take]; omega), List.getElem?_take, if_pos hji] at hq
      exact ⟨j, hq, by omega⟩
    · rw [List.getElem?_append_right (by rw [List.length_take]; omega), List.length_take, Nat.min_eq_left (by omega), List.getElem?_drop] at hq
      exact ⟨_, hq, by omega⟩
  have hirr := ltN_irrefl p.name
  rcases Nat.lt_or_gt_of_ne hne with hlt | hlt
  · have := h.at hlt hj hp
    rw [hqn, hirr] at this
    cases this
  · have := h.at hlt hp hj
    rw [hqn, hirr] at this
    cases this

/-- a name of two bytes -/
def nmB (c : Nat) : ByteArray := ⟨#[103, UInt8.ofNat c]⟩
theorem ltN_nm {a b : Nat} (ha : a < 256) (hb : b < 256) : ltN (nmB a) (nmB b) = decide (a < b) := by
  have e : (ltN (nmB a) (nmB b) = true) ↔ a < b := by
    rw [ltN_iff]
    show ([103, UInt8.ofNat a] : List UInt8) < [103, UInt8.ofNat b] ↔ _
    rw [List.cons_lt_cons_iff, List.cons_lt_cons_iff]
    have h1 : (UInt8.ofNat a < UInt8.ofNat b) ↔ a < b := by
      rw [UInt8.lt_iff_toNat_lt, UInt8.toNat_ofNat', UInt8.toNat_ofNat']
      rw [Nat.mod_eq_of_lt (by simpa using ha), Nat.mod_eq_of_lt (by simpa using hb)]
    rw [h1]
    simp [UInt8.lt_irrefl]
  by_cases h : a < b
  · rw [e.2 h]; simp [h]
  · have : ltN (nmB a) (nmB b) = false := by rw [← Bool.not_eq_true, e]; exact h
    rw [this]; simp [h]
def bQueue : ByteArray := ⟨#[113, 117, 101, 117, 101]⟩
def bTable : ByteArray := ⟨#[116, 97, 98, 108, 101]⟩
theorem eqN_no {a b : ByteArray} (h : a ≠ b) : eqN a b = false := by rw [← Bool.not_eq_true, eqN_iff]; exact h
theorem styS_warm : styS bWarm = 1 := idxS_some (zs := stylesL) (j := 1) (z := bWarm) rfl ((eqN_iff _ _).2 rfl) (fun q u hq hu => by
  match q, hq with
  | 0, _ => cases hu; exact eqN_no (by decide))
theorem styS_cold : styS bCold = 2 := idxS_some (zs := stylesL) (j := 2) (z := bCold) rfl ((eqN_iff _ _).2 rfl) (fun q u hq hu => by
  match q, hq with
  | 0, _ => cases hu; exact eqN_no (by decide)
  | 1, _ => cases hu; exact eqN_no (by decide))
theorem styS_active : styS bActive = 0 := idxS_some (zs := stylesL) (j := 0) (z := bActive) rfl ((eqN_iff _ _).2 rfl) (fun q u hq hu => by omega)
theorem classS_queue : classS bQueue = true := by
  have : idxS classesL bQueue = 3 := idxS_some (zs := classesL) (j := 3) (z := bQueue) rfl ((eqN_iff _ _).2 rfl) (fun q u hq hu => by
    match q, hq with
    | 0, _ => cases hu; exact eqN_no (by decide)
    | 1, _ => cases hu; exact eqN_no (by decide)
    | 2, _ => cases hu; exact eqN_no (by decide))
  unfold classS
  rw [this]
  rfl
theorem classS_table : classS bTable = true := by
  have : idxS classesL bTable = 5 := idxS_some (zs := classesL) (j := 5) (z := bTable) rfl ((eqN_iff _ _).2 rfl) (fun q u hq hu => by
    match q, hq with
    | 0, _ => cases hu; exact eqN_no (by decide)
    | 1, _ => cases hu; exact eqN_no (by decide)
    | 2, _ => cases hu; exact eqN_no (by decide)
    | 3, _ => cases hu; exact eqN_no (by decide)
    | 4, _ => cases hu; exact eqN_no (by decide))
  unfold classS
  rw [this]
  rfl
theorem nameT_text {s : ByteArray} (h1 : 1 ≤ s.size) (h2 : s.size ≤ 32) : nameT (textT s) = true := by
  rw [textT, nameT]
  simp [h1, h2]
theorem gnameT_text {s : ByteArray} (h1 : 1 ≤ s.size) (h2 : s.size ≤ 32) (h3 : s ≠ bGroups) : gnameT (textT s) = true := by
  have h := nameT_text h1 h2
  rw [textT] at h ⊢
  rw [gnameT, h, eqN_no h3]
  rfl
theorem classT_text {s : ByteArray} (h : classS s = true) : classT (textT s) = true := by rw [textT, classT, h]; rfl
theorem styleT_text {s : ByteArray} (h : 0 ≤ styS s) : styleT (textT s) = true := by rw [textT, styleT]; simp [h]
theorem nm1 (c : Nat) : 1 ≤ (nmB c).size := by show 1 ≤ 2; decide
theorem nm32 (c : Nat) : (nmB c).size ≤ 32 := by show 2 ≤ 32; decide
theorem nm256 (c : Nat) : (nmB c).size ≤ 256 := by show 2 ≤ 256; decide
theorem nmB_ne (c : Nat) : nmB c ≠ bGroups := fun e => by
  have := congrArg ByteArray.size e
  revert this
  show ¬ (2 = 6)
  decide

/-- so many groups -/
def LF (k : Nat) : List Gp := (List.range k).map fun j => ⟨nmB (97 + j), bQueue, 1, 1⟩
theorem LF_length (k : Nat) : (LF k).length = k := by simp [LF]
theorem LF_at {k i : Nat} (h : i < k) : (LF k)[i]? = some ⟨nmB (97 + i), bQueue, 1, 1⟩ := by simp [LF, h]
theorem LF_succ (k : Nat) : LF (k + 1) = LF k ++ [⟨nmB (97 + k), bQueue, 1, 1⟩] := by simp [LF, List.range_succ]
theorem LF_srt {k : Nat} (h : k ≤ 16) : Srt (LF k) := by
  unfold Srt
  rw [List.pairwise_iff_getElem]
  intro i j hi hj hij
  rw [LF_length] at hi hj
  have ei := (List.getElem?_eq_some_iff.1 (LF_at hi)).2
  have ej := (List.getElem?_eq_some_iff.1 (LF_at hj)).2
  rw [ei, ej]
  show ltN (nmB (97 + i)) (nmB (97 + j)) = true
  rw [ltN_nm (by omega) (by omega)]
  simp; omega
theorem LF_pos {k c : Nat} (hk : k ≤ 16) (hc : k ≤ c) (hc2 : c < 100) : posN (LF k) (nmB (97 + c)) = k ∧ hasN (LF k) (nmB (97 + c)) = false := by
  have e : posN (LF k) (nmB (97 + c)) = k := posN_of _ _ k (by rw [LF_length]; exact Nat.le_refl _) (fun t g ht hg => by
    rw [LF_at ht] at hg
    cases hg
    rw [ltN_nm (by omega) (by omega)]
    simp; omega) (fun g hg => by rw [List.getElem?_eq_none (by rw [LF_length]; exact Nat.le_refl _)] at hg; cases hg)
  refine ⟨e, ?_⟩
  unfold hasN
  rw [e, List.getElem?_eq_none (by rw [LF_length]; exact Nat.le_refl _)]
theorem textT_s (s : ByteArray) : (textT s).s = s := rfl
theorem fill_step {i : Nat} (hi : i < 16) : createG (LF i) [textT (nmB (97 + i)), textT bQueue, textT bWarm] = (LF (i + 1), 0) := by
  obtain ⟨h1, h2⟩ := LF_pos (k := i) (c := i) (by omega) (Nat.le_refl _) (by omega)
  rw [createG, if_pos (gnameT_text (nm1 _) (nm32 _) (nmB_ne _)), if_pos (classT_text classS_queue), if_pos (styleT_text (by rw [styS_warm]; decide)), textT_s, textT_s, textT_s, h2, if_neg (by simp), if_neg (by rw [LF_length]; omega), styS_warm]
  congr 1
  unfold insG
  rw [h1, List.take_of_length_le (by rw [LF_length]; exact Nat.le_refl _), List.drop_of_length_le (by rw [LF_length]; exact Nat.le_refl _), LF_succ]
theorem fill_full {i : Nat} (h1 : 16 ≤ i) (h2 : i < 100) : createG (LF 16) [textT (nmB (97 + i)), textT bQueue, textT bWarm] = (LF 16, 33) := by
  obtain ⟨h3, h4⟩ := LF_pos (k := 16) (c := i) (Nat.le_refl _) h1 h2
  rw [createG, if_pos (gnameT_text (nm1 _) (nm32 _) (nmB_ne _)), if_pos (classT_text classS_queue), if_pos (styleT_text (by rw [styS_warm]; decide)), textT_s, textT_s, textT_s, h4, if_neg (by simp), if_pos (by rw [LF_length]; exact Nat.le_refl _)]
theorem create_ok {L : List Gp} {a b c : ByteArray} {z : Int} (h1 : 1 ≤ a.size) (h2 : a.size ≤ 32) (h3 : a ≠ bGroups) (hb : classS b = true) (hc : styS c = z) (hz : 0 ≤ z) (hn : hasN L a = false) (hl : L.length < 16) : createG L [textT a, textT b, textT c] = (insG L ⟨a, b, z, 1⟩, 0) := by
  rw [createG, if_pos (gnameT_text h1 h2 h3), if_pos (classT_text hb), if_pos (styleT_text (by rw [hc]; exact hz)), textT_s, textT_s, textT_s, hn, if_neg (by simp), if_neg (by omega), hc]
theorem create_is {L : List Gp} {a b c : ByteArray} {z : Int} (h1 : 1 ≤ a.size) (h2 : a.size ≤ 32) (h3 : a ≠ bGroups) (hb : classS b = true) (hc : styS c = z) (hz : 0 ≤ z) (hn : hasN L a = true) : createG L [textT a, textT b, textT c] = (L, 32) := by
  rw [createG, if_pos (gnameT_text h1 h2 h3), if_pos (classT_text hb), if_pos (styleT_text (by rw [hc]; exact hz)), textT_s, hn, if_pos rfl]
theorem chk3 {a b c : ByteArray} (ha : a.size ≤ 256) (hb : b.size ≤ 256) (hc : c.size ≤ 256) : chkL [textT a, textT b, textT c] = 0 := by
  rw [chkL, checkT_text ha, if_pos rfl, chkL, checkT_text hb, if_pos rfl, chkL, checkT_text hc, if_pos rfl, chkL]
theorem chk2 {a b : ByteArray} (ha : a.size ≤ 256) (hb : b.size ≤ 256) : chkL [textT a, textT b] = 0 := by
  rw [chkL, checkT_text ha, if_pos rfl, chkL, checkT_text hb, if_pos rfl, chkL]
theorem chk1 {a : ByteArray} (ha : a.size ≤ 256) : chkL [textT a] = 0 := by
  rw [chkL, checkT_text ha, if_pos rfl, chkL]
theorem do_create {L : List Gp} {ts : List T} (h : chkL ts = 0) : DoG L bCreate ts = ((createG L ts).1, nilT, (createG L ts).2) := by
  rw [DoG, if_pos h, if_pos ((eqN_iff _ _).2 rfl)]
theorem do_destroy {L : List Gp} {ts : List T} (h : chkL ts = 0) : DoG L bDestroy ts = ((destroyG L ts).1, nilT, (destroyG L ts).2) := by
  rw [DoG, if_pos h, eqN_no (show bDestroy ≠ bCreate by decide), if_neg (by simp), if_pos ((eqN_iff _ _).2 rfl)]
theorem do_style {L : List Gp} {ts : List T} (h : chkL ts = 0) : DoG L bStyle ts = ((restyleG L ts).1, nilT, (restyleG L ts).2) := by
  rw [DoG, if_pos h, eqN_no (show bStyle ≠ bCreate by decide), if_neg (by simp), eqN_no (show bStyle ≠ bDestroy by decide), if_neg (by simp), if_pos ((eqN_iff _ _).2 rfl)]
theorem do_list {L : List Gp} : DoG L bList [] = (L, listT L, 0) := by
  rw [DoG, if_pos (show chkL [] = 0 from rfl), eqN_no (show bList ≠ bCreate by decide), if_neg (by simp), eqN_no (show bList ≠ bDestroy by decide), if_neg (by simp), eqN_no (show bList ≠ bStyle by decide), if_neg (by simp), if_pos ((eqN_iff _ _).2 rfl), if_pos (show ([] : List T).length = 0 from rfl)]
/-- what the law does behind the filling -/
theorem behind {m q : Nat} (hq : q < m) (hm : m ≤ 16) : ∃ L1 L2 L3 : List Gp,
    DoG (LF m) bStyle [textT (nmB (97 + q)), textT bCold] = (L1, nilT, 0) ∧ getG L1 (nmB (97 + q)) = ⟨nmB (97 + q), bQueue, 2, 2⟩ ∧ hasN L1 (nmB (97 + q)) = true ∧
    DoG L1 bDestroy [textT (nmB (97 + q))] = (L2, nilT, 0) ∧
    DoG L2 bCreate [textT (nmB (97 + q)), textT bTable, textT bActive] = (L3, nilT, 0) ∧ getG L3 (nmB (97 + q)) = ⟨nmB (97 + q), bTable, 0, 1⟩ ∧ hasN L3 (nmB (97 + q)) = true ∧ L3.length = m := by
  have hs := LF_srt hm
  have ha := LF_at hq
  have hp : posN (LF m) (nmB (97 + q)) = q := hs.posN_at ha
  have hh : hasN (LF m) (nmB (97 + q)) = true := hs.hasN_at ha
  have hl : (LF m).length = m := LF_length m
  have hd : (LF m).getD q gp0 = ⟨nmB (97 + q), bQueue, 1, 1⟩ := by rw [List.getD_eq_getElem?_getD, ha]; rfl
  have s1 : Srt (setG (LF m) q ⟨nmB (97 + q), bQueue, 2, 2⟩) := hs.set q _ _ ha rfl
  have a1 := set_at (by rw [hl]; exact hq) (⟨nmB (97 + q), bQueue, 2, 2⟩ : Gp)
  have l1 : (setG (LF m) q ⟨nmB (97 + q), bQueue, 2, 2⟩).length = m := by rw [setG_length (by rw [hl]; exact hq), hl]
  have hp1 := s1.posN_at a1
  have hh1 := s1.hasN_at a1
  have n2 := s1.del_no a1
  have s2 := s1.del q
  have l2 : (delG (setG (LF m) q ⟨nmB (97 + q), bQueue, 2, 2⟩) q).length = m - 1 := by rw [delG_length (by rw [l1]; exact hq), l1]
  have a3 := ins_at (delG (setG (LF m) q ⟨nmB (97 + q), bQueue, 2, 2⟩) q) ⟨nmB (97 + q), bTable, 0, 1⟩
  have s3 := s2.ins (⟨nmB (97 + q), bTable, 0, 1⟩ : Gp) n2
  refine ⟨setG (LF m) q ⟨nmB (97 + q), bQueue, 2, 2⟩, delG (setG (LF m) q ⟨nmB (97 + q), bQueue, 2, 2⟩) q, insG (delG (setG (LF m) q ⟨nmB (97 + q), bQueue, 2, 2⟩) q) ⟨nmB (97 + q), bTable, 0, 1⟩, ?_, s1.getG_at a1, hh1, ?_, ?_, s3.getG_at a3, s3.hasN_at a3, ?_⟩
  · rw [do_style (chk2 (nm256 _) (by decide)), restyleG, if_pos (nameT_text (nm1 _) (nm32 _)), if_pos (styleT_text (by rw [styS_cold]; decide)), textT_s, textT_s, hh, if_pos rfl, hp, hd, styS_cold]
    rfl
  · rw [do_destroy (chk1 (nm256 _)), destroyG, if_pos (nameT_text (nm1 _) (nm32 _)), textT_s]
    simp only at hh1 hp1
    rw [hh1, if_pos rfl, hp1]
  · rw [do_create (chk3 (nm256 _) (by decide) (by decide)), create_ok (nm1 _) (nm32 _) (nmB_ne _) classS_table styS_active (by decide) n2 (by rw [l2]; omega)]
  · rw [insG_length, l2]
    omega
end Go.Proofs.Ytdcbpnkcpglhhaa
