/- The law GroupFull: the walk. -/
import Derived.Test.YtdcbpnkcpglhhaaGrpR
import Derived.Test.YtdcbpnkcpglhhaaHeldB
namespace Go.Proofs.Ytdcbpnkcpglhhaa
open Go.RowKit
set_option linter.unusedVariables false
set_option linter.unusedSimpArgs false
set_option linter.unnecessarySimpa false
attribute [local go_sem] stepR givesR fillE Ext.refl run_store_float

theorem wf_u8 {n : Int} (h : (Lit.int .u8 n).wf = true) : 0 ≤ n ∧ n ≤ 255 := by
  simp only [Lit.wf, Bool.and_eq_true, decide_eq_true_eq] at h
  exact ⟨h.1, h.2⟩
theorem gcat (x : UInt8) : (⟨#[103]⟩ : ByteArray) ++ (⟨#[x]⟩ : ByteArray) = ⟨#[103, x]⟩ := by
  apply ByteArray.ext
  simp [ByteArray.data_append]
theorem one_str (c : Nat) : strOfNums [97 + (c : Int)] = ⟨#[UInt8.ofNat (97 + c)]⟩ := by
  show (⟨#[UInt8.ofNat ((97 : Int) + c).toNat]⟩ : ByteArray) = _
  rw [show ((97 : Int) + c).toNat = 97 + c by omega]
theorem conv_one {w : World} {b c : Nat} (h : w.cell? ⟨b, 0, none⟩ = some (.int .u8 (97 + (c : Int)))) : (convert 33 9 (.slice (some ⟨b, 0, none⟩) 1 1)).run Try.prog w = .ok (.string ⟨#[UInt8.ofNat (97 + c)]⟩) w := by
  have hb : Bt w (fun _ => False) (some ⟨b, 0, none⟩) 1 [97 + (c : Int)] := ⟨rfl, fun _ => ⟨b, 0, rfl, fun h => h, fun j hj => by
    obtain rfl : j = 0 := by omega
    exact h⟩⟩
  rw [← one_str]
  exact Bt.string 33 5 Try.underlying33 Try.underlying5 hb 9 Try.underlying9
theorem gcat_nm (c : Nat) : (⟨#[103]⟩ : ByteArray) ++ (⟨#[UInt8.ofNat (97 + c)]⟩ : ByteArray) = nmB (97 + c) := gcat _
set_option maxRecDepth 1000000 in
set_option maxHeartbeats 8000000 in
theorem groupFull_law (a : Int) (ha : (Lit.int .u8 a).wf = true) (b : Int) (hb : (Lit.int .u8 b).wf = true) (w : World) : Calls Try.prog 3 #[.int .u8 a, .int .u8 b] w (RetX (.bool true) w) := by
  obtain ⟨ha1, ha2⟩ := wf_u8 ha
  obtain ⟨hb1, hb2⟩ := wf_u8 hb
  obtain ⟨a, rfl⟩ := Int.eq_ofNat_of_zero_le ha1
  obtain ⟨b, rfl⟩ := Int.eq_ofNat_of_zero_le hb1
  clear ha hb ha1 hb1
  go_enter Try.func3, Try.ntmps3
  go_wp2_with fail
  refine (known_any _).mono ?_
  rintro e w1 ⟨rfl, hx1⟩
  go_wp2_with fail
  have N1 := new_any w1
  have hx0 := (Ext.refl w1).alloc (.cells #[.slice none 0 0] 57)
  have hd0 := new_dir (base := w1.heap.size) (heap_alloc_new w1 (.cells #[.slice none 0 0] 57)) (Nat.le_refl _)
  have H0 := Lib.hid (And.intro (hx1.trans hx0) (And.intro hd0 hx1.size_le'))
  clear hx0 hd0 hx1
  refine N1.mono ?_
  rintro e w2 ⟨rfl, rfl⟩
  have hx0 := H0.out.1
  have hd0 := H0.out.2
  clear H0 N1
  revert hx0 hd0
  generalize World.alloc _ _ = w2
  generalize w1.heap.size = g
  intro hx0 hd0
  have H1 := Lib.hid (And.intro hx0 (And.intro hd0.1 hd0.2))
  have HG := Lib.hid (show w.heap.size ≤ g from hd0.2)
  clear hx0 hd0
  go_wp2_with fail
  generalize hK : 14 + (a : Int) % 5 = K
  obtain ⟨k, rfl, hk1, hk2⟩ : ∃ k : Nat, K = (k : Int) ∧ 14 ≤ k ∧ k ≤ 18 := ⟨14 + a % 5, by omega, by omega, by omega⟩
  clear hK
  go_loopw [7] (fun i wr => ∃ j : Nat, j ≤ k ∧ i = .int .i64 j ∧ Ext w wr ∧ Hid (∃ v, Dr 57 wr g g v (LF (min j 16)))) (fun i _ => k - (intOf i).toNat)
  case atStart => exact ⟨0, Nat.zero_le _, rfl, H1.out.1, Lib.hid ⟨_, H1.out.2.1⟩⟩
  case round =>
    obtain ⟨j, hj, rfl, hx, I⟩ := hrel
    obtain ⟨v, hd⟩ := I.out
    have HX := Lib.hid (And.intro hx hd)
    clear hx hd I
    by_cases hlt : j < k
    · have hji : (j : Int) < (k : Int) := by omega
      have hcv : IntKind.u8.wrap (j : Int) = (j : Int) := by
        have e : IntKind.u8.wrap (j : Int) = (j : Int) % 256 := rfl
        rw [e]; omega
      have hcv2 : IntKind.u8.wrap (97 + (j : Int)) = 97 + (j : Int) := by
        have e : IntKind.u8.wrap (97 + (j : Int)) = (97 + (j : Int)) % 256 := rfl
        rw [e]; omega
      have hw1 : IntKind.i64.wrap ((j : Int) + 1) = (j : Int) + 1 := IntWalk.i64_in _ (by omega)
      have o1 := heap_alloc_new wr (.cells #[.int .u8 (97 + (j : Int))] 5)
      have hx1 := (Ext.refl wr).alloc (.cells #[.int .u8 (97 + (j : Int))] 5)
      have V1 := conv_one (c := j) ((cell_of_row _ wr.heap.size 0 _ _ _ o1).trans rfl)
      have HA := Lib.hid hx1
      clear o1 hx1
      obtain ⟨s1, hs1, hz1⟩ : ∃ s1 : ByteArray, s1 = ⟨#[UInt8.ofNat (97 + j)]⟩ ∧ s1.size = 1 := ⟨_, rfl, rfl⟩
      rw [← hs1] at V1
      have HS : Hid ((⟨#[103]⟩ : ByteArray) ++ s1 = nmB (97 + j)) := Lib.hid (by rw [hs1]; exact gcat_nm j)
      clear hs1
      go_wp2_with fail
      have hnm := HS.out
      clear HS V1 hz1
      revert hnm
      generalize (⟨#[103]⟩ : ByteArray) ++ s1 = nm
      intro hnm
      have HM := Lib.hid hnm
      clear hnm
      refine (rtext_any _ _).mono ?_
      rintro e y0 ⟨rfl, x0⟩
      go_wp2_with fail
      refine (rtext_any _ _).mono ?_
      rintro e y1 ⟨rfl, x1⟩
      go_wp2_with fail
      refine (rtext_any _ _).mono ?_
      rintro e y2 ⟨rfl, x2⟩
      have hy := HX.out.1.trans (HA.out.trans (x0.trans (x1.trans x2)))
      have hd := HX.out.2.ext (HA.out.trans (x0.trans (x1.trans x2)))
      have hx5 := (Ext.refl y2).alloc (.cells ([nm, bQueue, bWarm].flatMap vtext).toArray 28)
      have hszm : ∀ z ∈ [nm, bQueue, bWarm], z.size ≤ 1000 := fun z hz => by
        rw [HM.out] at hz
        simp only [List.mem_cons, List.not_mem_nil, or_false] at hz
        rcases hz with rfl | rfl | rfl
        · exact Nat.le_trans (nm32 _) (by decide)
        · decide
        · decide
      have hdo : ∃ er : Int, DoG (LF (min j 16)) bCreate ([nm, bQueue, bWarm].map textT) = (LF (min (j + 1) 16), nilT, er) ∧ ((j < 16 ∧ er = 0) ∨ (16 ≤ j ∧ er = 33)) := by
        rw [HM.out]
        by_cases h16 : j < 16
        · refine ⟨0, ?_, .inl ⟨h16, rfl⟩⟩
          rw [Nat.min_eq_left (Nat.le_of_lt h16), Nat.min_eq_left (show j + 1 ≤ 16 by omega)]
          have e := fill_step h16
          show DoG (LF j) bCreate [textT (nmB (97 + j)), textT bQueue, textT bWarm] = _
          rw [do_create (chk3 (nm256 _) (by decide) (by decide)), e]
        · refine ⟨33, ?_, .inr ⟨by omega, rfl⟩⟩
          rw [Nat.min_eq_right (show 16 ≤ j by omega), Nat.min_eq_right (show 16 ≤ j + 1 by omega)]
          have e := fill_full (i := j) (by omega) (by omega)
          show DoG (LF 16) bCreate [textT (nmB (97 + j)), textT bQueue, textT bWarm] = _
          rw [do_create (chk3 (nm256 _) (by decide) (by decide)), e]
      obtain ⟨er, hdo, her⟩ := hdo
      have T2 := do_texts (c := 3) (m := bCreate) [nm, bQueue, bWarm] (hd.ext hx5) (Nat.le_of_lt (hd.ext hx5).lt) (heap_alloc_new y2 (.cells ([nm, bQueue, bWarm].flatMap vtext).toArray 28)) (fun e => absurd (CRow.lt hd.row _ e).2.1 (Nat.lt_irrefl _)) hszm (Nat.le_refl 3) (by decide) hdo
      have HH := Lib.hid (And.intro (hy.trans hx5) (hd.ext hx5))
      clear hy hd hx5 x0 x1 x2 hszm hdo HX HA
      go_wp2_with fail
      refine T2.mono ?_
      rintro e y3 ⟨v5, A5, c5, rfl, hd5, hr5, hc5, hf5⟩
      have hz := Below.trans HH.out.1 ((HH.out.2.below (Nat.le_of_lt HH.out.2.lt) hc5).mono HG.out)
      simp only [nilT, T.val, List.length_nil]
      have HK := Lib.hid (And.intro hz hd5)
      clear T2 HH hd5 hr5 hc5 hf5 hz
      have hxa := (Ext.refl y3).alloc (.cells #[.int .i64 0, .int .i64 0, .float .f64 0, .string ⟨#[]⟩, .slice A5 0 c5] 28)
      have HN := Lib.hid (And.intro (Ext.trans HK.out.1 hxa) (HK.out.2.ext hxa))
      clear hxa HK
      rcases her with ⟨h16, rfl⟩ | ⟨h16, rfl⟩
      · have hji16 : decide ((16 : Int) ≤ (j : Int)) = false := decide_eq_false (by omega)
        go_wp2_with fail
        go_roundw
        case rel => exact ⟨j + 1, by omega, by go_num, HN.out.1, Lib.hid ⟨_, HN.out.2⟩⟩
        case measure => simp [intOf]; omega
      · have hji16 : (16 : Int) ≤ (j : Int) := by omega
        go_wp2_with fail
        go_roundw
        case rel => exact ⟨j + 1, by omega, by go_num, HN.out.1, Lib.hid ⟨_, HN.out.2⟩⟩
        case measure => simp [intOf]; omega
    · obtain rfl : j = k := by omega
      have hnl : decide ((j : Int) < (j : Int)) = false := by simp
      obtain ⟨q, hq, hq14⟩ : ∃ q : Nat, (97 + (b : Int) % 14) = 97 + (q : Int) ∧ q < 14 := ⟨b % 14, by omega, by omega⟩
      have o1 := heap_alloc_new wr (.cells #[.int .u8 (97 + (b : Int) % 14)] 5)
      have hx1 := (Ext.refl wr).alloc (.cells #[.int .u8 (97 + (b : Int) % 14)] 5)
      have V1 := conv_one (c := q) ((cell_of_row _ wr.heap.size 0 _ _ _ o1).trans (by rw [hq]; rfl))
      obtain ⟨s1, hs1, hz1⟩ : ∃ s1 : ByteArray, s1 = ⟨#[UInt8.ofNat (97 + q)]⟩ ∧ s1.size = 1 := ⟨_, rfl, rfl⟩
      rw [← hs1] at V1
      have HS : Hid ((⟨#[103]⟩ : ByteArray) ++ s1 = nmB (97 + q)) := Lib.hid (by rw [hs1]; exact gcat_nm q)
      have HA := Lib.hid hx1
      have hcv2 : IntKind.u8.wrap (97 + (b : Int) % 14) = 97 + (b : Int) % 14 := by
        have e : IntKind.u8.wrap (97 + (b : Int) % 14) = (97 + (b : Int) % 14) % 256 := rfl
        rw [e]; omega
      clear hs1 hq o1 hx1
      go_wp2_with fail
      have hnm := HS.out
      clear HS V1 hz1
      revert hnm
      generalize (⟨#[103]⟩ : ByteArray) ++ s1 = nm
      intro hnm
      have HM := Lib.hid hnm
      clear hnm
      refine (rtext_any _ _).mono ?_
      rintro e y0 ⟨rfl, x0⟩
      have hx1 := (Ext.refl y0).alloc (.cells #[.int .i64 3, .int .i64 0, .float .f64 0, .string nm, .slice none 0 0] 28)
      have o1 := heap_alloc_new y0 (.cells #[.int .i64 3, .int .i64 0, .float .f64 0, .string nm, .slice none 0 0] 28)
      have HX1 := Lib.hid (And.intro (HX.out.1.trans (HA.out.trans (x0.trans hx1))) (And.intro (HX.out.2.ext (HA.out.trans (x0.trans hx1))) o1))
      clear x0 hx1 o1 HX HA
      go_wp2_with fail
      have hbq : y0.heap.size ≠ g := by
        have h1 := HX1.out.2.2
        have h2 := HX1.out.2.1.obj
        intro e
        rw [e, h2] at h1
        cases h1
      have HX2 := Lib.hid (And.intro HX1.out.1 (And.intro HX1.out.2.1 (And.intro HX1.out.2.2 hbq)))
      clear hbq HX1
      revert HX2
      generalize World.alloc y0 _ = y3
      generalize y0.heap.size = bq
      intro HX2
      have o3 := HX2.out.2.2.1
      have c0 : ∀ p : Later y3, p.w.cell? ⟨bq, 0, none⟩ = some (.int .i64 3) := fun p => p.cell ((cell_of_row y3 bq 0 _ _ _ o3).trans rfl)
      have c1 : ∀ p : Later y3, p.w.cell? ⟨bq, 1, none⟩ = some (.int .i64 0) := fun p => p.cell ((cell_of_row y3 bq 1 _ _ _ o3).trans rfl)
      have c2 : ∀ p : Later y3, p.w.cell? ⟨bq, 2, none⟩ = some (.float .f64 0) := fun p => p.cell ((cell_of_row y3 bq 2 _ _ _ o3).trans rfl)
      have c3 : ∀ p : Later y3, p.w.cell? ⟨bq, 3, none⟩ = some (.string nm) := fun p => p.cell ((cell_of_row y3 bq 3 _ _ _ o3).trans rfl)
      have c4 : ∀ p : Later y3, p.w.cell? ⟨bq, 4, none⟩ = some (.slice none 0 0) := fun p => p.cell ((cell_of_row y3 bq 4 _ _ _ o3).trans rfl)
      clear o3
      refine wp_region_rel' 4 (by kernel_rfl) (by kernel_rfl) (fun Fin hFin => ?_)
      simp only [List.take_succ_cons, List.take_zero]
      (refine relGo_p (fun K hK => ?_); go_simp; refine hK _ ?_; clear hK K)
      (refine relGo_p (fun K hK => ?_); go_simp; refine hK _ ?_; clear hK K)
      refine relGo_q (.agg #[.int .i64 3, .int .i64 0, .float .f64 0, .string bCold, .slice none 0 0]) ?_ (fun K hK => ?_)
      · intro w' hw'
        go_simp
        refine (rtext_any _ w').mono ?_
        rintro e w'' ⟨rfl, hx⟩
        exact ⟨rfl, hx⟩
      go_simp; refine hK _ ?_; clear hK K
      refine relGo_r (IsBlk ([nm, bCold].flatMap vtext).toArray 2 y3.heap.size) (IsBlk.later _ _ _) ?_ ?_
      · intro w' hw'
        go_simp
        exact ⟨(Ext.refl w').alloc _, _, rfl, hw'.size_le', heap_alloc_new w' _⟩
      refine hFin _ _ (fun y4 hy4 => ?_)
      intro v4 hv4
      obtain ⟨qb, rfl, hle, hqc⟩ : IsBlk ([nm, bCold].flatMap vtext).toArray 2 y3.heap.size v4 y4 := hv4 (by kernel_rfl)
      clear hFin Fin hv4 c0 c1 c2 c3 c4
      obtain ⟨L1, L2, L3, D1, D2, D3, D4, D5, D6, D7, D8⟩ := behind (m := min j 16) (q := q) (by omega) (by omega)
      have hs2 : ∀ z ∈ [nm, bCold], z.size ≤ 1000 := fun z hz => by
        rw [HM.out] at hz
        simp only [List.mem_cons, List.not_mem_nil, or_false] at hz
        rcases hz with rfl | rfl
        · exact Nat.le_trans (nm32 _) (by decide)
        · decide
      have T2 := do_texts (c := 2) (m := bStyle) [nm, bCold] (HX2.out.2.1.ext hy4) (Nat.le_of_lt (HX2.out.2.1.ext hy4).lt) hqc (fun e => by have := (CRow.lt HX2.out.2.1.row _ e).2.1; omega) hs2 (Nat.le_refl 2) (by decide) (r := (L1, nilT, 0)) (by rw [HM.out]; exact D1)
      have HD := Lib.hid (And.intro D2 (And.intro D4 (And.intro D5 (And.intro D6 (And.intro D7 D8)))))
      have H4 := Lib.hid (And.intro (HX2.out.1.trans hy4) (And.intro (HX2.out.2.1.ext hy4) (hy4.obj HX2.out.2.2.1)))
      clear D1 D2 D4 D5 D6 D7 D8 hqc hle hs2 hy4
      simp only [fillE, List.drop_succ_cons, List.drop_zero, List.drop_nil]
      go_wp2_with fail
      refine T2.mono ?_
      rintro e y5 ⟨v5, A5, c5, rfl, hd5, hr5, hc5, hf5⟩
      have hz := Below.trans H4.out.1 ((H4.out.2.1.below (Nat.le_of_lt H4.out.2.1.lt) hc5).mono HG.out)
      have o5 := hc5.obj H4.out.2.2 (fun h => by
        rcases h with h | h
        · exact HX2.out.2.2.2 h
        · exact CRow.ne H4.out.2.1.row H4.out.2.2 (by decide) h.symm)
      have G1 := get_any hd5 nm
      have e1 : getG L1 nm = ⟨nm, bQueue, 2, 2⟩ := by rw [HM.out]; exact HD.out.1
      rw [e1] at G1
      generalize hasN L1 nm = hs at G1
      have hgbq := HX2.out.2.2.2
      have H5 := Lib.hid (And.intro hz (And.intro hd5 o5))
      have c0 : y5.cell? ⟨bq, 0, none⟩ = some (.int .i64 3) := (cell_of_row y5 bq 0 _ _ _ o5).trans rfl
      have c1 : y5.cell? ⟨bq, 1, none⟩ = some (.int .i64 0) := (cell_of_row y5 bq 1 _ _ _ o5).trans rfl
      have c2 : y5.cell? ⟨bq, 2, none⟩ = some (.float .f64 0) := (cell_of_row y5 bq 2 _ _ _ o5).trans rfl
      have c3 : y5.cell? ⟨bq, 3, none⟩ = some (.string nm) := (cell_of_row y5 bq 3 _ _ _ o5).trans rfl
      have c4 : y5.cell? ⟨bq, 4, none⟩ = some (.slice none 0 0) := (cell_of_row y5 bq 4 _ _ _ o5).trans rfl
      clear T2 H4 HX2 hd5 hr5 hc5 hf5 hz e1 o5
      go_wp2_with fail
      refine G1.mono ?_
      rintro e y6 ⟨rfl, hx6⟩
      have hx7 := hx6.trans ((Ext.refl y6).alloc (.cells #[.string nm, .string bQueue, .int .i64 2, .int .u32 2] 36))
      have o12 := heap_alloc_new y6 (.cells #[.string nm, .string bQueue, .int .i64 2, .int .u32 2] 36)
      have o5 := hx7.obj H5.out.2.2
      clear c0 c1 c2 c3 c4
      have c0 : (y6.alloc (.cells #[.string nm, .string bQueue, .int .i64 2, .int .u32 2] 36)).cell? ⟨bq, 0, none⟩ = some (.int .i64 3) := (cell_of_row (y6.alloc (.cells #[.string nm, .string bQueue, .int .i64 2, .int .u32 2] 36)) bq 0 _ _ _ o5).trans rfl
      have c1 : (y6.alloc (.cells #[.string nm, .string bQueue, .int .i64 2, .int .u32 2] 36)).cell? ⟨bq, 1, none⟩ = some (.int .i64 0) := (cell_of_row (y6.alloc (.cells #[.string nm, .string bQueue, .int .i64 2, .int .u32 2] 36)) bq 1 _ _ _ o5).trans rfl
      have c2 : (y6.alloc (.cells #[.string nm, .string bQueue, .int .i64 2, .int .u32 2] 36)).cell? ⟨bq, 2, none⟩ = some (.float .f64 0) := (cell_of_row (y6.alloc (.cells #[.string nm, .string bQueue, .int .i64 2, .int .u32 2] 36)) bq 2 _ _ _ o5).trans rfl
      have c3 : (y6.alloc (.cells #[.string nm, .string bQueue, .int .i64 2, .int .u32 2] 36)).cell? ⟨bq, 3, none⟩ = some (.string nm) := (cell_of_row (y6.alloc (.cells #[.string nm, .string bQueue, .int .i64 2, .int .u32 2] 36)) bq 3 _ _ _ o5).trans rfl
      have c4 : (y6.alloc (.cells #[.string nm, .string bQueue, .int .i64 2, .int .u32 2] 36)).cell? ⟨bq, 4, none⟩ = some (.slice none 0 0) := (cell_of_row (y6.alloc (.cells #[.string nm, .string bQueue, .int .i64 2, .int .u32 2] 36)) bq 4 _ _ _ o5).trans rfl
      simp only [Gp.val]
      have H7 : Hid (Ext w (y6.alloc (.cells #[.string nm, .string bQueue, .int .i64 2, .int .u32 2] 36)) ∧ Dr 57 (y6.alloc (.cells #[.string nm, .string bQueue, .int .i64 2, .int .u32 2] 36)) g g v5 L1 ∧ (y6.alloc (.cells #[.string nm, .string bQueue, .int .i64 2, .int .u32 2] 36)).heap[bq]? = some (.cells #[.int .i64 3, .int .i64 0, .float .f64 0, .string nm, .slice none 0 0] 28 (0, 0)) ∧ (y6.alloc (.cells #[.string nm, .string bQueue, .int .i64 2, .int .u32 2] 36)).heap[y6.heap.size]? = some (.cells #[.string nm, .string bQueue, .int .i64 2, .int .u32 2] 36 (0, 0))) := Lib.hid (And.intro (Ext.trans H5.out.1 hx7) (And.intro (H5.out.2.1.ext hx7) (And.intro o5 o12)))
      have HW := Lib.hid (fun e => absurd (CRow.lt (H5.out.2.1.ext hx6).row _ e).2.1 (Nat.lt_irrefl _) : v5.ownBlock ≠ some y6.heap.size)
      clear hx6 hx7 o12 G1 H5 o5
      have H7g : y6.heap.size ≠ g := fun e => by
        have h1 := H7.out.2.2.2
        rw [e, H7.out.2.1.obj] at h1
        cases h1
      have o8 := heap_alloc_new (y6.alloc (.cells #[.string nm, .string bQueue, .int .i64 2, .int .u32 2] 36)) (.cells ([nm].flatMap vtext).toArray 28)
      rw [show ∀ o, (y6.alloc o).heap.size = y6.heap.size + 1 from fun o => by simp] at o8
      have hx8 := (Ext.refl (y6.alloc (.cells #[.string nm, .string bQueue, .int .i64 2, .int .u32 2] 36))).alloc (.cells ([nm].flatMap vtext).toArray 28)
      have hs1 : ∀ z ∈ [nm], z.size ≤ 1000 := fun z hz => by
        rw [HM.out] at hz
        obtain rfl := List.mem_singleton.1 hz
        exact Nat.le_trans (nm32 _) (by decide)
      have T3 := do_texts (c := 1) (m := bDestroy) [nm] (H7.out.2.1.ext hx8) (Nat.le_of_lt (H7.out.2.1.ext hx8).lt) o8 (fun e => by have := (CRow.lt H7.out.2.1.row _ e).2.1; simp at this) hs1 (Nat.le_refl 1) (by decide) (r := (L2, nilT, 0)) (by rw [HM.out]; exact HD.out.2.1)
      have H8 := Lib.hid (And.intro (Ext.trans H7.out.1 hx8) (And.intro (H7.out.2.1.ext hx8) (And.intro (hx8.obj H7.out.2.2.1) (hx8.obj H7.out.2.2.2))))
      clear o8 hx8 hs1 H7
      go_wp2_with fail
      refine T3.mono ?_
      rintro e y9 ⟨v9, A9, c9, rfl, hd9, hr9, hc9, hf9⟩
      have hz := Below.trans H8.out.1 ((H8.out.2.1.below (Nat.le_of_lt H8.out.2.1.lt) hc9).mono HG.out)
      have o9 := hc9.obj H8.out.2.2.1 (fun h => by
        rcases h with h | h
        · exact hgbq h
        · exact CRow.ne H8.out.2.1.row H8.out.2.2.1 (by decide) h.symm)
      have o12 := hc9.obj H8.out.2.2.2 (fun h => by
        rcases h with h | h
        · exact H7g h
        · exact HW.out h.symm)
      have hn9 : v9.ownBlock ≠ some y6.heap.size := hf9.ne (Array.getElem?_eq_some_iff.1 H8.out.2.2.2).1 HW.out
      simp only [nilT, T.val, List.length_nil]
      have hxa := (Ext.refl y9).alloc (.cells #[.int .i64 0, .int .i64 0, .float .f64 0, .string ⟨#[]⟩, .slice A9 0 c9] 28)
      have H9 := Lib.hid (And.intro (Ext.trans hz hxa) (And.intro (hd9.ext hxa) (And.intro (hxa.obj o9) (And.intro (hxa.obj o12) hn9))))
      clear T3 H8 HW hd9 hr9 hc9 hf9 hz o9 o12 hn9 hxa c0 c1 c2 c3 c4
      go_wp2_with fail
      revert H9 H7g
      generalize World.alloc y9 _ = y10
      generalize y9.heap.size = b14
      generalize y6.heap.size = b12
      intro H7g H9
      have hs3 : ∀ z ∈ [nm, bTable, bActive], z.size ≤ 1000 := fun z hz => by
        rw [HM.out] at hz
        simp only [List.mem_cons, List.not_mem_nil, or_false] at hz
        rcases hz with rfl | rfl | rfl
        · exact Nat.le_trans (nm32 _) (by decide)
        · decide
        · decide
      refine Upto.start (t := 11) (S := fun w9 => w9.cell? ⟨bq, 0, none⟩ = some (.int .i64 3) ∧ w9.cell? ⟨bq, 1, none⟩ = some (.int .i64 0) ∧ w9.cell? ⟨bq, 2, none⟩ = some (.float .f64 0) ∧ w9.cell? ⟨bq, 3, none⟩ = some (.string nm) ∧ w9.cell? ⟨bq, 4, none⟩ = some (.slice none 0 0)) (by kernel_rfl) ?_
      have o9 := H9.out.2.2.1
      have hS : (fun w9 : World => w9.cell? ⟨bq, 0, none⟩ = some (.int .i64 3) ∧ w9.cell? ⟨bq, 1, none⟩ = some (.int .i64 0) ∧ w9.cell? ⟨bq, 2, none⟩ = some (.float .f64 0) ∧ w9.cell? ⟨bq, 3, none⟩ = some (.string nm) ∧ w9.cell? ⟨bq, 4, none⟩ = some (.slice none 0 0)) y10.drew := ⟨(cell_of_row y10 bq 0 _ _ _ o9).trans rfl, (cell_of_row y10 bq 1 _ _ _ o9).trans rfl, (cell_of_row y10 bq 2 _ _ _ o9).trans rfl, (cell_of_row y10 bq 3 _ _ _ o9).trans rfl, (cell_of_row y10 bq 4 _ _ _ o9).trans rfl⟩
      have HE := Lib.hid ((Ext.refl y10).drew)
      clear o9
      revert hS HE
      generalize y10.drew = yd
      intro hS HE
      refine Upto.takeD (i := 0) (some 79) (v := ?v101) rfl rfl (by kernel_rfl) (fun _ _ _ h => h) (Or.inl ⟨by rfl, ?y101⟩) hS ?r101
      case y101 =>
        rintro w9 ⟨s0, s1, s2, s3, s4⟩
        go_simp
        try with_reducible rfl
      try simp only [Act.put, List.setIfInBounds_toArray, List.set_cons_zero, List.set_cons_succ]
      refine Upto.takeD (i := 1) (some 80) (v := ?v102) rfl rfl (by kernel_rfl) (fun _ _ _ h => h) (Or.inl ⟨by rfl, ?y102⟩) hS ?r102
      case y102 =>
        rintro w9 ⟨s0, s1, s2, s3, s4⟩
        go_simp
        try with_reducible rfl
      try simp only [Act.put, List.setIfInBounds_toArray, List.set_cons_zero, List.set_cons_succ]
      refine Upto.two (i := 2) (j := 9) (by kernel_rfl) rfl rfl (fun K hK => ?_) (fun K hK => ?_)
      · go_simp
        refine (rtext_any _ _).mono ?_
        rintro e z1 ⟨rfl, xx⟩
        have hS : (fun w9 : World => w9.cell? ⟨bq, 0, none⟩ = some (.int .i64 3) ∧ w9.cell? ⟨bq, 1, none⟩ = some (.int .i64 0) ∧ w9.cell? ⟨bq, 2, none⟩ = some (.float .f64 0) ∧ w9.cell? ⟨bq, 3, none⟩ = some (.string nm) ∧ w9.cell? ⟨bq, 4, none⟩ = some (.slice none 0 0)) z1 := ⟨xx.cell hS.1, xx.cell hS.2.1, xx.cell hS.2.2.1, xx.cell hS.2.2.2.1, xx.cell hS.2.2.2.2⟩
        have HE := Lib.hid (HE.out.trans xx)
        refine hK.out _ _ (fun _ => hS) ?_
        clear hK K xx
        try simp only [Act.put, List.setIfInBounds_toArray, List.set_cons_zero, List.set_cons_succ]
        refine Upto.two (i := 3) (j := 9) (by kernel_rfl) rfl rfl (fun K hK => ?_) (fun K hK => ?_)
        · go_simp
          refine (rtext_any _ _).mono ?_
          rintro e z3 ⟨rfl, xx⟩
          have hS : (fun w9 : World => w9.cell? ⟨bq, 0, none⟩ = some (.int .i64 3) ∧ w9.cell? ⟨bq, 1, none⟩ = some (.int .i64 0) ∧ w9.cell? ⟨bq, 2, none⟩ = some (.float .f64 0) ∧ w9.cell? ⟨bq, 3, none⟩ = some (.string nm) ∧ w9.cell? ⟨bq, 4, none⟩ = some (.slice none 0 0)) z3 := ⟨xx.cell hS.1, xx.cell hS.2.1, xx.cell hS.2.2.1, xx.cell hS.2.2.2.1, xx.cell hS.2.2.2.2⟩
          have HE := Lib.hid (HE.out.trans xx)
          refine hK.out _ _ (fun _ => hS) ?_
          clear hK K xx
          try simp only [Act.put, List.setIfInBounds_toArray, List.set_cons_zero, List.set_cons_succ]
          refine Upto.two (i := 4) (j := 9) (by kernel_rfl) rfl rfl (fun K hK => ?_) (fun K hK => ?_)
          · go_simp
            have xx := (Ext.refl z3).alloc (.cells ([nm, bTable, bActive].flatMap vtext).toArray 28)
            have oq := heap_alloc_new z3 (.cells ([nm, bTable, bActive].flatMap vtext).toArray 28)
            have hltq : y10.heap.size ≤ z3.heap.size := HE.out.size_le'
            refine hK.out _ _ (fun _ => ⟨xx.cell hS.1, xx.cell hS.2.1, xx.cell hS.2.2.1, xx.cell hS.2.2.2.1, xx.cell hS.2.2.2.2⟩) ?_
            clear hK K
            show Upto _ _ _ _ _ _ _ _ _ (z3.alloc (.cells ([nm, bTable, bActive].flatMap vtext).toArray 28))
            revert xx oq hltq
            generalize World.alloc z3 _ = z5
            generalize z3.heap.size = qb
            intro xx oq hltq
            have hS : (fun w9 : World => w9.cell? ⟨bq, 0, none⟩ = some (.int .i64 3) ∧ w9.cell? ⟨bq, 1, none⟩ = some (.int .i64 0) ∧ w9.cell? ⟨bq, 2, none⟩ = some (.float .f64 0) ∧ w9.cell? ⟨bq, 3, none⟩ = some (.string nm) ∧ w9.cell? ⟨bq, 4, none⟩ = some (.slice none 0 0)) z5 := ⟨xx.cell hS.1, xx.cell hS.2.1, xx.cell hS.2.2.1, xx.cell hS.2.2.2.1, xx.cell hS.2.2.2.2⟩
            have HE := Lib.hid (HE.out.trans xx)
            clear xx
            try simp only [Act.put, List.setIfInBounds_toArray, List.set_cons_zero, List.set_cons_succ]
            refine Upto.two (i := 5) (j := 9) (by kernel_rfl) rfl rfl (fun K hK => ?_) (fun K hK => ?_)
            · have hdW := H9.out.2.1.ext HE.out
              have T4 := do_texts (c := 3) (m := bCreate) [nm, bTable, bActive] hdW (Nat.le_of_lt hdW.lt) oq (fun e => by have := (CRow.lt H9.out.2.1.row _ e).2.1; omega) hs3 (Nat.le_refl 3) (by decide) (r := (L3, nilT, 0)) (by rw [HM.out]; exact HD.out.2.2.1)
              go_simp
              refine T4.mono ?_
              rintro e z7 ⟨vD, AD, cD, rfl, hdD, hrD, hcD, hfD⟩
              simp only [nilT, T.val, List.length_nil]
              have hzD := Below.trans (Ext.trans H9.out.1 HE.out) ((hdW.below (Nat.le_of_lt hdW.lt) hcD).mono HG.out)
              have oD := hcD.obj (HE.out.obj H9.out.2.2.1) (fun h => by
                rcases h with h | h
                · exact hgbq h
                · exact CRow.ne H9.out.2.1.row H9.out.2.2.1 (by decide) h.symm)
              have oE := hcD.obj (HE.out.obj H9.out.2.2.2.1) (fun h => by
                rcases h with h | h
                · exact H7g h
                · exact H9.out.2.2.2.2 h.symm)
              have hS : (fun w9 : World => w9.cell? ⟨bq, 0, none⟩ = some (.int .i64 3) ∧ w9.cell? ⟨bq, 1, none⟩ = some (.int .i64 0) ∧ w9.cell? ⟨bq, 2, none⟩ = some (.float .f64 0) ∧ w9.cell? ⟨bq, 3, none⟩ = some (.string nm) ∧ w9.cell? ⟨bq, 4, none⟩ = some (.slice none 0 0)) z7 := ⟨(cell_of_row z7 bq 0 _ _ _ oD).trans rfl, (cell_of_row z7 bq 1 _ _ _ oD).trans rfl, (cell_of_row z7 bq 2 _ _ _ oD).trans rfl, (cell_of_row z7 bq 3 _ _ _ oD).trans rfl, (cell_of_row z7 bq 4 _ _ _ oD).trans rfl⟩
              have HDo := Lib.hid (And.intro hzD (And.intro hdD (And.intro oD oE)))
              refine hK.out _ _ (fun _ => hS) ?_
              clear hK K T4 hdW hdD hrD hcD hfD hzD oD oE oq HE
              try simp only [Act.put, List.setIfInBounds_toArray, List.set_cons_zero, List.set_cons_succ]
              refine Upto.takeD (i := 6) (some 78) (v := ?v103) rfl rfl (by kernel_rfl) (fun _ _ _ h => h) (Or.inl ⟨by rfl, ?y103⟩) hS ?r103
              case y103 =>
                rintro w9 ⟨s0, s1, s2, s3, s4⟩
                go_simp
                try with_reducible rfl
              try simp only [Act.put, List.setIfInBounds_toArray, List.set_cons_zero, List.set_cons_succ]
              refine Upto.takeD (i := 7) (some 85) (v := ?v104) rfl rfl (by kernel_rfl) (fun _ _ _ h => h) (Or.inl ⟨by rfl, ?y104⟩) hS ?r104
              case y104 =>
                rintro w9 ⟨s0, s1, s2, s3, s4⟩
                go_simp
                try with_reducible rfl
              try simp only [Act.put, List.setIfInBounds_toArray, List.set_cons_zero, List.set_cons_succ]
              refine Upto.takeD (i := 8) (some 86) (v := ?v105) rfl rfl (by kernel_rfl) (fun _ _ _ h => h) (Or.inl ⟨by rfl, ?y105⟩) hS ?r105
              case y105 =>
                rintro w9 ⟨s0, s1, s2, s3, s4⟩
                go_simp
                try with_reducible rfl
              try simp only [Act.put, List.setIfInBounds_toArray, List.set_cons_zero, List.set_cons_succ]
              refine Upto.one (i := 9) (by kernel_rfl) rfl (fun K hK => ?_)
              go_simp
              have xx := (Ext.refl z7).alloc (.cells #[.int .i64 0, .int .i64 0, .float .f64 0, .string ⟨#[]⟩, .slice none 0 0] 28)
              have o16 := heap_alloc_new z7 (.cells #[.int .i64 0, .int .i64 0, .float .f64 0, .string ⟨#[]⟩, .slice none 0 0] 28)
              have hB16 : w.heap.size ≤ z7.heap.size := HDo.out.1.size
              have hq16 : bq ≠ z7.heap.size := by have h := (Array.getElem?_eq_some_iff.1 HDo.out.2.2.1).1; omega
              refine hK.out _ _ (fun _ => ⟨xx.cell hS.1, xx.cell hS.2.1, xx.cell hS.2.2.1, xx.cell hS.2.2.2.1, xx.cell hS.2.2.2.2⟩) ?_
              clear hK K
              have HDo := Lib.hid (And.intro (Ext.trans HDo.out.1 xx) (And.intro (HDo.out.2.1.ext xx) (And.intro (xx.obj HDo.out.2.2.1) (xx.obj HDo.out.2.2.2))))
              revert xx o16 HDo hB16 hq16
              generalize World.alloc z7 _ = z9
              generalize z7.heap.size = b16
              intro xx o16 hB16 hq16 HDo
              have hS : (fun w9 : World => w9.cell? ⟨bq, 0, none⟩ = some (.int .i64 3) ∧ w9.cell? ⟨bq, 1, none⟩ = some (.int .i64 0) ∧ w9.cell? ⟨bq, 2, none⟩ = some (.float .f64 0) ∧ w9.cell? ⟨bq, 3, none⟩ = some (.string nm) ∧ w9.cell? ⟨bq, 4, none⟩ = some (.slice none 0 0)) z9 := ⟨xx.cell hS.1, xx.cell hS.2.1, xx.cell hS.2.2.1, xx.cell hS.2.2.2.1, xx.cell hS.2.2.2.2⟩
              clear xx
              try simp only [Act.put, List.setIfInBounds_toArray, List.set_cons_zero, List.set_cons_succ]
              refine Upto.one (i := 10) (by kernel_rfl) rfl (fun K hK => ?_)
              obtain ⟨k0, k1, k2, k3, k4, f0, f1, f2, f3, f4⟩ := cells5 o16
              go_simp
              obtain ⟨p16, hch⟩ := put5 (v0 := .int .i64 0) (v1 := .int .i64 0) (v2 := .float .f64 0) (v3 := .string ⟨#[]⟩) (v4 := .slice AD 0 cD) o16
              have q1 : b16 ≠ g := fun e => by
                have h1 := HDo.out.2.1.obj
                rw [← e, o16] at h1
                cases h1
              have q2 : vD.ownBlock ≠ some b16 := CRow.ne HDo.out.2.1.row o16 (by decide)
              have q4 : b12 ≠ b16 := fun e => by
                have h1 := HDo.out.2.2.2
                rw [e, o16] at h1
                cases h1
              have oF := hch.obj HDo.out.2.2.1 hq16
              have HZ := And.intro (((((Ext.put HDo.out.1 hB16).put hB16).put hB16).put hB16).put hB16 : Ext w (((((z9.setCell ⟨b16, 0, none⟩ (.int .i64 0)).setCell ⟨b16, 1, none⟩ (.int .i64 0)).setCell ⟨b16, 2, none⟩ (.float .f64 0)).setCell ⟨b16, 3, none⟩ (.string ⟨#[]⟩)).setCell ⟨b16, 4, none⟩ (.slice AD 0 cD))) (And.intro (HDo.out.2.1.chg hch (fun e => q1 e.symm) (fun k hk e => q2 (e ▸ hk))) (And.intro oF (hch.obj HDo.out.2.2.2 q4)))
              obtain ⟨yF, hyF⟩ : ∃ yF, yF = (((((z9.setCell ⟨b16, 0, none⟩ (.int .i64 0)).setCell ⟨b16, 1, none⟩ (.int .i64 0)).setCell ⟨b16, 2, none⟩ (.float .f64 0)).setCell ⟨b16, 3, none⟩ (.string ⟨#[]⟩)).setCell ⟨b16, 4, none⟩ (.slice AD 0 cD)) := ⟨_, rfl⟩
              rw [← hyF] at HZ oF
              rw [← hyF]
              clear hyF k0 k1 k2 k3 k4 f0 f1 f2 f3 f4 p16 hch q1 q2 q4 o16 hS HDo
              have hS : (fun w9 : World => w9.cell? ⟨bq, 0, none⟩ = some (.int .i64 3) ∧ w9.cell? ⟨bq, 1, none⟩ = some (.int .i64 0) ∧ w9.cell? ⟨bq, 2, none⟩ = some (.float .f64 0) ∧ w9.cell? ⟨bq, 3, none⟩ = some (.string nm) ∧ w9.cell? ⟨bq, 4, none⟩ = some (.slice none 0 0)) yF := ⟨(cell_of_row yF bq 0 _ _ _ oF).trans rfl, (cell_of_row yF bq 1 _ _ _ oF).trans rfl, (cell_of_row yF bq 2 _ _ _ oF).trans rfl, (cell_of_row yF bq 3 _ _ _ oF).trans rfl, (cell_of_row yF bq 4 _ _ _ oF).trans rfl⟩
              refine hK.out _ _ (fun _ => hS) ?_
              clear hK K
              try simp only [Act.put, List.setIfInBounds_toArray, List.set_cons_zero, List.set_cons_succ]
              refine Upto.one (i := 11) (by kernel_rfl) rfl (fun K hK => ?_)
              go_simp
              refine hK.out _ _ (fun h0 => absurd rfl h0) ?_
              clear hK K
              refine Upto.done (by kernel_rfl) ?_ _
              have c3 := hS.2.2.2.1
              have HF := Lib.hid HZ
              clear hS HZ oF
              go_wp2_with fail
              have e3 : getG L3 nm = ⟨nm, bTable, 0, 1⟩ := by rw [HM.out]; exact HD.out.2.2.2.1
              have e4 : hasN L3 nm = true := by rw [HM.out]; exact HD.out.2.2.2.2.1
              have G2 := get_any HF.out.2.1 nm
              rw [e3, e4] at G2
              clear e3 e4
              refine G2.mono ?_
              rintro e yG ⟨rfl, hxa⟩
              simp only [Gp.val]
              have hxb := (Ext.refl yG).alloc (.cells #[.string nm, .string bTable, .int .i64 0, .int .u32 1] 36)
              have c5 : (yG.alloc (.cells #[.string nm, .string bTable, .int .i64 0, .int .u32 1] 36)).cell? ⟨bq, 3, none⟩ = some (.string nm) := (cell_of_row _ bq 3 _ _ _ (hxb.obj (hxa.obj HF.out.2.2.1))).trans rfl
              have c6 : (yG.alloc (.cells #[.string nm, .string bTable, .int .i64 0, .int .u32 1] 36)).cell? ⟨b12, 3, none⟩ = some (.int .u32 2) := (cell_of_row _ b12 3 _ _ _ (hxb.obj (hxa.obj HF.out.2.2.2))).trans rfl
              have A1 := all_any ((HF.out.2.1.ext hxa).ext hxb)
              have HG2 := Lib.hid (Ext.trans (Ext.trans HF.out.1 hxa) hxb)
              have hl3 : L3.length = min j 16 := HD.out.2.2.2.2.2
              have hT : bTable.toList = [116, 97, 98, 108, 101] := by rw [Lib.toList_data]; rfl
              clear G2 hxa hxb c3
              go_wp2_with fail
              refine A1.mono ?_
              rintro e yH ⟨vH, rfl, hrH, hxH⟩
              obtain ⟨AH, cH, rfl, _⟩ := hrH.form
              have HR := Lib.hid (HG2.out.trans hxH)
              clear hrH hxH A1
              rw [hl3]
              have hmin : (((min j 16 : Nat) : Int) == min (j : Int) 16) = true := by rw [beq_iff_eq]; omega
              go_wp2_with fail
              go_ret
              exact ⟨rfl, HR.out⟩
            · go_simp
              have xx := (Ext.refl z5).alloc (.cells #[.int .i64 0, .int .i64 0, .float .f64 0, .string ⟨#[]⟩, .slice none 0 0] 28)
              have o16 := heap_alloc_new z5 (.cells #[.int .i64 0, .int .i64 0, .float .f64 0, .string ⟨#[]⟩, .slice none 0 0] 28)
              have hlt16 : y10.heap.size ≤ z5.heap.size := HE.out.size_le'
              have hB16 : w.heap.size ≤ z5.heap.size := Nat.le_trans H9.out.1.size_le' HE.out.size_le'
              have hq16 : bq ≠ z5.heap.size := by have h := (Array.getElem?_eq_some_iff.1 H9.out.2.2.1).1; omega
              refine hK.out _ _ (fun _ => ⟨xx.cell hS.1, xx.cell hS.2.1, xx.cell hS.2.2.1, xx.cell hS.2.2.2.1, xx.cell hS.2.2.2.2⟩) ?_
              clear hK K
              revert xx o16 hlt16 hB16 hq16
              generalize World.alloc z5 _ = z8
              generalize z5.heap.size = b16
              intro xx o16 hlt16 hB16 hq16
              have hS : (fun w9 : World => w9.cell? ⟨bq, 0, none⟩ = some (.int .i64 3) ∧ w9.cell? ⟨bq, 1, none⟩ = some (.int .i64 0) ∧ w9.cell? ⟨bq, 2, none⟩ = some (.float .f64 0) ∧ w9.cell? ⟨bq, 3, none⟩ = some (.string nm) ∧ w9.cell? ⟨bq, 4, none⟩ = some (.slice none 0 0)) z8 := ⟨xx.cell hS.1, xx.cell hS.2.1, xx.cell hS.2.2.1, xx.cell hS.2.2.2.1, xx.cell hS.2.2.2.2⟩
              have HE := Lib.hid (HE.out.trans xx)
              have oq := xx.obj oq
              clear xx
              try simp only [Act.put, List.setIfInBounds_toArray, List.set_cons_zero, List.set_cons_succ]
              refine Upto.one (i := 5) (by kernel_rfl) rfl (fun K hK => ?_)
              have hdW := H9.out.2.1.ext HE.out
              have T4 := do_texts (c := 3) (m := bCreate) [nm, bTable, bActive] hdW (Nat.le_of_lt hdW.lt) oq (fun e => by have := (CRow.lt H9.out.2.1.row _ e).2.1; omega) hs3 (Nat.le_refl 3) (by decide) (r := (L3, nilT, 0)) (by rw [HM.out]; exact HD.out.2.2.1)
              go_simp
              refine T4.mono ?_
              rintro e z10 ⟨vD, AD, cD, rfl, hdD, hrD, hcD, hfD⟩
              simp only [nilT, T.val, List.length_nil]
              have hzD := Below.trans (Ext.trans H9.out.1 HE.out) ((hdW.below (Nat.le_of_lt hdW.lt) hcD).mono HG.out)
              have oD := hcD.obj (HE.out.obj H9.out.2.2.1) (fun h => by
                rcases h with h | h
                · exact hgbq h
                · exact CRow.ne H9.out.2.1.row H9.out.2.2.1 (by decide) h.symm)
              have oE := hcD.obj (HE.out.obj H9.out.2.2.2.1) (fun h => by
                rcases h with h | h
                · exact H7g h
                · exact H9.out.2.2.2.2 h.symm)
              have o16 := hcD.obj o16 (fun h => by
                rcases h with h | h
                · have := H9.out.2.1.lt; omega
                · have := (CRow.lt H9.out.2.1.row _ h.symm).2.1; omega)
              have hS : (fun w9 : World => w9.cell? ⟨bq, 0, none⟩ = some (.int .i64 3) ∧ w9.cell? ⟨bq, 1, none⟩ = some (.int .i64 0) ∧ w9.cell? ⟨bq, 2, none⟩ = some (.float .f64 0) ∧ w9.cell? ⟨bq, 3, none⟩ = some (.string nm) ∧ w9.cell? ⟨bq, 4, none⟩ = some (.slice none 0 0)) z10 := ⟨(cell_of_row z10 bq 0 _ _ _ oD).trans rfl, (cell_of_row z10 bq 1 _ _ _ oD).trans rfl, (cell_of_row z10 bq 2 _ _ _ oD).trans rfl, (cell_of_row z10 bq 3 _ _ _ oD).trans rfl, (cell_of_row z10 bq 4 _ _ _ oD).trans rfl⟩
              have HDo := Lib.hid (And.intro hzD (And.intro hdD (And.intro oD oE)))
              refine hK.out _ _ (fun _ => hS) ?_
              clear hK K T4 hdW hdD hrD hcD hfD hzD oD oE oq HE
              try simp only [Act.put, List.setIfInBounds_toArray, List.set_cons_zero, List.set_cons_succ]
              refine Upto.takeD (i := 6) (some 78) (v := ?v106) rfl rfl (by kernel_rfl) (fun _ _ _ h => h) (Or.inl ⟨by rfl, ?y106⟩) hS ?r106
              case y106 =>
                rintro w9 ⟨s0, s1, s2, s3, s4⟩
                go_simp
                try with_reducible rfl
              try simp only [Act.put, List.setIfInBounds_toArray, List.set_cons_zero, List.set_cons_succ]
              refine Upto.takeD (i := 7) (some 85) (v := ?v107) rfl rfl (by kernel_rfl) (fun _ _ _ h => h) (Or.inl ⟨by rfl, ?y107⟩) hS ?r107
              case y107 =>
                rintro w9 ⟨s0, s1, s2, s3, s4⟩
                go_simp
                try with_reducible rfl
              try simp only [Act.put, List.setIfInBounds_toArray, List.set_cons_zero, List.set_cons_succ]
              refine Upto.takeD (i := 8) (some 86) (v := ?v108) rfl rfl (by kernel_rfl) (fun _ _ _ h => h) (Or.inl ⟨by rfl, ?y108⟩) hS ?r108
              case y108 =>
                rintro w9 ⟨s0, s1, s2, s3, s4⟩
                go_simp
                try with_reducible rfl
              try simp only [Act.put, List.setIfInBounds_toArray, List.set_cons_zero, List.set_cons_succ]
              refine Upto.one (i := 10) (by kernel_rfl) rfl (fun K hK => ?_)
              obtain ⟨k0, k1, k2, k3, k4, f0, f1, f2, f3, f4⟩ := cells5 o16
              go_simp
              obtain ⟨p16, hch⟩ := put5 (v0 := .int .i64 0) (v1 := .int .i64 0) (v2 := .float .f64 0) (v3 := .string ⟨#[]⟩) (v4 := .slice AD 0 cD) o16
              have q1 : b16 ≠ g := fun e => by
                have h1 := HDo.out.2.1.obj
                rw [← e, o16] at h1
                cases h1
              have q2 : vD.ownBlock ≠ some b16 := CRow.ne HDo.out.2.1.row o16 (by decide)
              have q4 : b12 ≠ b16 := fun e => by
                have h1 := HDo.out.2.2.2
                rw [e, o16] at h1
                cases h1
              have oF := hch.obj HDo.out.2.2.1 hq16
              have HZ := And.intro (((((Ext.put HDo.out.1 hB16).put hB16).put hB16).put hB16).put hB16 : Ext w (((((z10.setCell ⟨b16, 0, none⟩ (.int .i64 0)).setCell ⟨b16, 1, none⟩ (.int .i64 0)).setCell ⟨b16, 2, none⟩ (.float .f64 0)).setCell ⟨b16, 3, none⟩ (.string ⟨#[]⟩)).setCell ⟨b16, 4, none⟩ (.slice AD 0 cD))) (And.intro (HDo.out.2.1.chg hch (fun e => q1 e.symm) (fun k hk e => q2 (e ▸ hk))) (And.intro oF (hch.obj HDo.out.2.2.2 q4)))
              obtain ⟨yF, hyF⟩ : ∃ yF, yF = (((((z10.setCell ⟨b16, 0, none⟩ (.int .i64 0)).setCell ⟨b16, 1, none⟩ (.int .i64 0)).setCell ⟨b16, 2, none⟩ (.float .f64 0)).setCell ⟨b16, 3, none⟩ (.string ⟨#[]⟩)).setCell ⟨b16, 4, none⟩ (.slice AD 0 cD)) := ⟨_, rfl⟩
              rw [← hyF] at HZ oF
              rw [← hyF]
              clear hyF k0 k1 k2 k3 k4 f0 f1 f2 f3 f4 p16 hch q1 q2 q4 o16 hS HDo
              have hS : (fun w9 : World => w9.cell? ⟨bq, 0, none⟩ = some (.int .i64 3) ∧ w9.cell? ⟨bq, 1, none⟩ = some (.int .i64 0) ∧ w9.cell? ⟨bq, 2, none⟩ = some (.float .f64 0) ∧ w9.cell? ⟨bq, 3, none⟩ = some (.string nm) ∧ w9.cell? ⟨bq, 4, none⟩ = some (.slice none 0 0)) yF := ⟨(cell_of_row yF bq 0 _ _ _ oF).trans rfl, (cell_of_row yF bq 1 _ _ _ oF).trans rfl, (cell_of_row yF bq 2 _ _ _ oF).trans rfl, (cell_of_row yF bq 3 _ _ _ oF).trans rfl, (cell_of_row yF bq 4 _ _ _ oF).trans rfl⟩
              refine hK.out _ _ (fun _ => hS) ?_
              clear hK K
              try simp only [Act.put, List.setIfInBounds_toArray, List.set_cons_zero, List.set_cons_succ]
              refine Upto.one (i := 11) (by kernel_rfl) rfl (fun K hK => ?_)
              go_simp
              refine hK.out _ _ (fun h0 => absurd rfl h0) ?_
              clear hK K
              refine Upto.done (by kernel_rfl) ?_ _
              have c3 := hS.2.2.2.1
              have HF := Lib.hid HZ
              clear hS HZ oF
              go_wp2_with fail
              have e3 : getG L3 nm = ⟨nm, bTable, 0, 1⟩ := by rw [HM.out]; exact HD.out.2.2.2.1
              have e4 : hasN L3 nm = true := by rw [HM.out]; exact HD.out.2.2.2.2.1
              have G2 := get_any HF.out.2.1 nm
              rw [e3, e4] at G2
              clear e3 e4
              refine G2.mono ?_
              rintro e yG ⟨rfl, hxa⟩
              simp only [Gp.val]
              have hxb := (Ext.refl yG).alloc (.cells #[.string nm, .string bTable, .int .i64 0, .int .u32 1] 36)
              have c5 : (yG.alloc (.cells #[.string nm, .string bTable, .int .i64 0, .int .u32 1] 36)).cell? ⟨bq, 3, none⟩ = some (.string nm) := (cell_of_row _ bq 3 _ _ _ (hxb.obj (hxa.obj HF.out.2.2.1))).trans rfl
              have c6 : (yG.alloc (.cells #[.string nm, .string bTable, .int .i64 0, .int .u32 1] 36)).cell? ⟨b12, 3, none⟩ = some (.int .u32 2) := (cell_of_row _ b12 3 _ _ _ (hxb.obj (hxa.obj HF.out.2.2.2))).trans rfl
              have A1 := all_any ((HF.out.2.1.ext hxa).ext hxb)
              have HG2 := Lib.hid (Ext.trans (Ext.trans HF.out.1 hxa) hxb)
              have hl3 : L3.length = min j 16 := HD.out.2.2.2.2.2
              have hT : bTable.toList = [116, 97, 98, 108, 101] := by rw [Lib.toList_data]; rfl
              clear G2 hxa hxb c3
              go_wp2_with fail
              refine A1.mono ?_
              rintro e yH ⟨vH, rfl, hrH, hxH⟩
              obtain ⟨AH, cH, rfl, _⟩ := hrH.form
              have HR := Lib.hid (HG2.out.trans hxH)
              clear hrH hxH A1
              rw [hl3]
              have hmin : (((min j 16 : Nat) : Int) == min (j : Int) 16) = true := by rw [beq_iff_eq]; omega
              go_wp2_with fail
              go_ret
              exact ⟨rfl, HR.out⟩
          · go_simp
            have xx := (Ext.refl z3).alloc (.cells #[.int .i64 0, .int .i64 0, .float .f64 0, .string ⟨#[]⟩, .slice none 0 0] 28)
            have o16 := heap_alloc_new z3 (.cells #[.int .i64 0, .int .i64 0, .float .f64 0, .string ⟨#[]⟩, .slice none 0 0] 28)
            have hlt16 : y10.heap.size ≤ z3.heap.size := HE.out.size_le'
            have hB16 : w.heap.size ≤ z3.heap.size := Nat.le_trans H9.out.1.size_le' HE.out.size_le'
            have hq16 : bq ≠ z3.heap.size := by have h := (Array.getElem?_eq_some_iff.1 H9.out.2.2.1).1; omega
            refine hK.out _ _ (fun _ => ⟨xx.cell hS.1, xx.cell hS.2.1, xx.cell hS.2.2.1, xx.cell hS.2.2.2.1, xx.cell hS.2.2.2.2⟩) ?_
            clear hK K
            revert xx o16 hlt16 hB16 hq16
            generalize World.alloc z3 _ = z6
            generalize z3.heap.size = b16
            intro xx o16 hlt16 hB16 hq16
            have hS : (fun w9 : World => w9.cell? ⟨bq, 0, none⟩ = some (.int .i64 3) ∧ w9.cell? ⟨bq, 1, none⟩ = some (.int .i64 0) ∧ w9.cell? ⟨bq, 2, none⟩ = some (.float .f64 0) ∧ w9.cell? ⟨bq, 3, none⟩ = some (.string nm) ∧ w9.cell? ⟨bq, 4, none⟩ = some (.slice none 0 0)) z6 := ⟨xx.cell hS.1, xx.cell hS.2.1, xx.cell hS.2.2.1, xx.cell hS.2.2.2.1, xx.cell hS.2.2.2.2⟩
            have HE := Lib.hid (HE.out.trans xx)
            clear xx
            try simp only [Act.put, List.setIfInBounds_toArray, List.set_cons_zero, List.set_cons_succ]
            refine Upto.one (i := 4) (by kernel_rfl) rfl (fun K hK => ?_)
            go_simp
            have xx := (Ext.refl z6).alloc (.cells ([nm, bTable, bActive].flatMap vtext).toArray 28)
            have oq := heap_alloc_new z6 (.cells ([nm, bTable, bActive].flatMap vtext).toArray 28)
            have hltq : y10.heap.size ≤ z6.heap.size := HE.out.size_le'
            refine hK.out _ _ (fun _ => ⟨xx.cell hS.1, xx.cell hS.2.1, xx.cell hS.2.2.1, xx.cell hS.2.2.2.1, xx.cell hS.2.2.2.2⟩) ?_
            clear hK K
            show Upto _ _ _ _ _ _ _ _ _ (z6.alloc (.cells ([nm, bTable, bActive].flatMap vtext).toArray 28))
            revert xx oq hltq
            generalize World.alloc z6 _ = z11
            generalize z6.heap.size = qb
            intro xx oq hltq
            have hS : (fun w9 : World => w9.cell? ⟨bq, 0, none⟩ = some (.int .i64 3) ∧ w9.cell? ⟨bq, 1, none⟩ = some (.int .i64 0) ∧ w9.cell? ⟨bq, 2, none⟩ = some (.float .f64 0) ∧ w9.cell? ⟨bq, 3, none⟩ = some (.string nm) ∧ w9.cell? ⟨bq, 4, none⟩ = some (.slice none 0 0)) z11 := ⟨xx.cell hS.1, xx.cell hS.2.1, xx.cell hS.2.2.1, xx.cell hS.2.2.2.1, xx.cell hS.2.2.2.2⟩
            have HE := Lib.hid (HE.out.trans xx)
            have o16 := xx.obj o16
            clear xx
            try simp only [Act.put, List.setIfInBounds_toArray, List.set_cons_zero, List.set_cons_succ]
            refine Upto.one (i := 5) (by kernel_rfl) rfl (fun K hK => ?_)
            have hdW := H9.out.2.1.ext HE.out
            have T4 := do_texts (c := 3) (m := bCreate) [nm, bTable, bActive] hdW (Nat.le_of_lt hdW.lt) oq (fun e => by have := (CRow.lt H9.out.2.1.row _ e).2.1; omega) hs3 (Nat.le_refl 3) (by decide) (r := (L3, nilT, 0)) (by rw [HM.out]; exact HD.out.2.2.1)
            go_simp
            refine T4.mono ?_
            rintro e z12 ⟨vD, AD, cD, rfl, hdD, hrD, hcD, hfD⟩
            simp only [nilT, T.val, List.length_nil]
            have hzD := Below.trans (Ext.trans H9.out.1 HE.out) ((hdW.below (Nat.le_of_lt hdW.lt) hcD).mono HG.out)
            have oD := hcD.obj (HE.out.obj H9.out.2.2.1) (fun h => by
              rcases h with h | h
              · exact hgbq h
              · exact CRow.ne H9.out.2.1.row H9.out.2.2.1 (by decide) h.symm)
            have oE := hcD.obj (HE.out.obj H9.out.2.2.2.1) (fun h => by
              rcases h with h | h
              · exact H7g h
              · exact H9.out.2.2.2.2 h.symm)
            have o16 := hcD.obj o16 (fun h => by
              rcases h with h | h
              · have := H9.out.2.1.lt; omega
              · have := (CRow.lt H9.out.2.1.row _ h.symm).2.1; omega)
            have hS : (fun w9 : World => w9.cell? ⟨bq, 0, none⟩ = some (.int .i64 3) ∧ w9.cell? ⟨bq, 1, none⟩ = some (.int .i64 0) ∧ w9.cell? ⟨bq, 2, none⟩ = some (.float .f64 0) ∧ w9.cell? ⟨bq, 3, none⟩ = some (.string nm) ∧ w9.cell? ⟨bq, 4, none⟩ = some (.slice none 0 0)) z12 := ⟨(cell_of_row z12 bq 0 _ _ _ oD).trans rfl, (cell_of_row z12 bq 1 _ _ _ oD).trans rfl, (cell_of_row z12 bq 2 _ _ _ oD).trans rfl, (cell_of_row z12 bq 3 _ _ _ oD).trans rfl, (cell_of_row z12 bq 4 _ _ _ oD).trans rfl⟩
            have HDo := Lib.hid (And.intro hzD (And.intro hdD (And.intro oD oE)))
            refine hK.out _ _ (fun _ => hS) ?_
            clear hK K T4 hdW hdD hrD hcD hfD hzD oD oE oq HE
            try simp only [Act.put, List.setIfInBounds_toArray, List.set_cons_zero, List.set_cons_succ]
            refine Upto.takeD (i := 6) (some 78) (v := ?v109) rfl rfl (by kernel_rfl) (fun _ _ _ h => h) (Or.inl ⟨by rfl, ?y109⟩) hS ?r109
            case y109 =>
              rintro w9 ⟨s0, s1, s2, s3, s4⟩
              go_simp
              try with_reducible rfl
            try simp only [Act.put, List.setIfInBounds_toArray, List.set_cons_zero, List.set_cons_succ]
            refine Upto.takeD (i := 7) (some 85) (v := ?v110) rfl rfl (by kernel_rfl) (fun _ _ _ h => h) (Or.inl ⟨by rfl, ?y110⟩) hS ?r110
            case y110 =>
              rintro w9 ⟨s0, s1, s2, s3, s4⟩
              go_simp
              try with_reducible rfl
            try simp only [Act.put, List.setIfInBounds_toArray, List.set_cons_zero, List.set_cons_succ]
            refine Upto.takeD (i := 8) (some 86) (v := ?v111) rfl rfl (by kernel_rfl) (fun _ _ _ h => h) (Or.inl ⟨by rfl, ?y111⟩) hS ?r111
            case y111 =>
              rintro w9 ⟨s0, s1, s2, s3, s4⟩
              go_simp
              try with_reducible rfl
            try simp only [Act.put, List.setIfInBounds_toArray, List.set_cons_zero, List.set_cons_succ]
            refine Upto.one (i := 10) (by kernel_rfl) rfl (fun K hK => ?_)
            obtain ⟨k0, k1, k2, k3, k4, f0, f1, f2, f3, f4⟩ := cells5 o16
            go_simp
            obtain ⟨p16, hch⟩ := put5 (v0 := .int .i64 0) (v1 := .int .i64 0) (v2 := .float .f64 0) (v3 := .string ⟨#[]⟩) (v4 := .slice AD 0 cD) o16
            have q1 : b16 ≠ g := fun e => by
              have h1 := HDo.out.2.1.obj
              rw [← e, o16] at h1
              cases h1
            have q2 : vD.ownBlock ≠ some b16 := CRow.ne HDo.out.2.1.row o16 (by decide)
            have q4 : b12 ≠ b16 := fun e => by
              have h1 := HDo.out.2.2.2
              rw [e, o16] at h1
              cases h1
            have oF := hch.obj HDo.out.2.2.1 hq16
            have HZ := And.intro (((((Ext.put HDo.out.1 hB16).put hB16).put hB16).put hB16).put hB16 : Ext w (((((z12.setCell ⟨b16, 0, none⟩ (.int .i64 0)).setCell ⟨b16, 1, none⟩ (.int .i64 0)).setCell ⟨b16, 2, none⟩ (.float .f64 0)).setCell ⟨b16, 3, none⟩ (.string ⟨#[]⟩)).setCell ⟨b16, 4, none⟩ (.slice AD 0 cD))) (And.intro (HDo.out.2.1.chg hch (fun e => q1 e.symm) (fun k hk e => q2 (e ▸ hk))) (And.intro oF (hch.obj HDo.out.2.2.2 q4)))
            obtain ⟨yF, hyF⟩ : ∃ yF, yF = (((((z12.setCell ⟨b16, 0, none⟩ (.int .i64 0)).setCell ⟨b16, 1, none⟩ (.int .i64 0)).setCell ⟨b16, 2, none⟩ (.float .f64 0)).setCell ⟨b16, 3, none⟩ (.string ⟨#[]⟩)).setCell ⟨b16, 4, none⟩ (.slice AD 0 cD)) := ⟨_, rfl⟩
            rw [← hyF] at HZ oF
            rw [← hyF]
            clear hyF k0 k1 k2 k3 k4 f0 f1 f2 f3 f4 p16 hch q1 q2 q4 o16 hS HDo
            have hS : (fun w9 : World => w9.cell? ⟨bq, 0, none⟩ = some (.int .i64 3) ∧ w9.cell? ⟨bq, 1, none⟩ = some (.int .i64 0) ∧ w9.cell? ⟨bq, 2, none⟩ = some (.float .f64 0) ∧ w9.cell? ⟨bq, 3, none⟩ = some (.string nm) ∧ w9.cell? ⟨bq, 4, none⟩ = some (.slice none 0 0)) yF := ⟨(cell_of_row yF bq 0 _ _ _ oF).trans rfl, (cell_of_row yF bq 1 _ _ _ oF).trans rfl, (cell_of_row yF bq 2 _ _ _ oF).trans rfl, (cell_of_row yF bq 3 _ _ _ oF).trans rfl, (cell_of_row yF bq 4 _ _ _ oF).trans rfl⟩
            refine hK.out _ _ (fun _ => hS) ?_
            clear hK K
            try simp only [Act.put, List.setIfInBounds_toArray, List.set_cons_zero, List.set_cons_succ]
            refine Upto.one (i := 11) (by kernel_rfl) rfl (fun K hK => ?_)
            go_simp
            refine hK.out _ _ (fun h0 => absurd rfl h0) ?_
            clear hK K
            refine Upto.done (by kernel_rfl) ?_ _
            have c3 := hS.2.2.2.1
            have HF := Lib.hid HZ
            clear hS HZ oF
            go_wp2_with fail
            have e3 : getG L3 nm = ⟨nm, bTable, 0, 1⟩ := by rw [HM.out]; exact HD.out.2.2.2.1
            have e4 : hasN L3 nm = true := by rw [HM.out]; exact HD.out.2.2.2.2.1
            have G2 := get_any HF.out.2.1 nm
            rw [e3, e4] at G2
            clear e3 e4
            refine G2.mono ?_
            rintro e yG ⟨rfl, hxa⟩
            simp only [Gp.val]
            have hxb := (Ext.refl yG).alloc (.cells #[.string nm, .string bTable, .int .i64 0, .int .u32 1] 36)
            have c5 : (yG.alloc (.cells #[.string nm, .string bTable, .int .i64 0, .int .u32 1] 36)).cell? ⟨bq, 3, none⟩ = some (.string nm) := (cell_of_row _ bq 3 _ _ _ (hxb.obj (hxa.obj HF.out.2.2.1))).trans rfl
            have c6 : (yG.alloc (.cells #[.string nm, .string bTable, .int .i64 0, .int .u32 1] 36)).cell? ⟨b12, 3, none⟩ = some (.int .u32 2) := (cell_of_row _ b12 3 _ _ _ (hxb.obj (hxa.obj HF.out.2.2.2))).trans rfl
            have A1 := all_any ((HF.out.2.1.ext hxa).ext hxb)
            have HG2 := Lib.hid (Ext.trans (Ext.trans HF.out.1 hxa) hxb)
            have hl3 : L3.length = min j 16 := HD.out.2.2.2.2.2
            have hT : bTable.toList = [116, 97, 98, 108, 101] := by rw [Lib.toList_data]; rfl
            clear G2 hxa hxb c3
            go_wp2_with fail
            refine A1.mono ?_
            rintro e yH ⟨vH, rfl, hrH, hxH⟩
            obtain ⟨AH, cH, rfl, _⟩ := hrH.form
            have HR := Lib.hid (HG2.out.trans hxH)
            clear hrH hxH A1
            rw [hl3]
            have hmin : (((min j 16 : Nat) : Int) == min (j : Int) 16) = true := by rw [beq_iff_eq]; omega
            go_wp2_with fail
            go_ret
            exact ⟨rfl, HR.out⟩
        · go_simp
          have xx := (Ext.refl z1).alloc (.cells #[.int .i64 0, .int .i64 0, .float .f64 0, .string ⟨#[]⟩, .slice none 0 0] 28)
          have o16 := heap_alloc_new z1 (.cells #[.int .i64 0, .int .i64 0, .float .f64 0, .string ⟨#[]⟩, .slice none 0 0] 28)
          have hlt16 : y10.heap.size ≤ z1.heap.size := HE.out.size_le'
          have hB16 : w.heap.size ≤ z1.heap.size := Nat.le_trans H9.out.1.size_le' HE.out.size_le'
          have hq16 : bq ≠ z1.heap.size := by have h := (Array.getElem?_eq_some_iff.1 H9.out.2.2.1).1; omega
          refine hK.out _ _ (fun _ => ⟨xx.cell hS.1, xx.cell hS.2.1, xx.cell hS.2.2.1, xx.cell hS.2.2.2.1, xx.cell hS.2.2.2.2⟩) ?_
          clear hK K
          revert xx o16 hlt16 hB16 hq16
          generalize World.alloc z1 _ = z4
          generalize z1.heap.size = b16
          intro xx o16 hlt16 hB16 hq16
          have hS : (fun w9 : World => w9.cell? ⟨bq, 0, none⟩ = some (.int .i64 3) ∧ w9.cell? ⟨bq, 1, none⟩ = some (.int .i64 0) ∧ w9.cell? ⟨bq, 2, none⟩ = some (.float .f64 0) ∧ w9.cell? ⟨bq, 3, none⟩ = some (.string nm) ∧ w9.cell? ⟨bq, 4, none⟩ = some (.slice none 0 0)) z4 := ⟨xx.cell hS.1, xx.cell hS.2.1, xx.cell hS.2.2.1, xx.cell hS.2.2.2.1, xx.cell hS.2.2.2.2⟩
          have HE := Lib.hid (HE.out.trans xx)
          clear xx
          try simp only [Act.put, List.setIfInBounds_toArray, List.set_cons_zero, List.set_cons_succ]
          refine Upto.one (i := 3) (by kernel_rfl) rfl (fun K hK => ?_)
          go_simp
          refine (rtext_any _ _).mono ?_
          rintro e z13 ⟨rfl, xx⟩
          have hS : (fun w9 : World => w9.cell? ⟨bq, 0, none⟩ = some (.int .i64 3) ∧ w9.cell? ⟨bq, 1, none⟩ = some (.int .i64 0) ∧ w9.cell? ⟨bq, 2, none⟩ = some (.float .f64 0) ∧ w9.cell? ⟨bq, 3, none⟩ = some (.string nm) ∧ w9.cell? ⟨bq, 4, none⟩ = some (.slice none 0 0)) z13 := ⟨xx.cell hS.1, xx.cell hS.2.1, xx.cell hS.2.2.1, xx.cell hS.2.2.2.1, xx.cell hS.2.2.2.2⟩
          have HE := Lib.hid (HE.out.trans xx)
          have o16 := xx.obj o16
          refine hK.out _ _ (fun _ => hS) ?_
          clear hK K xx
          try simp only [Act.put, List.setIfInBounds_toArray, List.set_cons_zero, List.set_cons_succ]
          refine Upto.one (i := 4) (by kernel_rfl) rfl (fun K hK => ?_)
          go_simp
          have xx := (Ext.refl z13).alloc (.cells ([nm, bTable, bActive].flatMap vtext).toArray 28)
          have oq := heap_alloc_new z13 (.cells ([nm, bTable, bActive].flatMap vtext).toArray 28)
          have hltq : y10.heap.size ≤ z13.heap.size := HE.out.size_le'
          refine hK.out _ _ (fun _ => ⟨xx.cell hS.1, xx.cell hS.2.1, xx.cell hS.2.2.1, xx.cell hS.2.2.2.1, xx.cell hS.2.2.2.2⟩) ?_
          clear hK K
          show Upto _ _ _ _ _ _ _ _ _ (z13.alloc (.cells ([nm, bTable, bActive].flatMap vtext).toArray 28))
          revert xx oq hltq
          generalize World.alloc z13 _ = z14
          generalize z13.heap.size = qb
          intro xx oq hltq
          have hS : (fun w9 : World => w9.cell? ⟨bq, 0, none⟩ = some (.int .i64 3) ∧ w9.cell? ⟨bq, 1, none⟩ = some (.int .i64 0) ∧ w9.cell? ⟨bq, 2, none⟩ = some (.float .f64 0) ∧ w9.cell? ⟨bq, 3, none⟩ = some (.string nm) ∧ w9.cell? ⟨bq, 4, none⟩ = some (.slice none 0 0)) z14 := ⟨xx.cell hS.1, xx.cell hS.2.1, xx.cell hS.2.2.1, xx.cell hS.2.2.2.1, xx.cell hS.2.2.2.2⟩
          have HE := Lib.hid (HE.out.trans xx)
          have o16 := xx.obj o16
          clear xx
          try simp only [Act.put, List.setIfInBounds_toArray, List.set_cons_zero, List.set_cons_succ]
          refine Upto.one (i := 5) (by kernel_rfl) rfl (fun K hK => ?_)
          have hdW := H9.out.2.1.ext HE.out
          have T4 := do_texts (c := 3) (m := bCreate) [nm, bTable, bActive] hdW (Nat.le_of_lt hdW.lt) oq (fun e => by have := (CRow.lt H9.out.2.1.row _ e).2.1; omega) hs3 (Nat.le_refl 3) (by decide) (r := (L3, nilT, 0)) (by rw [HM.out]; exact HD.out.2.2.1)
          go_simp
          refine T4.mono ?_
          rintro e z15 ⟨vD, AD, cD, rfl, hdD, hrD, hcD, hfD⟩
          simp only [nilT, T.val, List.length_nil]
          have hzD := Below.trans (Ext.trans H9.out.1 HE.out) ((hdW.below (Nat.le_of_lt hdW.lt) hcD).mono HG.out)
          have oD := hcD.obj (HE.out.obj H9.out.2.2.1) (fun h => by
            rcases h with h | h
            · exact hgbq h
            · exact CRow.ne H9.out.2.1.row H9.out.2.2.1 (by decide) h.symm)
          have oE := hcD.obj (HE.out.obj H9.out.2.2.2.1) (fun h => by
            rcases h with h | h
            · exact H7g h
            · exact H9.out.2.2.2.2 h.symm)
          have o16 := hcD.obj o16 (fun h => by
            rcases h with h | h
            · have := H9.out.2.1.lt; omega
            · have := (CRow.lt H9.out.2.1.row _ h.symm).2.1; omega)
          have hS : (fun w9 : World => w9.cell? ⟨bq, 0, none⟩ = some (.int .i64 3) ∧ w9.cell? ⟨bq, 1, none⟩ = some (.int .i64 0) ∧ w9.cell? ⟨bq, 2, none⟩ = some (.float .f64 0) ∧ w9.cell? ⟨bq, 3, none⟩ = some (.string nm) ∧ w9.cell? ⟨bq, 4, none⟩ = some (.slice none 0 0)) z15 := ⟨(cell_of_row z15 bq 0 _ _ _ oD).trans rfl, (cell_of_row z15 bq 1 _ _ _ oD).trans rfl, (cell_of_row z15 bq 2 _ _ _ oD).trans rfl, (cell_of_row z15 bq 3 _ _ _ oD).trans rfl, (cell_of_row z15 bq 4 _ _ _ oD).trans rfl⟩
          have HDo := Lib.hid (And.intro hzD (And.intro hdD (And.intro oD oE)))
          refine hK.out _ _ (fun _ => hS) ?_
          clear hK K T4 hdW hdD hrD hcD hfD hzD oD oE oq HE
          try simp only [Act.put, List.setIfInBounds_toArray, List.set_cons_zero, List.set_cons_succ]
          refine Upto.takeD (i := 6) (some 78) (v := ?v112) rfl rfl (by kernel_rfl) (fun _ _ _ h => h) (Or.inl ⟨by rfl, ?y112⟩) hS ?r112
          case y112 =>
            rintro w9 ⟨s0, s1, s2, s3, s4⟩
            go_simp
            try with_reducible rfl
          try simp only [Act.put, List.setIfInBounds_toArray, List.set_cons_zero, List.set_cons_succ]
          refine Upto.takeD (i := 7) (some 85) (v := ?v113) rfl rfl (by kernel_rfl) (fun _ _ _ h => h) (Or.inl ⟨by rfl, ?y113⟩) hS ?r113
          case y113 =>
            rintro w9 ⟨s0, s1, s2, s3, s4⟩
            go_simp
            try with_reducible rfl
          try simp only [Act.put, List.setIfInBounds_toArray, List.set_cons_zero, List.set_cons_succ]
          refine Upto.takeD (i := 8) (some 86) (v := ?v114) rfl rfl (by kernel_rfl) (fun _ _ _ h => h) (Or.inl ⟨by rfl, ?y114⟩) hS ?r114
          case y114 =>
            rintro w9 ⟨s0, s1, s2, s3, s4⟩
            go_simp
            try with_reducible rfl
          try simp only [Act.put, List.setIfInBounds_toArray, List.set_cons_zero, List.set_cons_succ]
          refine Upto.one (i := 10) (by kernel_rfl) rfl (fun K hK => ?_)
          obtain ⟨k0, k1, k2, k3, k4, f0, f1, f2, f3, f4⟩ := cells5 o16
          go_simp
          obtain ⟨p16, hch⟩ := put5 (v0 := .int .i64 0) (v1 := .int .i64 0) (v2 := .float .f64 0) (v3 := .string ⟨#[]⟩) (v4 := .slice AD 0 cD) o16
          have q1 : b16 ≠ g := fun e => by
            have h1 := HDo.out.2.1.obj
            rw [← e, o16] at h1
            cases h1
          have q2 : vD.ownBlock ≠ some b16 := CRow.ne HDo.out.2.1.row o16 (by decide)
          have q4 : b12 ≠ b16 := fun e => by
            have h1 := HDo.out.2.2.2
            rw [e, o16] at h1
            cases h1
          have oF := hch.obj HDo.out.2.2.1 hq16
          have HZ := And.intro (((((Ext.put HDo.out.1 hB16).put hB16).put hB16).put hB16).put hB16 : Ext w (((((z15.setCell ⟨b16, 0, none⟩ (.int .i64 0)).setCell ⟨b16, 1, none⟩ (.int .i64 0)).setCell ⟨b16, 2, none⟩ (.float .f64 0)).setCell ⟨b16, 3, none⟩ (.string ⟨#[]⟩)).setCell ⟨b16, 4, none⟩ (.slice AD 0 cD))) (And.intro (HDo.out.2.1.chg hch (fun e => q1 e.symm) (fun k hk e => q2 (e ▸ hk))) (And.intro oF (hch.obj HDo.out.2.2.2 q4)))
          obtain ⟨yF, hyF⟩ : ∃ yF, yF = (((((z15.setCell ⟨b16, 0, none⟩ (.int .i64 0)).setCell ⟨b16, 1, none⟩ (.int .i64 0)).setCell ⟨b16, 2, none⟩ (.float .f64 0)).setCell ⟨b16, 3, none⟩ (.string ⟨#[]⟩)).setCell ⟨b16, 4, none⟩ (.slice AD 0 cD)) := ⟨_, rfl⟩
          rw [← hyF] at HZ oF
          rw [← hyF]
          clear hyF k0 k1 k2 k3 k4 f0 f1 f2 f3 f4 p16 hch q1 q2 q4 o16 hS HDo
          have hS : (fun w9 : World => w9.cell? ⟨bq, 0, none⟩ = some (.int .i64 3) ∧ w9.cell? ⟨bq, 1, none⟩ = some (.int .i64 0) ∧ w9.cell? ⟨bq, 2, none⟩ = some (.float .f64 0) ∧ w9.cell? ⟨bq, 3, none⟩ = some (.string nm) ∧ w9.cell? ⟨bq, 4, none⟩ = some (.slice none 0 0)) yF := ⟨(cell_of_row yF bq 0 _ _ _ oF).trans rfl, (cell_of_row yF bq 1 _ _ _ oF).trans rfl, (cell_of_row yF bq 2 _ _ _ oF).trans rfl, (cell_of_row yF bq 3 _ _ _ oF).trans rfl, (cell_of_row yF bq 4 _ _ _ oF).trans rfl⟩
          refine hK.out _ _ (fun _ => hS) ?_
          clear hK K
          try simp only [Act.put, List.setIfInBounds_toArray, List.set_cons_zero, List.set_cons_succ]
          refine Upto.one (i := 11) (by kernel_rfl) rfl (fun K hK => ?_)
          go_simp
          refine hK.out _ _ (fun h0 => absurd rfl h0) ?_
          clear hK K
          refine Upto.done (by kernel_rfl) ?_ _
          have c3 := hS.2.2.2.1
          have HF := Lib.hid HZ
          clear hS HZ oF
          go_wp2_with fail
          have e3 : getG L3 nm = ⟨nm, bTable, 0, 1⟩ := by rw [HM.out]; exact HD.out.2.2.2.1
          have e4 : hasN L3 nm = true := by rw [HM.out]; exact HD.out.2.2.2.2.1
          have G2 := get_any HF.out.2.1 nm
          rw [e3, e4] at G2
          clear e3 e4
          refine G2.mono ?_
          rintro e yG ⟨rfl, hxa⟩
          simp only [Gp.val]
          have hxb := (Ext.refl yG).alloc (.cells #[.string nm, .string bTable, .int .i64 0, .int .u32 1] 36)
          have c5 : (yG.alloc (.cells #[.string nm, .string bTable, .int .i64 0, .int .u32 1] 36)).cell? ⟨bq, 3, none⟩ = some (.string nm) := (cell_of_row _ bq 3 _ _ _ (hxb.obj (hxa.obj HF.out.2.2.1))).trans rfl
          have c6 : (yG.alloc (.cells #[.string nm, .string bTable, .int .i64 0, .int .u32 1] 36)).cell? ⟨b12, 3, none⟩ = some (.int .u32 2) := (cell_of_row _ b12 3 _ _ _ (hxb.obj (hxa.obj HF.out.2.2.2))).trans rfl
          have A1 := all_any ((HF.out.2.1.ext hxa).ext hxb)
          have HG2 := Lib.hid (Ext.trans (Ext.trans HF.out.1 hxa) hxb)
          have hl3 : L3.length = min j 16 := HD.out.2.2.2.2.2
          have hT : bTable.toList = [116, 97, 98, 108, 101] := by rw [Lib.toList_data]; rfl
          clear G2 hxa hxb c3
          go_wp2_with fail
          refine A1.mono ?_
          rintro e yH ⟨vH, rfl, hrH, hxH⟩
          obtain ⟨AH, cH, rfl, _⟩ := hrH.form
          have HR := Lib.hid (HG2.out.trans hxH)
          clear hrH hxH A1
          rw [hl3]
          have hmin : (((min j 16 : Nat) : Int) == min (j : Int) 16) = true := by rw [beq_iff_eq]; omega
          go_wp2_with fail
          go_ret
          exact ⟨rfl, HR.out⟩
      · go_simp
        have xx := (Ext.refl yd).alloc (.cells #[.int .i64 0, .int .i64 0, .float .f64 0, .string ⟨#[]⟩, .slice none 0 0] 28)
        have o16 := heap_alloc_new yd (.cells #[.int .i64 0, .int .i64 0, .float .f64 0, .string ⟨#[]⟩, .slice none 0 0] 28)
        have hlt16 : y10.heap.size ≤ yd.heap.size := HE.out.size_le'
        have hB16 : w.heap.size ≤ yd.heap.size := Nat.le_trans H9.out.1.size_le' HE.out.size_le'
        have hq16 : bq ≠ yd.heap.size := by have h := (Array.getElem?_eq_some_iff.1 H9.out.2.2.1).1; omega
        refine hK.out _ _ (fun _ => ⟨xx.cell hS.1, xx.cell hS.2.1, xx.cell hS.2.2.1, xx.cell hS.2.2.2.1, xx.cell hS.2.2.2.2⟩) ?_
        clear hK K
        revert xx o16 hlt16 hB16 hq16
        generalize World.alloc yd _ = z2
        generalize yd.heap.size = b16
        intro xx o16 hlt16 hB16 hq16
        have hS : (fun w9 : World => w9.cell? ⟨bq, 0, none⟩ = some (.int .i64 3) ∧ w9.cell? ⟨bq, 1, none⟩ = some (.int .i64 0) ∧ w9.cell? ⟨bq, 2, none⟩ = some (.float .f64 0) ∧ w9.cell? ⟨bq, 3, none⟩ = some (.string nm) ∧ w9.cell? ⟨bq, 4, none⟩ = some (.slice none 0 0)) z2 := ⟨xx.cell hS.1, xx.cell hS.2.1, xx.cell hS.2.2.1, xx.cell hS.2.2.2.1, xx.cell hS.2.2.2.2⟩
        have HE := Lib.hid (HE.out.trans xx)
        clear xx
        try simp only [Act.put, List.setIfInBounds_toArray, List.set_cons_zero, List.set_cons_succ]
        refine Upto.one (i := 2) (by kernel_rfl) rfl (fun K hK => ?_)
        go_simp
        refine (rtext_any _ _).mono ?_
        rintro e z16 ⟨rfl, xx⟩
        have hS : (fun w9 : World => w9.cell? ⟨bq, 0, none⟩ = some (.int .i64 3) ∧ w9.cell? ⟨bq, 1, none⟩ = some (.int .i64 0) ∧ w9.cell? ⟨bq, 2, none⟩ = some (.float .f64 0) ∧ w9.cell? ⟨bq, 3, none⟩ = some (.string nm) ∧ w9.cell? ⟨bq, 4, none⟩ = some (.slice none 0 0)) z16 := ⟨xx.cell hS.1, xx.cell hS.2.1, xx.cell hS.2.2.1, xx.cell hS.2.2.2.1, xx.cell hS.2.2.2.2⟩
        have HE := Lib.hid (HE.out.trans xx)
        have o16 := xx.obj o16
        refine hK.out _ _ (fun _ => hS) ?_
        clear hK K xx
        try simp only [Act.put, List.setIfInBounds_toArray, List.set_cons_zero, List.set_cons_succ]
        refine Upto.one (i := 3) (by kernel_rfl) rfl (fun K hK => ?_)
        go_simp
        refine (rtext_any _ _).mono ?_
        rintro e z17 ⟨rfl, xx⟩
        have hS : (fun w9 : World => w9.cell? ⟨bq, 0, none⟩ = some (.int .i64 3) ∧ w9.cell? ⟨bq, 1, none⟩ = some (.int .i64 0) ∧ w9.cell? ⟨bq, 2, none⟩ = some (.float .f64 0) ∧ w9.cell? ⟨bq, 3, none⟩ = some (.string nm) ∧ w9.cell? ⟨bq, 4, none⟩ = some (.slice none 0 0)) z17 := ⟨xx.cell hS.1, xx.cell hS.2.1, xx.cell hS.2.2.1, xx.cell hS.2.2.2.1, xx.cell hS.2.2.2.2⟩
        have HE := Lib.hid (HE.out.trans xx)
        have o16 := xx.obj o16
        refine hK.out _ _ (fun _ => hS) ?_
        clear hK K xx
        try simp only [Act.put, List.setIfInBounds_toArray, List.set_cons_zero, List.set_cons_succ]
        refine Upto.one (i := 4) (by kernel_rfl) rfl (fun K hK => ?_)
        go_simp
        have xx := (Ext.refl z17).alloc (.cells ([nm, bTable, bActive].flatMap vtext).toArray 28)
        have oq := heap_alloc_new z17 (.cells ([nm, bTable, bActive].flatMap vtext).toArray 28)
        have hltq : y10.heap.size ≤ z17.heap.size := HE.out.size_le'
        refine hK.out _ _ (fun _ => ⟨xx.cell hS.1, xx.cell hS.2.1, xx.cell hS.2.2.1, xx.cell hS.2.2.2.1, xx.cell hS.2.2.2.2⟩) ?_
        clear hK K
        show Upto _ _ _ _ _ _ _ _ _ (z17.alloc (.cells ([nm, bTable, bActive].flatMap vtext).toArray 28))
        revert xx oq hltq
        generalize World.alloc z17 _ = z18
        generalize z17.heap.size = qb
        intro xx oq hltq
        have hS : (fun w9 : World => w9.cell? ⟨bq, 0, none⟩ = some (.int .i64 3) ∧ w9.cell? ⟨bq, 1, none⟩ = some (.int .i64 0) ∧ w9.cell? ⟨bq, 2, none⟩ = some (.float .f64 0) ∧ w9.cell? ⟨bq, 3, none⟩ = some (.string nm) ∧ w9.cell? ⟨bq, 4, none⟩ = some (.slice none 0 0)) z18 := ⟨xx.cell hS.1, xx.cell hS.2.1, xx.cell hS.2.2.1, xx.cell hS.2.2.2.1, xx.cell hS.2.2.2.2⟩
        have HE := Lib.hid (HE.out.trans xx)
        have o16 := xx.obj o16
        clear xx
        try simp only [Act.put, List.setIfInBounds_toArray, List.set_cons_zero, List.set_cons_succ]
        refine Upto.one (i := 5) (by kernel_rfl) rfl (fun K hK => ?_)
        have hdW := H9.out.2.1.ext HE.out
        have T4 := do_texts (c := 3) (m := bCreate) [nm, bTable, bActive] hdW (Nat.le_of_lt hdW.lt) oq (fun e => by have := (CRow.lt H9.out.2.1.row _ e).2.1; omega) hs3 (Nat.le_refl 3) (by decide) (r := (L3, nilT, 0)) (by rw [HM.out]; exact HD.out.2.2.1)
        go_simp
        refine T4.mono ?_
        rintro e z19 ⟨vD, AD, cD, rfl, hdD, hrD, hcD, hfD⟩
        simp only [nilT, T.val, List.length_nil]
        have hzD := Below.trans (Ext.trans H9.out.1 HE.out) ((hdW.below (Nat.le_of_lt hdW.lt) hcD).mono HG.out)
        have oD := hcD.obj (HE.out.obj H9.out.2.2.1) (fun h => by
          rcases h with h | h
          · exact hgbq h
          · exact CRow.ne H9.out.2.1.row H9.out.2.2.1 (by decide) h.symm)
        have oE := hcD.obj (HE.out.obj H9.out.2.2.2.1) (fun h => by
          rcases h with h | h
          · exact H7g h
          · exact H9.out.2.2.2.2 h.symm)
        have o16 := hcD.obj o16 (fun h => by
          rcases h with h | h
          · have := H9.out.2.1.lt; omega
          · have := (CRow.lt H9.out.2.1.row _ h.symm).2.1; omega)
        have hS : (fun w9 : World => w9.cell? ⟨bq, 0, none⟩ = some (.int .i64 3) ∧ w9.cell? ⟨bq, 1, none⟩ = some (.int .i64 0) ∧ w9.cell? ⟨bq, 2, none⟩ = some (.float .f64 0) ∧ w9.cell? ⟨bq, 3, none⟩ = some (.string nm) ∧ w9.cell? ⟨bq, 4, none⟩ = some (.slice none 0 0)) z19 := ⟨(cell_of_row z19 bq 0 _ _ _ oD).trans rfl, (cell_of_row z19 bq 1 _ _ _ oD).trans rfl, (cell_of_row z19 bq 2 _ _ _ oD).trans rfl, (cell_of_row z19 bq 3 _ _ _ oD).trans rfl, (cell_of_row z19 bq 4 _ _ _ oD).trans rfl⟩
        have HDo := Lib.hid (And.intro hzD (And.intro hdD (And.intro oD oE)))
        refine hK.out _ _ (fun _ => hS) ?_
        clear hK K T4 hdW hdD hrD hcD hfD hzD oD oE oq HE
        try simp only [Act.put, List.setIfInBounds_toArray, List.set_cons_zero, List.set_cons_succ]
        refine Upto.takeD (i := 6) (some 78) (v := ?v115) rfl rfl (by kernel_rfl) (fun _ _ _ h => h) (Or.inl ⟨by rfl, ?y115⟩) hS ?r115
        case y115 =>
          rintro w9 ⟨s0, s1, s2, s3, s4⟩
          go_simp
          try with_reducible rfl
        try simp only [Act.put, List.setIfInBounds_toArray, List.set_cons_zero, List.set_cons_succ]
        refine Upto.takeD (i := 7) (some 85) (v := ?v116) rfl rfl (by kernel_rfl) (fun _ _ _ h => h) (Or.inl ⟨by rfl, ?y116⟩) hS ?r116
        case y116 =>
          rintro w9 ⟨s0, s1, s2, s3, s4⟩
          go_simp
          try with_reducible rfl
        try simp only [Act.put, List.setIfInBounds_toArray, List.set_cons_zero, List.set_cons_succ]
        refine Upto.takeD (i := 8) (some 86) (v := ?v117) rfl rfl (by kernel_rfl) (fun _ _ _ h => h) (Or.inl ⟨by rfl, ?y117⟩) hS ?r117
        case y117 =>
          rintro w9 ⟨s0, s1, s2, s3, s4⟩
          go_simp
          try with_reducible rfl
        try simp only [Act.put, List.setIfInBounds_toArray, List.set_cons_zero, List.set_cons_succ]
        refine Upto.one (i := 10) (by kernel_rfl) rfl (fun K hK => ?_)
        obtain ⟨k0, k1, k2, k3, k4, f0, f1, f2, f3, f4⟩ := cells5 o16
        go_simp
        obtain ⟨p16, hch⟩ := put5 (v0 := .int .i64 0) (v1 := .int .i64 0) (v2 := .float .f64 0) (v3 := .string ⟨#[]⟩) (v4 := .slice AD 0 cD) o16
        have q1 : b16 ≠ g := fun e => by
          have h1 := HDo.out.2.1.obj
          rw [← e, o16] at h1
          cases h1
        have q2 : vD.ownBlock ≠ some b16 := CRow.ne HDo.out.2.1.row o16 (by decide)
        have q4 : b12 ≠ b16 := fun e => by
          have h1 := HDo.out.2.2.2
          rw [e, o16] at h1
          cases h1
        have oF := hch.obj HDo.out.2.2.1 hq16
        have HZ := And.intro (((((Ext.put HDo.out.1 hB16).put hB16).put hB16).put hB16).put hB16 : Ext w (((((z19.setCell ⟨b16, 0, none⟩ (.int .i64 0)).setCell ⟨b16, 1, none⟩ (.int .i64 0)).setCell ⟨b16, 2, none⟩ (.float .f64 0)).setCell ⟨b16, 3, none⟩ (.string ⟨#[]⟩)).setCell ⟨b16, 4, none⟩ (.slice AD 0 cD))) (And.intro (HDo.out.2.1.chg hch (fun e => q1 e.symm) (fun k hk e => q2 (e ▸ hk))) (And.intro oF (hch.obj HDo.out.2.2.2 q4)))
        obtain ⟨yF, hyF⟩ : ∃ yF, yF = (((((z19.setCell ⟨b16, 0, none⟩ (.int .i64 0)).setCell ⟨b16, 1, none⟩ (.int .i64 0)).setCell ⟨b16, 2, none⟩ (.float .f64 0)).setCell ⟨b16, 3, none⟩ (.string ⟨#[]⟩)).setCell ⟨b16, 4, none⟩ (.slice AD 0 cD)) := ⟨_, rfl⟩
        rw [← hyF] at HZ oF
        rw [← hyF]
        clear hyF k0 k1 k2 k3 k4 f0 f1 f2 f3 f4 p16 hch q1 q2 q4 o16 hS HDo
        have hS : (fun w9 : World => w9.cell? ⟨bq, 0, none⟩ = some (.int .i64 3) ∧ w9.cell? ⟨bq, 1, none⟩ = some (.int .i64 0) ∧ w9.cell? ⟨bq, 2, none⟩ = some (.float .f64 0) ∧ w9.cell? ⟨bq, 3, none⟩ = some (.string nm) ∧ w9.cell? ⟨bq, 4, none⟩ = some (.slice none 0 0)) yF := ⟨(cell_of_row yF bq 0 _ _ _ oF).trans rfl, (cell_of_row yF bq 1 _ _ _ oF).trans rfl, (cell_of_row yF bq 2 _ _ _ oF).trans rfl, (cell_of_row yF bq 3 _ _ _ oF).trans rfl, (cell_of_row yF bq 4 _ _ _ oF).trans rfl⟩
        refine hK.out _ _ (fun _ => hS) ?_
        clear hK K
        try simp only [Act.put, List.setIfInBounds_toArray, List.set_cons_zero, List.set_cons_succ]
        refine Upto.one (i := 11) (by kernel_rfl) rfl (fun K hK => ?_)
        go_simp
        refine hK.out _ _ (fun h0 => absurd rfl h0) ?_
        clear hK K
        refine Upto.done (by kernel_rfl) ?_ _
        have c3 := hS.2.2.2.1
        have HF := Lib.hid HZ
        clear hS HZ oF
        go_wp2_with fail
        have e3 : getG L3 nm = ⟨nm, bTable, 0, 1⟩ := by rw [HM.out]; exact HD.out.2.2.2.1
        have e4 : hasN L3 nm = true := by rw [HM.out]; exact HD.out.2.2.2.2.1
        have G2 := get_any HF.out.2.1 nm
        rw [e3, e4] at G2
        clear e3 e4
        refine G2.mono ?_
        rintro e yG ⟨rfl, hxa⟩
        simp only [Gp.val]
        have hxb := (Ext.refl yG).alloc (.cells #[.string nm, .string bTable, .int .i64 0, .int .u32 1] 36)
        have c5 : (yG.alloc (.cells #[.string nm, .string bTable, .int .i64 0, .int .u32 1] 36)).cell? ⟨bq, 3, none⟩ = some (.string nm) := (cell_of_row _ bq 3 _ _ _ (hxb.obj (hxa.obj HF.out.2.2.1))).trans rfl
        have c6 : (yG.alloc (.cells #[.string nm, .string bTable, .int .i64 0, .int .u32 1] 36)).cell? ⟨b12, 3, none⟩ = some (.int .u32 2) := (cell_of_row _ b12 3 _ _ _ (hxb.obj (hxa.obj HF.out.2.2.2))).trans rfl
        have A1 := all_any ((HF.out.2.1.ext hxa).ext hxb)
        have HG2 := Lib.hid (Ext.trans (Ext.trans HF.out.1 hxa) hxb)
        have hl3 : L3.length = min j 16 := HD.out.2.2.2.2.2
        have hT : bTable.toList = [116, 97, 98, 108, 101] := by rw [Lib.toList_data]; rfl
        clear G2 hxa hxb c3
        go_wp2_with fail
        refine A1.mono ?_
        rintro e yH ⟨vH, rfl, hrH, hxH⟩
        obtain ⟨AH, cH, rfl, _⟩ := hrH.form
        have HR := Lib.hid (HG2.out.trans hxH)
        clear hrH hxH A1
        rw [hl3]
        have hmin : (((min j 16 : Nat) : Int) == min (j : Int) 16) = true := by rw [beq_iff_eq]; omega
        go_wp2_with fail
        go_ret
        exact ⟨rfl, HR.out⟩
end Go.Proofs.Ytdcbpnkcpglhhaa
