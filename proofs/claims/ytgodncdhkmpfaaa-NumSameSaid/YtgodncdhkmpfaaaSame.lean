/- NumSame: what the law walks through; floats that came in. -/
import Derived.Test.YtgodncdhkmpfaaaRow5
import Derived.Test.YtgodncdhkmpfaaaSums3
import Derived.Deep.RegionWith
namespace Go.Proofs.Ytgodncdhkmpfaaa
open Go.RowKit
set_option linter.unusedVariables false
set_option linter.unusedSimpArgs false
attribute [local go_sem] stepR givesR fillE Ext.refl

/-- floats that came in -/
def Floats (w : World) (A : Option Addr) (l : Nat) (F : Nat → Nat) : Prop := 0 < l → ∃ b off, A = some ⟨b, off, none⟩ ∧ ∀ j, j < l → w.cell? ⟨b, off + j, none⟩ = some (.float .f64 (F j)) ∧ F j < 18446744073709551616
theorem Floats.ext {w w' : World} {A : Option Addr} {l : Nat} {F : Nat → Nat} (h : Floats w A l F) (hx : Ext w w') : Floats w' A l F := fun h0 => by
  obtain ⟨b, off, e, h⟩ := h h0
  exact ⟨b, off, e, fun j hj => ⟨hx.cell (h j hj).1, (h j hj).2⟩⟩
def made (F : Nat → Nat) (j : Nat) : List Nat := (List.range j).map fun i => canon (F i)
theorem made_length (F : Nat → Nat) (j : Nat) : (made F j).length = j := by simp [made]
theorem made_succ (F : Nat → Nat) (j : Nat) : made F (j + 1) = made F j ++ [canon (F j)] := by simp [made, List.range_succ]
theorem canon_lt {f : Nat} (h : f < 18446744073709551616) : canon f < 18446744073709551616 := by
  unfold canon nanW
  split <;> omega
theorem RowV.less {w : World} {n : Nat} {A : Option Addr} {l k : Nat} {g : Nat → Val} (h : RowV w n A l g) (hk : k ≤ l) : RowV w n A k g := fun h0 => by
  obtain ⟨b, off, e, hj⟩ := h (by omega)
  exact ⟨b, off, e, fun j hl => hj j (by omega)⟩

theorem Own.ext {w w' : World} {base : Nat} {v : Value} {F : List Nat} (h : Own w base v F) (hx : Ext w w') : Own w' base v F := by
  obtain ⟨h1, h⟩ := h
  refine ⟨h1, ?_⟩
  rcases h with h | ⟨g, cap, cur, e, hb, hg, h⟩
  · exact .inl h
  · exact .inr ⟨g, cap, cur, e, hb, (hx.block g (Array.getElem?_eq_some_iff.1 hg).1).trans hg, h⟩

set_option maxRecDepth 100000 in
set_option maxHeartbeats 4000000 in
theorem numSame_law (w : World) (A : Option Addr) (l c : Nat) (F : Nat → Nat) (hv : Floats w A l F ∧ l ≤ c ∧ c ≤ maxLen) (n : Int) (hn : (Lit.int .u8 n).wf = true) : Calls Try.prog 5 #[.slice A l c, .int .u8 n] w (Ret (.bool true) w) := by
  have HV := Lib.hid hv
  have hn' : 0 ≤ n ∧ n ≤ 255 := by simpa [Lit.wf, IntKind.min, IntKind.max, IntKind.signed, IntKind.bits] using hn
  have HN := Lib.hid hn'
  clear hv hn hn'
  by_cases h60 : 60 < l
  · have h60' : (60 : Int) < (l : Int) := by omega
    go_enter Try.func5, Try.ntmps5
    go_wp2_with fail
    refine (known_any _).mono ?_
    rintro e w1 ⟨rfl, hx⟩
    go_wp2
    go_ret
    exact ⟨rfl, hx⟩
  have h60' : ((60 : Int) < (l : Int)) = False := by simp; omega
  go_enter Try.func5, Try.ntmps5
  go_wp2_with fail
  refine (known_any _).mono ?_
  rintro e w1 ⟨rfl, hx⟩
  go_wp2_with fail
  go_loopw [5, 6] (fun v i wr => ∃ j : Nat, j ≤ l ∧ i = .int .i64 j ∧ Ext w wr ∧ Own wr w.heap.size v (made F j) ∧ (j = 0 → v = .slice none 0 0)) (fun v i _ => l - (intOf i).toNat)
  case atStart => exact ⟨0, Nat.zero_le _, rfl, hx, World.ownsRow_nil _ _ _ _, fun _ => rfl⟩
  case round =>
    clear hx
    obtain ⟨j, hj, rfl, hw, hown, hnil⟩ := hrel
    have HZ := Lib.hid hnil
    clear hnil
    have HO := Lib.hid hown
    clear hown
    by_cases hlt : j < l
    · obtain ⟨b, off, rfl, hel⟩ := (HV.out.1.ext hw) (by omega)
      obtain ⟨e0, hfj⟩ := hel j hlt
      clear hel
      have hj1 : wrap64 ((j : Int) + 1) = (j : Int) + 1 := succ_in HV.out.2 hlt
      have hji : (j : Int) < (l : Int) := by omega
      go_wp2_with fail
      refine (float_is _ _).mono ?_
      rintro e w2 ⟨rfl, h2⟩
      have V := VAt.new w2 2 0 (canon (F j)) ⟨#[]⟩ (.slice none 0 0)
      have ga := h2.alloc (.cells #[.int .i64 2, .int .i64 0, .float .f64 (canon (F j)), .string ⟨#[]⟩, .slice none 0 0] 31)
      have HO2 := Lib.hid (HO.out.ext ga)
      replace hw := hw.trans ga
      clear h2 ga e0 HO
      have hsz := hw.size_le
      have hown := HO2.out
      go_wp2_with (at_builtin; refine wpList_append_val rfl (.tmp 24) (.tmp 30) rfl w.heap.size u5 (made F j) (canon (F j)) rfl w2.heap.size 1 rfl V hown (by rw [made_length]; omega) hsz ?next)
      case next =>
        intro v' w' h1 h2
        rw [← made_succ] at h1
        have hw' : Ext w w' := Below.grown hw h2 hsz (fun k hk => (World.ownsRow.lt HO2.out k hk).1)
        have H1 := Lib.hid h1
        clear h1 h2 hw HO2 hown V
        go_wp2_with fail
        go_roundw
        case rel => exact ⟨j + 1, by omega, by go_num, hw', H1.out, fun h => by omega⟩
        case measure => exact dec_lt hlt
    · have hnl : ((j : Int) < (l : Int)) = False := by simp; omega
      have hjl : j = l := by omega
      subst hjl
      have hlt' : ∀ f ∈ made F j, f < 18446744073709551616 := by
        intro f hf
        simp only [made, List.mem_map, List.mem_range] at hf
        obtain ⟨q, hq, rfl⟩ := hf
        obtain ⟨_, _, _, hel⟩ := HV.out.1 (by omega)
        exact canon_lt (hel q hq).2
      obtain ⟨A', c', rfl, hvals, hrow, hlc⟩ := HO.out.vals hlt'
      rw [made_length] at hvals hrow hlc ⊢
      obtain ⟨G, hG⟩ : ∃ G : Nat → Nat, (fun i => (made F j).getD i 0) = G := ⟨_, rfl⟩
      have hGG : (fun i => fval ((made F j).getD i 0)) = fun i => fval (G i) := by rw [← hG]
      rw [hGG] at hrow
      have HR := Lib.hid (And.intro hrow hlc)
      clear hrow hlc hvals hG hGG HO hlt'
      by_cases h0 : j = 0
      · subst h0
        have e := HZ.out rfl
        injection e with e1 e2 e3
        subst e1 e3
        have hsum : sumFrom (fun i => fval (G i)) 0 0 = ⟨1, 0, 0, 0⟩ := rfl
        have HS := Lib.hid hsum
        clear hsum
        go_wp2_with fail
        refine (sum_any _ 1 none 0 0 (fun i => fval (G i)) (fun h => absurd h (Nat.lt_irrefl 0)) ⟨Nat.le_refl _, Nat.zero_le _⟩).mono ?_
        rintro e w3 ⟨rfl, h3⟩
        rw [HS.out]
        simp only [Acc.val]
        have g3 := h3.alloc (.cells #[.int .i64 1, .int .i64 0, .float .f64 0, .string ⟨#[]⟩, .slice none 0 0] 31)
        have V7 := VAt.new w3 1 0 0 ⟨#[]⟩ (.slice none 0 0)
        replace hw := hw.trans g3
        clear g3 h3
        go_wp2_with fail
        refine (sum_any _ 1 none 0 0 (fun i => fval (G i)) (fun h => absurd h (Nat.lt_irrefl 0)) ⟨Nat.le_refl _, Nat.zero_le _⟩).mono ?_
        rintro e w4 ⟨rfl, h4⟩
        rw [HS.out]
        simp only [Acc.val]
        have g4 := h4.alloc (.cells #[.int .i64 1, .int .i64 0, .float .f64 0, .string ⟨#[]⟩, .slice none 0 0] 31)
        have V10 := VAt.new w4 1 0 0 ⟨#[]⟩ (.slice none 0 0)
        replace V7 := V7.ext g4
        replace hw := hw.trans g4
        clear g4 h4 HS
        go_wp2_with fail
        refine wp_loop_once ?_
        obtain ⟨c0, c1, c2, c3, c4⟩ := V7.pack
        obtain ⟨d0, d1, d2, d3, d4⟩ := V10.pack
        go_wp2_with fail
        refine (same_flat _ _ _ _).mono ?_
        rintro e w7 ⟨rfl, h7'⟩
        go_wp2
        go_ret
        exact ⟨rfl, hw.trans h7'⟩
      · obtain ⟨bv, ov, rfl, _⟩ := HR.out.1 (by omega)
        have h0' : (0 : Int) < (j : Int) := by omega
        have hd0 : decide (0 < j) = true := by simp; omega
        obtain ⟨k, hk, hkj⟩ : ∃ k : Nat, n.tmod (j : Int) = (k : Int) ∧ k < j := by
          refine ⟨(n % (j : Int)).toNat, ?_, ?_⟩
          · rw [Int.tmod_eq_emod_of_nonneg HN.out.1, Int.toNat_of_nonneg (Int.emod_nonneg _ (by omega))]
          · have := Int.emod_lt_of_pos n h0'
            have := Int.emod_nonneg n (show (j : Int) ≠ 0 by omega)
            omega
        have hwn : IntKind.i64.wrap n = n := by rw [wrapEq]; exact wrap_in (by have := HN.out; unfold inR; omega)
        have hkc : (k : Int) ≤ (c' : Int) := by have := HR.out.2; omega
        have hkn : ((k : Int) < 0) = False := by simp
        go_wp2_with fail
        refine (sum_any _ 1 _ j c' _ (HR.out.1) HR.out.2).mono ?_
        rintro e w3 ⟨rfl, h3⟩
        rw [sum_fine, Nat.zero_add]
        obtain ⟨P, hP⟩ : ∃ P, acc (fun i => fval (G i)) j = P := ⟨_, rfl⟩
        have hPe : P.e = 0 := by rw [← hP]; exact acc_fine G j
        rw [hP]
        obtain ⟨p, q, r, e⟩ := P
        simp only at hPe
        subst hPe
        have HP := Lib.hid hP
        clear hP
        simp only [Acc.val]
        have g3 := h3.alloc (.cells #[.int .i64 p, .int .i64 q, .float .f64 r, .string ⟨#[]⟩, .slice none 0 0] 31)
        have V7 := VAt.new w3 p q r ⟨#[]⟩ (.slice none 0 0)
        have HR3 := Lib.hid (And.intro (HR.out.1.ext g3) HR.out.2)
        replace hw := hw.trans g3
        clear g3 h3 HR
        go_wp2_with fail
        refine (sum_any _ 1 _ k c' _ (HR3.out.1.less (by omega)) ⟨by omega, HR3.out.2.2⟩).mono ?_
        rintro e w4 ⟨rfl, h4⟩
        rw [sum_fine, Nat.zero_add]
        obtain ⟨P2, hP2⟩ : ∃ P, acc (fun i => fval (G i)) k = P := ⟨_, rfl⟩
        have hPe : P2.e = 0 := by rw [← hP2]; exact acc_fine G k
        rw [hP2]
        obtain ⟨p2, q2, r2, e⟩ := P2
        simp only at hPe
        subst hPe
        have HP2 := Lib.hid hP2
        clear hP2
        simp only [Acc.val]
        have g4 := h4.alloc (.cells #[.int .i64 p2, .int .i64 q2, .float .f64 r2, .string ⟨#[]⟩, .slice none 0 0] 31)
        have V10 := VAt.new w4 p2 q2 r2 ⟨#[]⟩ (.slice none 0 0)
        have h7 : w3.heap.size < w4.heap.size := Nat.lt_of_lt_of_le V7.lt h4.size_le
        obtain ⟨bv', ov', ebv, hat⟩ := HR3.out.1 (by omega)
        obtain ⟨rfl, rfl⟩ : bv = bv' ∧ ov = ov' := by simpa using ebv
        have hbv : bv < w4.heap.size := Nat.lt_of_lt_of_le (World.block_lt_of_cell? _ _ (hat 0 (by omega)).1.c0) h4.size_le
        have HAT : Hid (∀ i, i < j → At (w4.alloc (.cells #[.int .i64 p2, .int .i64 q2, .float .f64 r2, .string ⟨#[]⟩, .slice none 0 0] 31)) bv (ov + i * 5) (fval (G i))) := fun i hi => (hat i hi).1.ext g4
        replace V7 := V7.ext g4
        have hs4 : w.heap.size ≤ w4.heap.size := Nat.le_trans hw.size_le h4.size_le
        replace hw := hw.trans g4
        have hcc := HR3.out.2
        have HCC := Lib.hid hcc
        clear g4 h4 hat ebv HR3 hcc
        go_wp2_with fail
        revert V7 V10 hw HAT
        generalize World.alloc _ _ = w5
        generalize w4.heap.size = b10 at *
        generalize w3.heap.size = b7 at *
        intro V10 HAT V7 hw
        clear hwn hk hkn hkc
        go_loopw [12] (fun i wr => ∃ t : Nat, k ≤ t ∧ t ≤ j ∧ i = .int .i64 t ∧ Below b10 w5 wr ∧ VAt wr b10 (acc (fun i => fval (G i)) t).k (acc (fun i => fval (G i)) t).i (acc (fun i => fval (G i)) t).f ⟨#[]⟩ (.slice none 0 0)) (fun i _ => j - (intOf i).toNat)
        case atStart => exact ⟨k, Nat.le_refl _, by omega, rfl, Below.refl _ _, by rw [HP2.out]; exact V10⟩
        case round =>
          clear V10
          obtain ⟨t, hkt, htj, rfl, hb, V10⟩ := hrel
          have hx : Ext w wr := Below.trans hw (Below.mono hb hs4)
          have V7 : VAt wr b7 p q r ⟨#[]⟩ (.slice none 0 0) := ⟨(hb.block b7 h7).trans V7.heap⟩
          by_cases hlt : t < j
          · have hat := HAT.out t hlt
            have e0 := (Below.cell hb (p := ⟨bv, ov + t * 5, none⟩) hbv).trans hat.c0
            have e1 := (Below.cell hb (p := ⟨bv, ov + t * 5 + 1, none⟩) hbv).trans hat.c1
            have e2 := (Below.cell hb (p := ⟨bv, ov + t * 5 + 2, none⟩) hbv).trans hat.c2
            have e3 := (Below.cell hb (p := ⟨bv, ov + t * 5 + 3, none⟩) hbv).trans hat.c3
            have e4 := (Below.cell hb (p := ⟨bv, ov + t * 5 + 4, none⟩) hbv).trans hat.c4
            simp only [fval] at e0 e1 e2 e3 e4
            have ht1 : wrap64 ((t : Int) + 1) = (t : Int) + 1 := succ_in HCC.out hlt
            have hti : (t : Int) < (j : Int) := Int.ofNat_lt.2 hlt
            have htn : ((t : Int) < 0) = False := by simp
            obtain ⟨c0, c1, c2, c3, c4⟩ := V10.pack
            obtain ⟨⟨p3, q3, r3, e⟩, hQ⟩ : ∃ P, addA (acc (fun i => fval (G i)) t) (fval (G t)) = P := ⟨_, rfl⟩
            have hQ1 : acc (fun i => fval (G i)) (t + 1) = ⟨p3, q3, r3, e⟩ := hQ
            have HB : Hid (numOp .add wAdd (acc (fun i => fval (G i)) t).k (acc (fun i => fval (G i)) t).i (acc (fun i => fval (G i)) t).f 2 0 (G t) = (⟨p3, q3, r3, e⟩ : Acc).val) := by
              rw [← hQ]
              exact addA_is _ (fval (G t))
            have HQ1 := Lib.hid hQ1
            clear hQ hQ1 hat
            go_wp2_with fail
            go_region_with (go_at_call 24; refine (numAdd_any _ _ (acc_inR _ t) _ _ _ _ _ inR0 _ _ _ _).mono ?_; rintro e9 w6 ⟨rfl, h6⟩; rw [HB.out]; simp only [Acc.val]; have V11 := V10.ext (Ext.trans (by first | exact Ext.refl _ | exact (Ext.refl _).drew | exact (Ext.refl _).drew.drew | exact (Ext.refl _).drew.drew.drew) h6); obtain ⟨d0, d1, d2, d3, d4⟩ := V11.pack; have z := V11.free)
            all_goals
              go_simp
              have hx2 : Ext wr w6 := Ext.trans (Ext.refl wr).drew h6
              have hwr : b10 ≤ wr.heap.size := Nat.le_of_lt V10.lt
              have V12 := V11.put p3 q3 r3 ⟨#[]⟩ (.slice none 0 0)
              have hb2 : Below b10 w5 w6 := Below.trans hb (Below.mono hx2 hwr)
              have hb3 := Below.setCell (Below.setCell (Below.setCell (Below.setCell (Below.setCell hb2 (p := ⟨b10, 0, none⟩) (Nat.le_refl _) (.int .i64 p3)) (p := ⟨b10, 1, none⟩) (Nat.le_refl _) (.int .i64 q3)) (p := ⟨b10, 2, none⟩) (Nat.le_refl _) (.float .f64 r3)) (p := ⟨b10, 3, none⟩) (Nat.le_refl _) (.string ⟨#[]⟩)) (p := ⟨b10, 4, none⟩) (Nat.le_refl _) (.slice none 0 0)
              clear c0 c1 c2 c3 c4 d0 d1 d2 d3 d4 z e0 e1 e2 e3 e4 V11 h6 hx2 hwr hb2 V10 hb hx V7 HB
              revert V12 hb3
              generalize World.setCell _ _ _ = w8
              intro V12 hb3
              go_wp2_with fail
              go_roundw
              case rel => exact ⟨t + 1, Nat.le_succ_of_le hkt, hlt, by first | (rw [ht1]; rfl) | rfl, hb3, by rw [HQ1.out]; exact V12⟩
              case measure => first | (rw [ht1]; exact dec_lt hlt) | exact dec_lt hlt
          · have hnl : ((t : Int) < (j : Int)) = False := by simp; omega
            obtain rfl : t = j := by omega
            have V10' : VAt wr b10 p q r ⟨#[]⟩ (.slice none 0 0) := by rw [HP.out] at V10; exact V10
            clear V10
            obtain ⟨c0, c1, c2, c3, c4⟩ := V7.pack
            obtain ⟨d0, d1, d2, d3, d4⟩ := V10'.pack
            go_wp2_with fail
            refine (same_flat _ _ _ _).mono ?_
            rintro e w7 ⟨rfl, h7'⟩
            go_wp2
            go_ret
            exact ⟨rfl, hx.trans h7'⟩

section
open Go.ChangeShapes Go.WideShapes Go.ChangeAt Go.Deep
variable {H : Type} {enc : TypeId × Value → H} {w : World} {base : Nat} {held : Bool}
theorem floats_came {A : Option Addr} {l c : Nat} {d : DataW H} {p : List MemPlace} (h : DataW.Trod enc Try.prog w base (fun _ => true) held 40 (.slice A l c) d p) : ∃ F, Floats w A l F ∧ l ≤ c ∧ c ≤ maxLen := by
  obtain ⟨fuel, hf⟩ := h
  rcases open_slice1 Try.underlying40 tcells22 hf with ⟨hcs, _⟩ | ⟨a, len, cap, m, n, V, D, Pl, hcs, _, hl, hm, hmm, _, hi⟩
  · simp [Value.cells] at hcs
    obtain ⟨rfl, rfl, rfl⟩ := hcs
    exact ⟨fun _ => 0, fun h => absurd h (Nat.lt_irrefl 0), Nat.le_refl _, Nat.zero_le _⟩
  · simp [Value.cells] at hcs
    obtain ⟨rfl, rfl, rfl⟩ := hcs
    have hlm : l ≤ m := by rw [hmm]; split <;> omega
    have hfl : ∀ i, i < l → ∃ f, V i = .float .f64 f ∧ f < 18446744073709551616 := by
      intro i hil
      obtain ⟨_, h2⟩ := hi i (by omega)
      cases n with
      | zero => simp [DataW.trod] at h2
      | succ n =>
        generalize V i = v2 at h2
        cases v2 <;> simp [DataW.trod, Try.underlying22] at h2
        rename_i kk f
        obtain ⟨⟨rfl, hw⟩, _⟩ := h2
        exact ⟨_, rfl, by simpa [Lit.wf] using hw⟩
    have key : ∀ i, ∃ f, i < l → V i = .float .f64 f ∧ f < 18446744073709551616 := fun i => by
      by_cases h : i < l
      · obtain ⟨f, hf⟩ := hfl i h
        exact ⟨f, fun _ => hf⟩
      · exact ⟨0, fun h' => absurd h' h⟩
    refine ⟨fun i => Classical.choose (key i), fun h0 => ?_, hl, hm⟩
    obtain ⟨b, off, spot⟩ := a
    have hsp : spot = none := by
      have := World.cell?_spot (hi 0 (by omega)).1
      simpa [Addr.add] using this
    subst hsp
    refine ⟨b, off, rfl, fun j hj => ?_⟩
    have hc := (hi j (by omega)).1
    rw [Addr.add_lit, (Classical.choose_spec (key j) hj).1] at hc
    exact ⟨hc, (Classical.choose_spec (key j) hj).2⟩
end
end Go.Proofs.Ytgodncdhkmpfaaa
