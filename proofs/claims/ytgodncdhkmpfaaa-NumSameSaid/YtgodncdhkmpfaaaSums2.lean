/- The document's sum. -/
import Derived.Test.YtgodncdhkmpfaaaSums
import Derived.Deep.RegionWith
namespace Go.Proofs.Ytgodncdhkmpfaaa
open Go.RowKit
set_option linter.unusedVariables false
set_option linter.unusedSimpArgs false
attribute [local go_sem] stepR givesR fillE Ext.refl

set_option maxRecDepth 100000 in
set_option maxHeartbeats 4000000 in
theorem rsum_any (w : World) (n : Nat) (A : Option Addr) (l c : Nat) (g : Nat → Val) (h : RowV w n A l g) (hl : l ≤ c ∧ c ≤ maxLen) :
    Calls Try.prog 16 #[.slice A l c] w (Ret (sumFrom g l 0).val w) := by
  have HL := Lib.hid hl
  have HR := Lib.hid h
  clear hl h
  have V2 := VAt.new w 0 0 0 ⟨#[]⟩ (.slice none 0 0)
  have hw := x1 w (.cells #[.int .i64 0, .int .i64 0, .float .f64 0, .string ⟨#[]⟩, .slice none 0 0] 31)
  go_enter Try.func16, Try.ntmps16
  go_wp2_with fail
  refine (rint_is _ _).mono ?_
  rintro e w0 ⟨rfl, h0⟩
  have g0 := h0.alloc (.cells #[.int .i64 1, .int .i64 0, .float .f64 0, .string ⟨#[]⟩, .slice none 0 0] 31)
  have V4 := VAt.new w0 1 0 0 ⟨#[]⟩ (.slice none 0 0)
  have hb4 : w.heap.size + 1 ≤ w0.heap.size := by have := h0.size_le; rw [alloc_size] at this; exact this
  replace V2 := V2.ext g0
  replace hw := hw.trans g0
  clear g0 h0
  go_wp2_with fail
  revert V2 V4 hw hb4
  generalize World.alloc _ _ = w1
  generalize w0.heap.size = b4
  intro V4 hb4 V2 hw
  have HM : Hid (Mid w w1 w.heap.size b4 g l 0) := ⟨hw, V2, V4, rfl, rfl⟩
  clear hw V2 V4
  go_loopw [5] (fun i wr => ∃ j : Nat, j ≤ l ∧ i = .int .i64 j ∧ Mid w wr w.heap.size b4 g l j) (fun i _ => l - (intOf i).toNat)
  case atStart => exact ⟨0, Nat.zero_le _, rfl, HM.out⟩
  case round =>
    clear HM
    obtain ⟨j, hj, rfl, hw, V2, V4, hf, hs⟩ := hrel
    have HF := Lib.hid (And.intro hf hs)
    clear hf hs
    by_cases hlt : j < l
    · obtain ⟨b, off, rfl, hel⟩ := HR.out (by omega)
      obtain ⟨hat, ht⟩ := hel j hlt
      have hat := hat.ext hw
      have hyi : inR (g j).i := by cases n with | zero => exact ht.elim | succ n => exact ht.2.1
      have HY := Lib.hid hyi
      clear ht hel hyi
      obtain ⟨e0, e1, e2, e3, e4⟩ := hat
      have hj1 : wrap64 ((j : Int) + 1) = (j : Int) + 1 := succ_in HL.out hlt
      have hji : (j : Int) < (l : Int) := by omega
      obtain ⟨c0, c1, c2, c3, c4⟩ := V4.pack
      obtain ⟨⟨p, q, r, e⟩, hP⟩ : ∃ P, addA (acc g j) (g j) = P := ⟨_, rfl⟩
      have hP1 : acc g (j + 1) = ⟨p, q, r, e⟩ := hP
      have HP := Lib.hid hP1
      have HQ := Lib.hid hP
      clear hP hP1
      go_wp2_with fail
      go_region_with (go_at_call 28; refine (opAdd_any _ _ (acc_inR g j) _ _ _ _ _ HY.out _ _ _ _).mono ?_; rintro e9 w2 ⟨rfl, h2⟩; rw [addA_is, HQ.out]; simp only [Acc.val]; have V5 := V4.ext (Ext.trans (by first | exact Ext.refl _ | exact (Ext.refl _).drew | exact (Ext.refl _).drew.drew | exact (Ext.refl _).drew.drew.drew) h2); obtain ⟨d0, d1, d2, d3, d4⟩ := V5.pack; have z := V5.free)
      all_goals
        go_simp
        have hx2 : Ext wr w2 := Ext.trans (Ext.refl wr).drew h2
        have V2' := (V2.ext hx2).other (b' := b4) (by omega) p q r ⟨#[]⟩ (.slice none 0 0)
        have V4' := V5.put p q r ⟨#[]⟩ (.slice none 0 0)
        have hw' := (hw.trans hx2).put5 (b := b4) (by omega) p q r ⟨#[]⟩ (.slice none 0 0)
        clear c0 c1 c2 c3 c4 d0 d1 d2 d3 d4 z V5 h2 hx2 V2 V4 hw e0 e1 e2 e3 e4 HY HQ
        revert V2' V4' hw'
        generalize World.setCell _ _ _ = w3
        intro V2 V4 hw
        by_cases he : e = 0
        · subst he
          go_wp2_with fail
          go_roundw
          case rel =>
            refine ⟨j + 1, by omega, by go_num, hw, V2, by rw [HP.out]; exact V4, by rw [HP.out], ?_⟩
            rw [HF.out.2]
            have e5 : l - j = (l - (j + 1)) + 1 := by omega
            rw [e5, sumFrom, HP.out]
            exact if_pos rfl
          case measure => rw [hj1]; exact dec_lt hlt
        · have he' : (e == 0) = false := beq_eq_false_iff_ne.2 he
          obtain ⟨d0, d1, d2, d3, d4⟩ := V2.pack
          have z2 := V2.free
          go_wp2
          have V5 := V2.put 0 0 0 ⟨#[]⟩ (.slice none 0 0)
          have h5 := hw.put5 (b := w.heap.size) (by omega) 0 0 0 ⟨#[]⟩ (.slice none 0 0)
          clear d0 d1 d2 d3 d4 z2 V2 V4 hw
          revert V5 h5
          generalize World.setCell _ _ _ = w5
          intro V5 h5
          obtain ⟨c0, c1, c2, c3, c4⟩ := V5.pack
          try simp only [Exit.inBlock, Exit.then]
          refine bodyPost_ret (by simp [results, Try.results16, go_sem, c0, c1, c2, c3, c4]; try rfl) rfl ?_
          refine ⟨?_, h5⟩
          rw [HF.out.2]
          have e5 : l - j = (l - (j + 1)) + 1 := by omega
          rw [e5, sumFrom, HP.out, if_neg he]
          rfl
    · have hnl : ((j : Int) < (l : Int)) = False := by simp; omega
      have hjl : j = l := by omega
      subst hjl
      obtain ⟨c0, c1, c2, c3, c4⟩ := V4.pack
      obtain ⟨d0, d1, d2, d3, d4⟩ := V2.pack
      have z2 := V2.free
      go_wp2
      have V5 := V2.put (acc g j).k (acc g j).i (acc g j).f ⟨#[]⟩ (.slice none 0 0)
      have h5 := hw.put5 (b := w.heap.size) (by omega) (acc g j).k (acc g j).i (acc g j).f ⟨#[]⟩ (.slice none 0 0)
      clear c0 c1 c2 c3 c4 d0 d1 d2 d3 d4 z2 V2 V4 hw
      revert V5 h5
      generalize World.setCell _ _ _ = w5
      intro V5 h5
      obtain ⟨c0, c1, c2, c3, c4⟩ := V5.pack
      try simp only [Exit.inBlock, Exit.then]
      refine bodyPost_ret (by simp [results, Try.results16, go_sem, c0, c1, c2, c3, c4]; try rfl) rfl ?_
      refine ⟨?_, h5⟩
      rw [HF.out.2, Nat.sub_self, sumFrom]
      unfold Acc.val
      rw [HF.out.1]
end Go.Proofs.Ytgodncdhkmpfaaa
