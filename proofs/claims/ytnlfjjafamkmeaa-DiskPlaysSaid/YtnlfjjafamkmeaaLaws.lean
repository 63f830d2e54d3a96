/- The laws of the disk, walked out of the contracts of its calls. -/
import Derived.Test.YtnlfjjafamkmeaaCalls
import Derived.Test.YtnlfjjafamkmeaaRel
import Derived.Lib.SlBytesConst
namespace Go.Proofs.Ytnlfjjafamkmeaa
open Go.RowKit
set_option linter.unusedVariables false
attribute [local go_sem] stepR givesR fillE Ext.refl

/-- a disk of the call's own, in a world that is w0 but for new blocks -/
def St (w0 w : World) (g : Nat) (bs : List Int) (s : Int) : Prop := (∃ v, DiskAt 40 w w0.heap.size g v bs s) ∧ Below w0.heap.size w0 w
def Step (w0 : World) (g : Nat) (bs : List Int) (s : Int) (e : Ending) (w' : World) : Prop := e = .returned (.tuple #[]) ∧ St w0 w' g bs s
theorem Step.of {w0 w : World} {g : Nat} {v : Value} {bs bs' : List Int} {s s' : Int} (hd : DiskAt 40 w w0.heap.size g v bs s) (hb : Below w0.heap.size w0 w) (e : Ending) (w' : World) (h : Turned 40 w w0.heap.size g v bs' s' e w') : Step w0 g bs' s' e w' := by
  obtain ⟨v', rfl, h1, h2, h3⟩ := h
  refine ⟨rfl, ⟨v', h1⟩, hb.trans (h3.below hb.size (fun k hk => ?_))⟩
  rcases hk with rfl | hk
  · exact hd.2.1
  · exact (hd.2.2.1.lt k hk.symm).1
theorem St.below {w0 w w' : World} {g : Nat} {bs : List Int} {s : Int} (h : St w0 w g bs s) (hb : Below w.heap.size w w') : St w0 w' g bs s := by
  obtain ⟨⟨v, hd⟩, h0⟩ := h
  exact ⟨⟨v, hd.below hb⟩, h0.trans (hb.mono h0.size)⟩
theorem St.alloc {w0 w : World} {g : Nat} {bs : List Int} {s : Int} (h : St w0 w g bs s) (o : Obj) : St w0 (w.alloc o) g bs s := h.below ((Below.refl _ _).alloc (Nat.le_refl _) _)
theorem St.drew {w0 w : World} {g : Nat} {bs : List Int} {s : Int} (h : St w0 w g bs s) : St w0 w.drew g bs s := h.below (Below.refl _ _).drew

def NewStep (w0 : World) (e : Ending) (w' : World) : Prop := ∃ g, e = .returned (.pointer (some ⟨g, 0, none⟩)) ∧ St w0 w' g [] 0
theorem st_new (w0 w : World) (hb : Below w0.heap.size w0 w) : Calls Try.prog 7 #[] w (NewStep w0) := (new_any w).mono fun e w' ⟨he, hw⟩ => by
  subst hw
  exact ⟨w.heap.size, he, ⟨.slice none 0 0, heap_alloc_new w _, hb.size, Row.nil _ _, by simp, Int.le_refl _, Int.le_refl _⟩, hb.alloc hb.size _⟩
theorem st_append {w0 w : World} {g : Nat} {bs : List Int} {s : Int} (h : St w0 w g bs s) (xs : List Int) (A : Option Addr) (n c : Nat) (hr : Rd w A n xs) (hl : bs.length + xs.length ≤ 1000000) : Calls Try.prog 8 #[.pointer (some ⟨g, 0, none⟩), .slice A n c] w (Step w0 g (bs ++ xs) s) := by
  obtain ⟨⟨v, hd⟩, hb⟩ := h
  exact (append_any g _ v bs xs s A n c w hd hb.size hr hl).mono (Step.of hd hb)
theorem st_sync {w0 w : World} {g : Nat} {bs : List Int} {s : Int} (h : St w0 w g bs s) : Calls Try.prog 9 #[.pointer (some ⟨g, 0, none⟩)] w (Step w0 g bs bs.length) := by
  obtain ⟨⟨v, hd⟩, hb⟩ := h
  exact (sync_any g _ v bs s w hd).mono (Step.of hd hb)
theorem st_sure {w0 w : World} {g : Nat} {bs : List Int} {s : Int} (h : St w0 w g bs s) : Calls Try.prog 10 #[.pointer (some ⟨g, 0, none⟩)] w (SurePost w s) := by
  obtain ⟨⟨v, hd⟩, hb⟩ := h
  exact sure_any g _ v bs s w hd
theorem st_crash {w0 w : World} {g : Nat} {bs : List Int} {s : Int} (h : St w0 w g bs s) (n : Int) : Calls Try.prog 11 #[.pointer (some ⟨g, 0, none⟩), .int .i64 n] w (Step w0 g (bs.take (cutTo n s bs.length)) (cutTo n s bs.length)) := by
  obtain ⟨⟨v, hd⟩, hb⟩ := h
  exact (crash_any g _ v bs s n w hd).mono (Step.of hd hb)
theorem st_truncate {w0 w : World} {g : Nat} {bs : List Int} {s : Int} (h : St w0 w g bs s) (n : Int) : Calls Try.prog 14 #[.pointer (some ⟨g, 0, none⟩), .int .i64 n] w (Step w0 g (bs.take (upto n bs.length)) (upto n bs.length)) := by
  obtain ⟨⟨v, hd⟩, hb⟩ := h
  exact (truncate_any g _ v bs s n w hd).mono (Step.of hd hb)
/-- a slice that reads as xs -/
def Holds (w0 w : World) (v : Value) (xs : List Int) : Prop := ∃ A c, v = .slice A xs.length c ∧ Rd w A xs.length xs
def BytesStep (w : World) (xs : List Int) (e : Ending) (w' : World) : Prop := ∃ A c, e = .returned (.slice A xs.length c) ∧ Rd w' A xs.length xs ∧ Below w.heap.size w w'
theorem st_bytes {w0 w : World} {g : Nat} {bs : List Int} {s : Int} (h : St w0 w g bs s) : Calls Try.prog 12 #[.pointer (some ⟨g, 0, none⟩)] w (BytesStep w bs) := by
  obtain ⟨⟨v, hd⟩, hb⟩ := h
  refine (bytes_any g _ v bs s w hd).mono fun e w' ⟨v', he, h1, h2⟩ => ?_
  obtain ⟨A, c, rfl, _⟩ := h1.form
  exact ⟨A, c, he, h1.rd.1, h2⟩

def Reads (xs : List Int) (v : Value) (w : World) : Prop := ∃ A c, v = .slice A xs.length c ∧ Rd w A xs.length xs
theorem Reads.later {xs : List Int} (v : Value) (w w' : World) (h : Reads xs v w) (he : Ext w w') : Reads xs v w' := by
  obtain ⟨A, c, rfl, h⟩ := h
  exact ⟨A, c, rfl, h.below he⟩
/-- a slice of bytes that came in -/
theorem rd_came {w : World} {a : Option Addr} {len cap : Nat} {zs : List Int} (h : (a = none ∧ len = 0 ∧ cap = 0 ∧ zs = []) ∨
    ∃ x, a = some x ∧ len ≤ cap ∧ cap ≤ maxLen ∧ zs.length = cap ∧ (∀ i, i < zs.length → w.cell? (x.add i) = some (.int .u8 (zs.getD i 0))) ∧ ∀ n ∈ zs, (Lit.int .u8 n).wf = true) : Rd w a len (zs.take len) ∧ len ≤ cap := by
  rcases h with ⟨rfl, rfl, rfl, rfl⟩ | ⟨x, rfl, hl, _, hz, hcell, _⟩
  · exact ⟨⟨rfl, fun h => absurd h (by omega)⟩, Nat.le_refl _⟩
  · refine ⟨⟨by rw [List.length_take]; omega, fun hn => ?_⟩, hl⟩
    obtain ⟨b, off, spot⟩ := x
    have hc := hcell 0 (by omega)
    have hspot : spot = none := by simpa [Addr.add] using World.cell?_spot hc
    subst hspot
    refine ⟨b, off, rfl, fun j hj => ?_⟩
    have := hcell j (by omega)
    rw [Addr.add_lit] at this
    rw [this]
    simp [List.getD_eq_getElem?_getD, hj]
/-- the law's own ending -/
def TruePost (w : World) (e : Ending) (w' : World) : Prop := e = .returned (.bool true) ∧ Below w.heap.size w w'

theorem strOf_append (xs ys : List Int) : strOfNums xs ++ strOfNums ys = strOfNums (xs ++ ys) := by
  unfold strOfNums
  rw [ByteArray.mk_append_mk, List.map_append]
theorem rd_lit (w : World) (xs : List Int) (fr : Nat × Nat) : Rd (w.alloc (.cells (u8s xs).toArray 5 fr)) (some ⟨w.heap.size, 0, none⟩) xs.length xs := by
  refine ⟨rfl, fun _ => ⟨w.heap.size, 0, rfl, fun j hj => ?_⟩⟩
  rw [Nat.zero_add, cell_of_row _ w.heap.size j _ 5 fr (heap_alloc_new w _)]
  simpa using u8s_at hj
set_option maxHeartbeats 1000000 in
theorem known_any (w : World) : Calls Try.prog 6 #[] w (TruePost w) := by
  have kc := fun (w : World) (C : Array Value) (n c : Nat) => Lib.run_convert_bytes_const (P := Try.prog) w 22 5 C n c Try.underlying22 Try.underlying5
  go_enter Try.func6, Try.ntmps6
  go_wp2_with fail
  refine (st_new w w (Below.refl _ _)).mono ?_
  rintro e w1 ⟨g, rfl, h1⟩
  have H1 := Lib.hid h1
  clear h1
  go_wp2_with fail
  refine (st_append (H1.out.alloc _) [97, 98] _ _ _ (rd_lit w1 [97, 98] _) (by simp)).mono ?_
  rintro e w2 ⟨rfl, h2⟩
  have H2 := Lib.hid h2
  clear h2
  go_wp2_with fail
  refine (st_sync H2.out).mono ?_
  rintro e w3 ⟨rfl, h3⟩
  have H3 := Lib.hid h3
  clear h3
  go_wp2_with fail
  refine (st_append (H3.out.alloc _) [99] _ _ _ (rd_lit w3 [99] _) (by simp)).mono ?_
  rintro e w4 ⟨rfl, h4⟩
  have H4 := Lib.hid h4
  clear h4
  go_wp2_with fail
  refine (st_crash H4.out 0).mono ?_
  rintro e w5 ⟨rfl, h5⟩
  have H5 : Hid (St w w5 g [97, 98] 2) := Lib.hid h5
  clear h5
  go_wp2_with fail
  refine (st_bytes H5.out).mono ?_
  rintro e w6 ⟨A, c, rfl, h6, h6b⟩
  have kc2 : (convert 22 9 (.slice A 2 c)).run Try.prog w6 = .ok (.string (strOfNums [97, 98])) w6 := h6.string (P := Try.prog) (c := c) 22 5 Try.underlying22 Try.underlying5 9 Try.underlying9
  have H6 := Lib.hid (H5.out.below h6b)
  clear h6 h6b
  have hs : strOfNums [97, 98] = ⟨#[97, 98]⟩ := rfl
  rw [hs] at kc2
  clear hs
  go_wp2_with (go_at_call 10; refine (st_sure H6.out).mono ?_; rintro e w7 ⟨rfl, rfl⟩)
  go_ret
  exact ⟨rfl, H6.out.2⟩

set_option maxHeartbeats 2000000 in
theorem sure_law (A B : Option Addr) (n m c d : Nat) (xs ys : List Int) (cut : Int) (w : World) (hx : Rd w A n xs) (hy : Rd w B m ys) (hnc : n ≤ c) (hmd : m ≤ d) :
    Calls Try.prog 3 #[.slice A n c, .slice B m d, .int .i64 cut] w (TruePost w) := by
  by_cases hn : 200 < n
  · have hn' : (200 : Int) < (n : Int) := by omega
    have HX := Lib.hid (And.intro hx hy)
    clear hx hy
    go_enter Try.func3, Try.ntmps3
    go_wp2_with (go_at_call 6; refine (known_any _).mono ?_; rintro e w1 ⟨rfl, h1⟩)
    go_ret
    exact ⟨rfl, h1⟩
  by_cases hm : 200 < m
  · have hn' : ((200 : Int) < (n : Int)) = False := by simp; omega
    have hm' : (200 : Int) < (m : Int) := by omega
    have HX := Lib.hid (And.intro hx hy)
    clear hx hy
    go_enter Try.func3, Try.ntmps3
    go_wp2_with (go_at_call 6; refine (known_any _).mono ?_; rintro e w1 ⟨rfl, h1⟩)
    go_ret
    exact ⟨rfl, h1⟩
  have hn' : ((200 : Int) < (n : Int)) = False := by simp; omega
  have hm' : ((200 : Int) < (m : Int)) = False := by simp; omega
  have hxn := hx.1
  have hym := hy.1
  have HX := Lib.hid (And.intro hx hy)
  have HL := Lib.hid (And.intro hxn hym)
  clear hx hy hxn hym
  go_enter Try.func3, Try.ntmps3
  go_wp2_with (go_at_call 6; refine (known_any _).mono ?_; rintro e w1 ⟨rfl, h1⟩; have H1 := Lib.hid h1; clear h1)
  refine (st_new w w1 H1.out).mono ?_
  rintro e w2 ⟨g, rfl, h2⟩
  have H2 := Lib.hid h2
  clear h2
  go_wp2_with fail
  refine (st_append H2.out xs A n c (HX.out.1.below H2.out.2) (by have := HL.out; simp; omega)).mono ?_
  rintro e w3 ⟨rfl, h3⟩
  have H3 : Hid (St w w3 g xs 0) := Lib.hid h3
  clear h3
  go_wp2_with fail
  refine (st_sync H3.out).mono ?_
  rintro e w4 ⟨rfl, h4⟩
  have H4 : Hid (St w w4 g xs n) := Lib.hid (by rw [HL.out.1] at h4; exact h4)
  clear h4
  go_wp2_with fail
  refine (st_append H4.out ys B m d (HX.out.2.below H4.out.2) (by have := HL.out; omega)).mono ?_
  rintro e w5 ⟨rfl, h5⟩
  have H5 := Lib.hid h5
  clear h5
  go_wp2_with fail
  refine (st_sure H5.out).mono ?_
  rintro e w6 ⟨rfl, rfl⟩
  go_wp2_with fail
  obtain ⟨q, hq⟩ : ∃ q : Int, (if cut < 0 then 0 else cut) = q := ⟨_, rfl⟩
  obtain ⟨k, hk1, hk2, hk3⟩ : ∃ k : Nat, k ≤ m ∧ (if (m : Int) < q then (m : Int) else q) = (k : Int) ∧ cutTo cut n (xs ++ ys).length = n + k := by
    refine ⟨min cut.toNat m, by omega, by split at hq <;> split <;> omega, ?_⟩
    have := HL.out
    unfold cutTo
    rw [List.length_append]
    omega
  refine (st_crash H5.out cut).mono ?_
  rintro e w6 ⟨rfl, h6⟩
  have htk : (xs ++ ys).take (n + k) = xs ++ ys.take k := by
    rw [← HL.out.1, List.take_append, List.take_of_length_le (by omega)]
    congr 2
    omega
  obtain ⟨zs, hz⟩ : ∃ zs, zs = xs ++ ys.take k := ⟨_, rfl⟩
  have H6 : Hid (St w w6 g zs ((n : Int) + k)) := Lib.hid (by rw [hk3, htk, ← hz] at h6; exact_mod_cast h6)
  have es : Hid (strOfNums xs ++ strOfNums (ys.take k) = strOfNums zs) := by
    have : strOfNums xs ++ strOfNums (ys.take k) = strOfNums zs := by
      rw [hz, strOf_append]
    exact this
  clear h6 hk3 htk hz
  go_wp2_with fail
  clear hk2 hq
  have hk : (k : Int) ≤ (m : Int) := by omega
  have hkd : (k : Int) ≤ (d : Int) := by omega
  have ex : ∀ p : Later w6, (convert 22 9 (.slice A n c)).run Try.prog p.w = .ok (.string (strOfNums xs)) p.w := fun p => ((HX.out.1.below (H6.out.2)).below p.h).string 22 5 Try.underlying22 Try.underlying5 9 Try.underlying9
  have ey : ∀ p : Later w6, (convert 22 9 (.slice B k d)).run Try.prog p.w = .ok (.string (strOfNums (ys.take k))) p.w := fun p => (((HX.out.2.below (H6.out.2)).below p.h).take k hk1).string 22 5 Try.underlying22 Try.underlying5 9 Try.underlying9
  refine wp_region_rel' 21 (by kernel_rfl) (by kernel_rfl) (fun Fin hFin => ?_)
  simp only [List.take_succ_cons, List.take_zero]
  repeat (refine relGo_p (fun K hK => ?_); go_simp; refine hK _ ?_; clear hK K)
  refine relGo_r (Reads zs) Reads.later ?_ ?_
  · intro w' hw'
    go_simp
    refine (st_bytes (H6.out.below hw')).mono ?_
    rintro e w'' ⟨A', c', rfl, h, hb⟩
    exact ⟨_, rfl, hb, A', c', rfl, h⟩
  refine relGo_q (.string (strOfNums zs)) ?_ (fun K hK => ?_)
  · intro w' hw' v hv
    obtain ⟨A', c', rfl, hr⟩ := hv (by kernel_rfl)
    have kz := hr.string (P := Try.prog) (c := c') 22 5 Try.underlying22 Try.underlying5 9 Try.underlying9
    go_simp
  go_simp
  refine hK _ ?_
  clear hK K
  have hov : ((strOfNums xs).size + (strOfNums (ys.take k)).size > 9223372036854775807) = False := by
    rw [strOfNums_size, strOfNums_size, List.length_take]
    have := HL.out
    simp
    omega
  have es' := es.out
  repeat (refine relGo_p (fun K hK => ?_); go_simp; refine hK _ ?_; clear hK K)
  refine relGo_q (.int .i64 ((n : Int) + (k : Int))) ?_ (fun K hK => ?_)
  · intro w' hw' v hv
    go_simp
    refine (st_sure (H6.out.below hw')).mono ?_
    rintro e w'' ⟨rfl, rfl⟩
    exact ⟨rfl, Ext.refl _⟩
  go_simp
  refine hK _ ?_
  clear hK K
  have hw1 : IntKind.i64.wrap ((n : Int) + (k : Int)) = (n : Int) + (k : Int) := IntWalk.i64_in _ (by omega)
  repeat (refine relGo_p (fun K hK => ?_); go_simp; refine hK _ ?_; clear hK K)
  refine hFin _ _ (fun w' hw' => ?_)
  intro v hv
  clear hFin Fin
  go_wp2
  go_ret
  exact ⟨rfl, (H6.out.below hw').2⟩
end Go.Proofs.Ytnlfjjafamkmeaa
