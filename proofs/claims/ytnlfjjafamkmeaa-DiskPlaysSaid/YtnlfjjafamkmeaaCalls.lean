/- What each call of the disk comes to. -/
import Derived.Test.YtnlfjjafamkmeaaProg
import Derived.Test.YtnlfjjafamkmeaaKit
import Derived.WalkSpells
import Derived.WalkLawsBesides
import Derived.Handy
import Derived.Deep.RegionHeld3
import Derived.Deep.DrawnRows
import Derived.Deep.RegionLaw
import Derived.StillTailTactics
namespace Go.Proofs.Ytnlfjjafamkmeaa
open Go.RowKit
set_option linter.unusedVariables false
attribute [local go_sem ↓] Go.wp_at_zero Go.wp_at_succ

theorem info5 : (Try.prog.info? 5).map (fun i => (i.zero, i.size, i.bytes)) = some (some (.int .u8 0), 1, 1) := by kernel_rfl

/-- slices.Clone -/
def ClonePost (w : World) (xs : List Int) (e : Ending) (w' : World) : Prop := ∃ v', e = .returned v' ∧ Row w' w.heap.size v' xs ∧ Below w.heap.size w w'
set_option maxHeartbeats 400000 in
theorem clone_any (A : Option Addr) (n c : Nat) (xs : List Int) (w : World) (hr : Rd w A n xs) (hl : n ≤ 1000000) : Calls Try.prog 18 #[.slice A n c] w (ClonePost w xs) := by
  have hlen := hr.1
  have hnil := fun wx : World => Lib.run_eql_slice_nil (P := Try.prog) wx 22 5 A n c 0 0 Try.underlying22
  rcases A with _ | a
  · have h0 : n = 0 := by
      rcases Nat.eq_zero_or_pos n with h | h
      · exact h
      · obtain ⟨b, off, h', _⟩ := hr.2 h
        cases h'
    subst h0
    obtain rfl : xs = [] := List.eq_nil_of_length_eq_zero hlen
    go_enter Try.func18, Try.ntmps18
    go_wp2
    go_ret
    exact ⟨_, rfl, Row.nil _ _, Below.refl _ _⟩
  · have H := Lib.hid hr
    clear hr hlen
    go_enter Try.func18, Try.ntmps18
    go_wp2_with (at_builtin; refine wpList_append_row rfl w.heap.size (.tmp 5) (.tmp 6) 22 rfl Try.underlying22 info5 (.slice (some ⟨w.heap.size, 0, none⟩) 0 0) [] xs (some a) n c rfl rfl ?row ?rd ?base ?len ?next)
    case row => exact .inr ⟨w.heap.size, 0, #[], rfl, Nat.le_refl _, heap_alloc_new w _, Nat.le_refl _, Nat.le_refl _, Nat.zero_le _, rfl⟩
    case rd => exact H.out.below ((Below.refl _ _).alloc (Nat.le_refl _) _)
    case base => simp
    case len => have := H.out.1; simp; omega
    case next =>
      intro v1 w1 h1 h2 _
      go_wp2
      go_ret
      exact ⟨v1, rfl, by simpa using h1, ((Below.refl _ _).alloc (Nat.le_refl _) _).grown h2 (by simp) (by simp [Value.ownBlock])⟩

/-- slices.Clip -/
def ClipPost (w : World) (A : Option Addr) (n : Nat) (e : Ending) (w' : World) : Prop := e = .returned (.slice A n n) ∧ w = w'
set_option maxHeartbeats 400000 in
theorem clip_any (A : Option Addr) (n c : Nat) (w : World) (hc : n ≤ c) : Calls Try.prog 19 #[.slice A n c] w (ClipPost w A n) := by
  go_enter Try.func19, Try.ntmps19
  go_wp2
  go_ret
  exact ⟨rfl, rfl⟩

/-- New -/
def NewPost (w : World) (e : Ending) (w' : World) : Prop := e = .returned (.pointer (some ⟨w.heap.size, 0, none⟩)) ∧ w' = w.alloc (.cells #[.slice none 0 0, .int .i64 0] 40)
theorem new_any (w : World) : Calls Try.prog 7 #[] w (NewPost w) := by
  go_enter Try.func7, Try.ntmps7
  go_wp2
  go_ret
  exact ⟨rfl, rfl⟩

/-- a call that turns a disk into another -/
def Turned (T : TypeId) (w : World) (base g : Nat) (v : Value) (bs : List Int) (s : Int) (e : Ending) (w' : World) : Prop :=
  ∃ v', e = .returned (.tuple #[]) ∧ DiskAt T w' base g v' bs s ∧ Fresh w v v' ∧ Chg (fun k => k = g ∨ some k = v.ownBlock) w w'

set_option maxHeartbeats 400000 in
theorem append_any (g base : Nat) (v : Value) (bs xs : List Int) (s : Int) (A : Option Addr) (n c : Nat) (w : World) (hd : DiskAt 40 w base g v bs s) (hb : base ≤ w.heap.size) (hr : Rd w A n xs) (hl : bs.length + xs.length ≤ 1000000) :
    Calls Try.prog 8 #[.pointer (some ⟨g, 0, none⟩), .slice A n c] w (Turned 40 w base g v (bs ++ xs) s) := by
  obtain ⟨c0, c1, f0, f1⟩ := hd.cells
  obtain ⟨hg, hgb, hrow, _, hs0, hs1⟩ := hd
  have hlt : g < w.heap.size := (Array.getElem?_eq_some_iff.1 hg).1
  obtain ⟨A0, cap, hv, _⟩ := hrow.form
  subst hv
  have hne := hrow.ne hg (by decide)
  have H := Lib.hid (And.intro hr (And.intro hrow hg))
  have HN := Lib.hid hne
  clear hr hrow hg hne
  go_enter Try.func8, Try.ntmps8
  go_wp2_with (at_builtin; refine wpList_append_row rfl base (.tmp 8) (.tmp 9) 22 rfl Try.underlying22 info5 (.slice A0 bs.length cap) bs xs A n c rfl rfl H.out.2.1 H.out.1 hb (by omega) ?next)
  case next =>
    intro v1 w1 h1 h2 h3
    have hg1 : w1.heap[g]? = _ := (h2.block g hlt (fun e => HN.out e.symm)).trans H.out.2.2
    have k0 : w1.cell? ⟨g, 0, none⟩ = some (.slice A0 bs.length cap) := by rw [cell_of_row w1 g 0 _ 40 (0, 0) hg1]; rfl
    have e0 : w1.frozen? ⟨g, 0, none⟩ = false := by simp [World.frozen?, hg1]
    obtain ⟨A1, cap1, rfl, _⟩ := h1.form
    have H1 := Lib.hid (And.intro h1 (And.intro h2 (And.intro h3 hg1)))
    clear h1 h2 h3 hg1
    go_wp2
    go_end0
    obtain ⟨h1, h2, h3, hg1⟩ := H1.out
    have hne1 := h1.ne hg1 (by decide)
    rw [← List.length_append]
    refine ⟨_, rfl, ⟨(disk_put (y := undef) hg1).1, hgb, h1.chg (T := fun k => k = g) ((Chg.refl _ _).setCell _ _ (fun _ => rfl)) (fun k hk e => hne1 (e ▸ hk)), by simp; omega, hs0, by simp; omega⟩, h3, ?_⟩
    exact ((Chg.of_grown h2).mono (fun k hk => .inr hk)).setCell _ _ (fun _ => .inl rfl)

set_option maxHeartbeats 400000 in
theorem sync_any (g base : Nat) (v : Value) (bs : List Int) (s : Int) (w : World) (hd : DiskAt 40 w base g v bs s) :
    Calls Try.prog 9 #[.pointer (some ⟨g, 0, none⟩)] w (Turned 40 w base g v bs bs.length) := by
  obtain ⟨c0, c1, f0, f1⟩ := hd.cells
  obtain ⟨A0, cap, hv, _⟩ := hd.2.2.1.form
  subst hv
  have hbs := hd.2.2.2.1
  have H := Lib.hid hd
  clear hd
  go_enter Try.func9, Try.ntmps9
  go_wp2
  go_end0
  obtain ⟨hg, hgb, hrow, hl, hs0, hs1⟩ := H.out
  have hne := hrow.ne hg (by decide)
  refine ⟨_, rfl, ⟨(disk_put (v := undef) hg).2, hgb, hrow.chg (T := fun k => k = g) ((Chg.refl _ _).setCell _ _ (fun _ => rfl)) (fun k hk e => hne (e ▸ hk)), hl, by omega, Int.le_refl _⟩, .inl rfl, ?_⟩
  exact (Chg.refl _ _).setCell _ _ (fun _ => .inl rfl)

/-- Sure -/
def SurePost (w : World) (s : Int) (e : Ending) (w' : World) : Prop := e = .returned (.int .i64 s) ∧ w = w'
theorem sure_any (g base : Nat) (v : Value) (bs : List Int) (s : Int) (w : World) (hd : DiskAt 40 w base g v bs s) : Calls Try.prog 10 #[.pointer (some ⟨g, 0, none⟩)] w (SurePost w s) := by
  obtain ⟨c0, c1, f0, f1⟩ := hd.cells
  have H := Lib.hid hd
  clear hd
  go_enter Try.func10, Try.ntmps10
  go_wp2
  go_ret
  exact ⟨rfl, rfl⟩

/-- Bytes -/
theorem bytes_any (g base : Nat) (v : Value) (bs : List Int) (s : Int) (w : World) (hd : DiskAt 40 w base g v bs s) : Calls Try.prog 12 #[.pointer (some ⟨g, 0, none⟩)] w (ClonePost w bs) := by
  obtain ⟨c0, c1, f0, f1⟩ := hd.cells
  obtain ⟨A0, cap, hv, _⟩ := hd.2.2.1.form
  subst hv
  have hr := (hd.2.2.1.rd).1
  have hl := hd.2.2.2.1
  have H := Lib.hid hr
  have H2 := Lib.hid hd
  clear hd hr
  go_enter Try.func12, Try.ntmps12
  go_wp2_with (go_at_call 18; refine (clone_any A0 _ cap bs _ H.out hl).mono ?_; rintro e w' ⟨v', rfl, h1, h2⟩)
  go_ret
  exact ⟨v', rfl, h1, h2⟩

/-- min(max(n, 0), l) -/
def upto (n : Int) (l : Nat) : Nat := min n.toNat l

theorem trunc_done {T : TypeId} {w : World} {base g : Nat} {A : Option Addr} {n cap : Nat} {bs : List Int} {s : Int} (hT : T ≠ 5) (hd : DiskAt T w base g (.slice A n cap) bs s) (k c : Nat) (hk : k ≤ n) (hc : k ≤ c) (hc' : c ≤ cap) :
    Turned T w base g (.slice A n cap) (bs.take k) k (.returned (.tuple #[])) ((w.drew.setCell ⟨g, 0, none⟩ (.slice A k c)).setCell ⟨g, 1, none⟩ (.int .i64 k)) := by
  obtain ⟨hg, hgb, hrow, hl, hs0, hs1⟩ := hd
  have hne := hrow.ne hg hT
  have hn := hrow.rd.2
  have hch : Chg (fun k => k = g) w ((w.drew.setCell ⟨g, 0, none⟩ (.slice A k c)).setCell ⟨g, 1, none⟩ (.int .i64 k)) := ((Chg.refl (fun k => k = g) w).drew.setCell _ _ (fun _ => rfl)).setCell _ _ (fun _ => rfl)
  have hob : (Value.slice A k c).ownBlock = (Value.slice A n cap).ownBlock := by cases A <;> rfl
  have h1 : (w.drew.setCell ⟨g, 0, none⟩ (.slice A k c)).heap[g]? = some (.cells #[.slice A k c, .int .i64 s] T (0, 0)) := (disk_put (y := undef) (show w.drew.heap[g]? = _ from hg)).1
  refine ⟨_, rfl, ⟨(disk_put (v := undef) h1).2, hgb, (hrow.clip k c hk hc hc').chg hch (fun k hk e => hne (by rw [← hob, ← e]; exact hk)), by rw [List.length_take]; omega, by omega, by rw [List.length_take]; omega⟩, .inl hob, hch.mono fun _ h => .inl h⟩

set_option maxHeartbeats 400000 in
theorem truncate_any (g base : Nat) (v : Value) (bs : List Int) (s : Int) (n : Int) (w : World) (hd : DiskAt 40 w base g v bs s) :
    Calls Try.prog 14 #[.pointer (some ⟨g, 0, none⟩), .int .i64 n] w (Turned 40 w base g v (bs.take (upto n bs.length)) (upto n bs.length)) := by
  obtain ⟨c0, c1, f0, f1⟩ := hd.cells
  obtain ⟨A0, cap, hv, hcap⟩ := hd.2.2.1.form
  subst hv
  have hbs := hd.2.2.2.1
  have H := Lib.hid hd
  clear hd
  have hcap' : (bs.length : Int) ≤ (cap : Int) := by omega
  have hp : ((bs.length : Int) < 0) = False := by simp
  rcases Int.lt_or_le n 0 with hn | hn
  · go_enter Try.func14, Try.ntmps14
    go_wp2_with fail
    refine wp_region_still_tail 17 (by kernel_rfl) (by kernel_rfl) ?_
    simp only [List.take_succ_cons, List.take_zero, List.drop_succ_cons, List.drop_zero]
    repeat still_step
    still_call ((clip_any _ _ _ _ (by omega)).mono fun _ _ h => ⟨h.1, h.2.symm⟩)
    repeat still_step
    refine wpStill_nil ?_
    change wpList _ _ _ _ _ w.drew
    go_wp2
    go_end0
    have e : upto n bs.length = 0 := by unfold upto; omega
    rw [e]
    exact trunc_done (by decide) H.out 0 0 (Nat.zero_le _) (Nat.le_refl _) (Nat.zero_le _)
  · obtain ⟨m, rfl⟩ := Int.eq_ofNat_of_zero_le hn
    have hm0 : ((m : Int) < 0) = False := by simp
    rcases Nat.lt_or_ge bs.length m with hm | hm
    · have hm' : (bs.length : Int) < (m : Int) := by omega
      go_enter Try.func14, Try.ntmps14
      go_wp2_with fail
      refine wp_region_still_tail 17 (by kernel_rfl) (by kernel_rfl) ?_
      simp only [List.take_succ_cons, List.take_zero, List.drop_succ_cons, List.drop_zero]
      repeat still_step
      still_call ((clip_any _ _ _ _ (by omega)).mono fun _ _ h => ⟨h.1, h.2.symm⟩)
      repeat still_step
      refine wpStill_nil ?_
      change wpList _ _ _ _ _ w.drew
      go_wp2
      go_end0
      have e : upto (m : Int) bs.length = bs.length := by unfold upto; omega
      rw [e]
      exact trunc_done (by decide) H.out bs.length bs.length (Nat.le_refl _) (Nat.le_refl _) hcap
    · have hm' : ((bs.length : Int) < (m : Int)) = False := by simp; omega
      have hm2 : (m : Int) ≤ (cap : Int) := by omega
      go_enter Try.func14, Try.ntmps14
      go_wp2_with fail
      refine wp_region_still_tail 17 (by kernel_rfl) (by kernel_rfl) ?_
      simp only [List.take_succ_cons, List.take_zero, List.drop_succ_cons, List.drop_zero]
      repeat still_step
      still_call ((clip_any _ _ _ _ (by omega)).mono fun _ _ h => ⟨h.1, h.2.symm⟩)
      repeat still_step
      refine wpStill_nil ?_
      change wpList _ _ _ _ _ w.drew
      go_wp2
      go_end0
      have e : upto (m : Int) bs.length = m := by unfold upto; omega
      rw [e]
      exact trunc_done (by decide) H.out m m hm (Nat.le_refl _) (by omega)

/-- how many stay behind a crash -/
def cutTo (cut s : Int) (l : Nat) : Nat := s.toNat + min cut.toNat (l - s.toNat)

theorem crash_done {T : TypeId} {w w' : World} {base g : Nat} {v v' : Value} {bs : List Int} {k k' : Nat} (h1 : DiskAt T w' base g v' (bs.take k) k) (h2 : Fresh w.drew v v') (h3 : Chg (fun k => k = g ∨ some k = v.ownBlock) w.drew w') (hk : k = k') :
    Turned T w base g v (bs.take k') k' (.returned (.tuple #[])) w' := by
  subst hk
  exact ⟨v', rfl, h1, h2, h3.of_drew⟩

set_option maxHeartbeats 400000 in
theorem crash_any (g base : Nat) (v : Value) (bs : List Int) (s : Int) (n : Int) (w : World) (hd : DiskAt 40 w base g v bs s) :
    Calls Try.prog 11 #[.pointer (some ⟨g, 0, none⟩), .int .i64 n] w (Turned 40 w base g v (bs.take (cutTo n s bs.length)) (cutTo n s bs.length)) := by
  obtain ⟨c0, c1, f0, f1⟩ := hd.cells
  obtain ⟨A0, cap, hv, hcap⟩ := hd.2.2.1.form
  subst hv
  have hbs := hd.2.2.2.1
  have hs0 := hd.2.2.2.2.1
  have hs1 := hd.2.2.2.2.2
  obtain ⟨p, rfl⟩ := Int.eq_ofNat_of_zero_le hs0
  have H := Lib.hid hd
  have w1 : IntKind.i64.wrap ((bs.length : Int) - (p : Int)) = (bs.length : Int) - (p : Int) := IntWalk.i64_in _ (by omega)
  clear hd
  rcases Int.lt_or_le n 0 with hn | hn
  · have hp : ((bs.length : Int) - (p : Int) < 0) = False := by simp; omega
    go_enter Try.func11, Try.ntmps11
    go_wp2_with fail
    refine wp_region_still_tail 19 (by kernel_rfl) (by kernel_rfl) ?_
    simp only [List.take_succ_cons, List.take_zero, List.drop_succ_cons, List.drop_zero]
    repeat still_step
    refine wpStill_nil ?_
    change wpList _ _ _ _ _ w.drew
    go_wp2_with (go_at_call 14; refine (truncate_any g base (.slice A0 bs.length cap) bs (p : Int) _ w.drew H.out).mono ?_; rintro e w' ⟨v', rfl, h1, h2, h3⟩)
    go_end0
    exact crash_done h1 h2 h3 (by unfold upto cutTo; omega)
  · obtain ⟨m, rfl⟩ := Int.eq_ofNat_of_zero_le hn
    have hm0 : ((m : Int) < 0) = False := by simp
    rcases Nat.lt_or_ge (bs.length - p) m with hm | hm
    · have hm' : (bs.length : Int) - (p : Int) < (m : Int) := by omega
      have w2 : IntKind.i64.wrap ((p : Int) + ((bs.length : Int) - (p : Int))) = (p : Int) + ((bs.length : Int) - (p : Int)) := IntWalk.i64_in _ (by omega)
      go_enter Try.func11, Try.ntmps11
      go_wp2_with fail
      refine wp_region_still_tail 19 (by kernel_rfl) (by kernel_rfl) ?_
      simp only [List.take_succ_cons, List.take_zero, List.drop_succ_cons, List.drop_zero]
      repeat still_step
      refine wpStill_nil ?_
      change wpList _ _ _ _ _ w.drew
      go_wp2_with (go_at_call 14; refine (truncate_any g base (.slice A0 bs.length cap) bs (p : Int) _ w.drew H.out).mono ?_; rintro e w' ⟨v', rfl, h1, h2, h3⟩)
      go_end0
      exact crash_done h1 h2 h3 (by unfold upto cutTo; omega)
    · have hm' : ((bs.length : Int) - (p : Int) < (m : Int)) = False := by simp; omega
      have w2 : IntKind.i64.wrap ((p : Int) + (m : Int)) = (p : Int) + (m : Int) := IntWalk.i64_in _ (by omega)
      go_enter Try.func11, Try.ntmps11
      go_wp2_with fail
      refine wp_region_still_tail 19 (by kernel_rfl) (by kernel_rfl) ?_
      simp only [List.take_succ_cons, List.take_zero, List.drop_succ_cons, List.drop_zero]
      repeat still_step
      refine wpStill_nil ?_
      change wpList _ _ _ _ _ w.drew
      go_wp2_with (go_at_call 14; refine (truncate_any g base (.slice A0 bs.length cap) bs (p : Int) _ w.drew H.out).mono ?_; rintro e w' ⟨v', rfl, h1, h2, h3⟩)
      go_end0
      exact crash_done h1 h2 h3 (by unfold upto cutTo; omega)

/-- Clone -/
def TwinPost (w : World) (bs : List Int) (s : Int) (e : Ending) (w' : World) : Prop :=
  ∃ g v, e = .returned (.pointer (some ⟨g, 0, none⟩)) ∧ w.heap.size ≤ g ∧ DiskAt 40 w' w.heap.size g v bs s ∧ Below w.heap.size w w'
theorem twin_done {w w1 : World} {bs : List Int} {s : Int} {v : Value} (h1 : Row w1 w.drew.heap.size v bs) (h2 : Below w.drew.heap.size w.drew w1) (hl : bs.length ≤ 1000000) (h0 : 0 ≤ s) (hs : s ≤ bs.length) :
    TwinPost w bs s (.returned (.pointer (some ⟨w1.heap.size, 0, none⟩))) (w1.alloc (.cells #[v, .int .i64 s] 40)) :=
  ⟨w1.heap.size, v, rfl, h2.size, ⟨heap_alloc_new w1 _, h2.size, h1.below ((Below.refl _ _).alloc (Nat.le_refl _) _), hl, h0, hs⟩,
    (Below.trans (⟨h2.os, h2.tape, h2.output, h2.size, h2.block⟩ : Below w.heap.size w w1) (((Below.refl _ _).alloc (Nat.le_refl _) _).mono h2.size))⟩
set_option maxHeartbeats 400000 in
theorem twin_any (g base : Nat) (v : Value) (bs : List Int) (s : Int) (w : World) (hd : DiskAt 40 w base g v bs s) : Calls Try.prog 13 #[.pointer (some ⟨g, 0, none⟩)] w (TwinPost w bs s) := by
  obtain ⟨c0, c1, f0, f1⟩ := hd.cells
  obtain ⟨A0, cap, hv, _⟩ := hd.2.2.1.form
  subst hv
  have hr := (hd.2.2.1.rd).1
  have hl := hd.2.2.2.1
  have hlt := hd.lt
  have H := Lib.hid hr
  have H2 := Lib.hid hd
  clear hd hr
  go_enter Try.func13, Try.ntmps13
  go_wp2_with fail
  go_region_held3 (fun w' => w'.cell? ⟨g, 0, none⟩ = some (.slice A0 bs.length cap) ∧ w'.cell? ⟨g, 1, none⟩ = some (.int .i64 s)) (first | go_keep | skip) ((go_at_call 18; refine (clone_any A0 _ cap bs _ (by exact H.out) hl).mono ?_; (rintro e w' ⟨v', rfl, h1, h2⟩); obtain ⟨A1, cap1, rfl, _⟩ := h1.form; have k0 := (h2.cell (p := ⟨g, 0, none⟩) hlt).trans c0; have k1 := (h2.cell (p := ⟨g, 1, none⟩) hlt).trans c1))
  go_wp2
  go_ret
  exact twin_done h1 h2 hl H2.out.2.2.2.2.1 H2.out.2.2.2.2.2

set_option maxHeartbeats 4000000 in
theorem rappend_any (g base : Nat) (v : Value) (bs xs : List Int) (s : Int) (A : Option Addr) (n c : Nat) (w : World) (hd : DiskAt 34 w base g v bs s) (hb : base ≤ w.heap.size) (hr : Rd w A n xs) (hl : bs.length + xs.length ≤ 1000000) :
    Calls Try.prog 17 #[.pointer (some ⟨g, 0, none⟩), .slice A n c] w (Turned 34 w base g v (bs ++ xs) s) := by
  obtain ⟨c0, c1, f0, f1⟩ := hd.cells
  obtain ⟨hg, hgb, hrow, _, hs0, hs1⟩ := hd
  have hlt : g < w.heap.size := (Array.getElem?_eq_some_iff.1 hg).1
  obtain ⟨A0, cap, hv, hcap⟩ := hrow.form
  subst hv
  have hcap' : (bs.length : Int) ≤ (cap : Int) := by omega
  have hne := hrow.ne hg (by decide)
  have hrow' := hrow.clip bs.length bs.length (Nat.le_refl _) (Nat.le_refl _) hcap
  rw [List.take_length] at hrow'
  have H := Lib.hid (And.intro hr (And.intro hrow' hg))
  have HN := Lib.hid hne
  have hob : (Value.slice A0 bs.length bs.length).ownBlock = (Value.slice A0 bs.length cap).ownBlock := by cases A0 <;> rfl
  have HB := Lib.hid hob
  clear hr hrow hg hne hrow' hob
  go_enter Try.func17, Try.ntmps17
  go_wp2_with fail
  go_region_law ((refine step_append_row (by rfl) base (.tmp 19) (.tmp 20) 22 (by rfl) Try.underlying22 info5 (.slice A0 bs.length bs.length) bs xs A n c (by rfl) (by rfl) (by exact H.out.2.1) (by exact H.out.1) hb (by omega) ?_; intro v1 w1 h1 h2 h3; have hg1 : w1.heap[g]? = _ := (h2.block g hlt (fun e => HN.out (by rw [← HB.out]; exact e.symm))).trans H.out.2.2; have k0 : w1.cell? ⟨g, 0, none⟩ = some (.slice A0 bs.length cap) := (cell_of_row w1 g 0 _ 34 (0, 0) hg1).trans rfl; have e0 : w1.frozen? ⟨g, 0, none⟩ = false := (by simp [World.frozen?, hg1]); obtain ⟨A1, cap1, rfl, _⟩ := h1.form; have H1 := Lib.hid (And.intro h1 (And.intro h2 (And.intro h3 hg1))); clear h1 h2 h3 hg1))
  all_goals
    go_wp2
    go_end0
    obtain ⟨h1, h2, h3, hg1⟩ := H1.out
    have hne1 := h1.ne hg1 (by decide)
    rw [← List.length_append]
    refine ⟨_, rfl, ⟨(disk_put (y := undef) hg1).1, hgb, h1.chg (T := fun k => k = g) ((Chg.refl _ _).setCell _ _ (fun _ => rfl)) (fun k hk e => hne1 (e ▸ hk)), by simp; omega, hs0, by simp; omega⟩, ?_, ?_⟩
    · rcases h3 with h3 | h3
      · exact .inl (h3.trans HB.out)
      · exact .inr h3
    · exact ((Chg.of_grown h2).of_drew.mono (fun k hk => .inr (by rw [hk, HB.out]))).setCell _ _ (fun _ => .inl rfl)

set_option maxHeartbeats 400000 in
theorem rtruncate_any (g base : Nat) (v : Value) (bs : List Int) (s : Int) (n : Int) (w : World) (hd : DiskAt 34 w base g v bs s) :
    Calls Try.prog 15 #[.pointer (some ⟨g, 0, none⟩), .int .i64 n] w (Turned 34 w base g v (bs.take (upto n bs.length)) (upto n bs.length)) := by
  obtain ⟨c0, c1, f0, f1⟩ := hd.cells
  obtain ⟨A0, cap, hv, hcap⟩ := hd.2.2.1.form
  subst hv
  have hbs := hd.2.2.2.1
  have H := Lib.hid hd
  clear hd
  have hcap' : (bs.length : Int) ≤ (cap : Int) := by omega
  have hp : ((bs.length : Int) < 0) = False := by simp
  rcases Int.lt_or_le n 0 with hn | hn
  · go_enter Try.func15, Try.ntmps15
    go_wp2_with fail
    refine wp_region_still_tail 16 (by kernel_rfl) (by kernel_rfl) ?_
    simp only [List.take_succ_cons, List.take_zero, List.drop_succ_cons, List.drop_zero]
    repeat still_step
    refine wpStill_nil ?_
    change wpList _ _ _ _ _ w.drew
    go_wp2
    go_end0
    have e : upto n bs.length = 0 := by unfold upto; omega
    rw [e]
    exact trunc_done (by decide) H.out 0 cap (Nat.zero_le _) (Nat.zero_le _) (Nat.le_refl _)
  · obtain ⟨m, rfl⟩ := Int.eq_ofNat_of_zero_le hn
    have hm0 : ((m : Int) < 0) = False := by simp
    rcases Nat.lt_or_ge bs.length m with hm | hm
    · have hm' : (bs.length : Int) < (m : Int) := by omega
      go_enter Try.func15, Try.ntmps15
      go_wp2_with fail
      refine wp_region_still_tail 16 (by kernel_rfl) (by kernel_rfl) ?_
      simp only [List.take_succ_cons, List.take_zero, List.drop_succ_cons, List.drop_zero]
      repeat still_step
      refine wpStill_nil ?_
      change wpList _ _ _ _ _ w.drew
      go_wp2
      go_end0
      have e : upto (m : Int) bs.length = bs.length := by unfold upto; omega
      rw [e]
      exact trunc_done (by decide) H.out bs.length cap (Nat.le_refl _) hcap (Nat.le_refl _)
    · have hm' : ((bs.length : Int) < (m : Int)) = False := by simp; omega
      have hm2 : (m : Int) ≤ (cap : Int) := by omega
      go_enter Try.func15, Try.ntmps15
      go_wp2_with fail
      refine wp_region_still_tail 16 (by kernel_rfl) (by kernel_rfl) ?_
      simp only [List.take_succ_cons, List.take_zero, List.drop_succ_cons, List.drop_zero]
      repeat still_step
      refine wpStill_nil ?_
      change wpList _ _ _ _ _ w.drew
      go_wp2
      go_end0
      have e : upto (m : Int) bs.length = m := by unfold upto; omega
      rw [e]
      exact trunc_done (by decide) H.out m cap hm (by omega) (Nat.le_refl _)

set_option maxHeartbeats 400000 in
theorem rcrash_any (g base : Nat) (v : Value) (bs : List Int) (s : Int) (n : Int) (w : World) (hd : DiskAt 34 w base g v bs s) :
    Calls Try.prog 16 #[.pointer (some ⟨g, 0, none⟩), .int .i64 n] w (Turned 34 w base g v (bs.take (cutTo n s bs.length)) (cutTo n s bs.length)) := by
  obtain ⟨c0, c1, f0, f1⟩ := hd.cells
  obtain ⟨A0, cap, hv, hcap⟩ := hd.2.2.1.form
  subst hv
  have hbs := hd.2.2.2.1
  have hs0 := hd.2.2.2.2.1
  have hs1 := hd.2.2.2.2.2
  obtain ⟨p, rfl⟩ := Int.eq_ofNat_of_zero_le hs0
  have H := Lib.hid hd
  clear hd
  have hp : ((bs.length : Int) < 0) = False := by simp
  rcases Int.lt_or_le n 0 with hn | hn
  · have w2 : IntKind.i64.wrap (p : Int) = (p : Int) := IntWalk.i64_in _ (by omega)
    have hq : ((bs.length : Int) < (p : Int)) = False := by simp; omega
    go_enter Try.func16, Try.ntmps16
    go_wp2_with fail
    refine wp_region_still_tail 20 (by kernel_rfl) (by kernel_rfl) ?_
    simp only [List.take_succ_cons, List.take_zero, List.drop_succ_cons, List.drop_zero]
    repeat still_step
    refine wpStill_nil ?_
    change wpList _ _ _ _ _ w.drew
    go_wp2_with (go_at_call 15; refine (rtruncate_any g base (.slice A0 bs.length cap) bs _ _ w.drew H.out).mono ?_; rintro e w' ⟨v', rfl, h1, h2, h3⟩)
    go_end0
    exact crash_done h1 h2 h3 (by unfold upto cutTo; omega)
  · obtain ⟨m, rfl⟩ := Int.eq_ofNat_of_zero_le hn
    have hm0 : ((m : Int) < 0) = False := by simp
    rcases Nat.lt_or_ge bs.length m with hm | hm
    · have hm' : (bs.length : Int) < (m : Int) := by omega
      have w2 : IntKind.i64.wrap ((p : Int) + (bs.length : Int)) = (p : Int) + (bs.length : Int) := IntWalk.i64_in _ (by omega)
      rcases Nat.eq_zero_or_pos p with h0 | h0
      · subst h0
        have w3 : IntKind.i64.wrap (bs.length : Int) = (bs.length : Int) := IntWalk.i64_in _ (by omega)
        go_enter Try.func16, Try.ntmps16
        go_wp2_with fail
        refine wp_region_still_tail 20 (by kernel_rfl) (by kernel_rfl) ?_
        simp only [List.take_succ_cons, List.take_zero, List.drop_succ_cons, List.drop_zero]
        repeat still_step
        refine wpStill_nil ?_
        change wpList _ _ _ _ _ w.drew
        go_wp2_with (go_at_call 15; refine (rtruncate_any g base (.slice A0 bs.length cap) bs _ _ w.drew H.out).mono ?_; rintro e w' ⟨v', rfl, h1, h2, h3⟩)
        go_end0
        exact crash_done h1 h2 h3 (by unfold upto cutTo; omega)
      · have hq : ((bs.length : Int) < (p : Int) + (bs.length : Int)) := by omega
        go_enter Try.func16, Try.ntmps16
        go_wp2_with fail
        refine wp_region_still_tail 20 (by kernel_rfl) (by kernel_rfl) ?_
        simp only [List.take_succ_cons, List.take_zero, List.drop_succ_cons, List.drop_zero]
        repeat still_step
        refine wpStill_nil ?_
        change wpList _ _ _ _ _ w.drew
        go_wp2_with (go_at_call 15; refine (rtruncate_any g base (.slice A0 bs.length cap) bs _ _ w.drew H.out).mono ?_; rintro e w' ⟨v', rfl, h1, h2, h3⟩)
        go_end0
        exact crash_done h1 h2 h3 (by unfold upto cutTo; omega)
    · have hm' : ((bs.length : Int) < (m : Int)) = False := by simp; omega
      have w2 : IntKind.i64.wrap ((p : Int) + (m : Int)) = (p : Int) + (m : Int) := IntWalk.i64_in _ (by omega)
      rcases Nat.lt_or_ge bs.length (p + m) with h0 | h0
      · have hq : ((bs.length : Int) < (p : Int) + (m : Int)) := by omega
        go_enter Try.func16, Try.ntmps16
        go_wp2_with fail
        refine wp_region_still_tail 20 (by kernel_rfl) (by kernel_rfl) ?_
        simp only [List.take_succ_cons, List.take_zero, List.drop_succ_cons, List.drop_zero]
        repeat still_step
        refine wpStill_nil ?_
        change wpList _ _ _ _ _ w.drew
        go_wp2_with (go_at_call 15; refine (rtruncate_any g base (.slice A0 bs.length cap) bs _ _ w.drew H.out).mono ?_; rintro e w' ⟨v', rfl, h1, h2, h3⟩)
        go_end0
        exact crash_done h1 h2 h3 (by unfold upto cutTo; omega)
      · have hq : ((bs.length : Int) < (p : Int) + (m : Int)) = False := by simp; omega
        go_enter Try.func16, Try.ntmps16
        go_wp2_with fail
        refine wp_region_still_tail 20 (by kernel_rfl) (by kernel_rfl) ?_
        simp only [List.take_succ_cons, List.take_zero, List.drop_succ_cons, List.drop_zero]
        repeat still_step
        refine wpStill_nil ?_
        change wpList _ _ _ _ _ w.drew
        go_wp2_with (go_at_call 15; refine (rtruncate_any g base (.slice A0 bs.length cap) bs _ _ w.drew H.out).mono ?_; rintro e w' ⟨v', rfl, h1, h2, h3⟩)
        go_end0
        exact crash_done h1 h2 h3 (by unfold upto cutTo; omega)
end Go.Proofs.Ytnlfjjafamkmeaa
