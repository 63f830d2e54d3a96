/- The closures and the conversions. -/
import Derived.Test.YtgodncdhkmpfaaaNumA
import Derived.Laws.Cover2
namespace Go.Proofs.Ytgodncdhkmpfaaa
open Go.RowKit
set_option linter.unusedVariables false
set_option linter.unusedSimpArgs false
attribute [local go_sem] stepR givesR fillE Ext.refl

/-- any float that is, up to the one NaN, the operation's result -/
def RetF (op : BinOp) (x y : Nat) (w : World) (e : Ending) (w' : World) : Prop := ∃ r, e = .returned (.float .f64 r) ∧ canon r = fop op x y ∧ Ext w w'
def asF (k i : Int) (f : Nat) : Nat := if k = 1 then floatOfInt .f64 i else f

theorem fop_some {op : BinOp} {x y r : Nat} (h : floatBits op .f64 x y = some r) : canon r = fop op x y := by unfold fop; rw [h]
theorem fop_none {op : BinOp} {x y : Nat} (h : floatBits op .f64 x y = none) (w : World) : canon (drawnNaN w x y) = fop op x y := by unfold fop; rw [h, canon_nan (drawn_isNaN w x y)]

theorem addF_any (x y : Nat) (w : World) : Calls Try.prog 40 #[.float .f64 x, .float .f64 y] w (RetF .add x y w) := by
  cases h : floatBits .add .f64 x y with
  | some r =>
    have hr : ∀ w, (binOp .add 22 (.float .f64 x) (.float .f64 y)).run Try.prog w = .ok (.float .f64 r) w := fun w => run_float_arith w _ _ _ _ _ _ h
    go_enter Try.func40, Try.ntmps40
    go_wp2
    go_ret
    exact ⟨r, rfl, fop_some h, Ext.refl _⟩
  | none =>
    have hr : ∀ w, (binOp .add 22 (.float .f64 x) (.float .f64 y)).run Try.prog w = .ok (.float .f64 (drawnNaN w x y)) w.drew := fun w => run_float_nan w _ _ _ _ (by simp) h
    go_enter Try.func40, Try.ntmps40
    go_wp2
    go_ret
    exact ⟨_, rfl, fop_none h _, (Ext.refl _).drew⟩
theorem subF_any (x y : Nat) (w : World) : Calls Try.prog 48 #[.float .f64 x, .float .f64 y] w (RetF .sub x y w) := by
  cases h : floatBits .sub .f64 x y with
  | some r =>
    have hr : ∀ w, (binOp .sub 22 (.float .f64 x) (.float .f64 y)).run Try.prog w = .ok (.float .f64 r) w := fun w => run_float_arith w _ _ _ _ _ _ h
    go_enter Try.func48, Try.ntmps48
    go_wp2
    go_ret
    exact ⟨r, rfl, fop_some h, Ext.refl _⟩
  | none =>
    have hr : ∀ w, (binOp .sub 22 (.float .f64 x) (.float .f64 y)).run Try.prog w = .ok (.float .f64 (drawnNaN w x y)) w.drew := fun w => run_float_nan w _ _ _ _ (by simp) h
    go_enter Try.func48, Try.ntmps48
    go_wp2
    go_ret
    exact ⟨_, rfl, fop_none h _, (Ext.refl _).drew⟩
theorem mulF_any (x y : Nat) (w : World) : Calls Try.prog 42 #[.float .f64 x, .float .f64 y] w (RetF .mul x y w) := by
  cases h : floatBits .mul .f64 x y with
  | some r =>
    have hr : ∀ w, (binOp .mul 22 (.float .f64 x) (.float .f64 y)).run Try.prog w = .ok (.float .f64 r) w := fun w => run_float_arith w _ _ _ _ _ _ h
    go_enter Try.func42, Try.ntmps42
    go_wp2
    go_ret
    exact ⟨r, rfl, fop_some h, Ext.refl _⟩
  | none =>
    have hr : ∀ w, (binOp .mul 22 (.float .f64 x) (.float .f64 y)).run Try.prog w = .ok (.float .f64 (drawnNaN w x y)) w.drew := fun w => run_float_nan w _ _ _ _ (by simp) h
    go_enter Try.func42, Try.ntmps42
    go_wp2
    go_ret
    exact ⟨_, rfl, fop_none h _, (Ext.refl _).drew⟩
theorem quoF_any (x y : Nat) (w : World) : Calls Try.prog 50 #[.float .f64 x, .float .f64 y] w (RetF .quo x y w) := by
  cases h : floatBits .quo .f64 x y with
  | some r =>
    have hr : ∀ w, (binOp .quo 22 (.float .f64 x) (.float .f64 y)).run Try.prog w = .ok (.float .f64 r) w := fun w => run_float_arith w _ _ _ _ _ _ h
    go_enter Try.func50, Try.ntmps50
    go_wp2
    go_ret
    exact ⟨r, rfl, fop_some h, Ext.refl _⟩
  | none =>
    have hr : ∀ w, (binOp .quo 22 (.float .f64 x) (.float .f64 y)).run Try.prog w = .ok (.float .f64 (drawnNaN w x y)) w.drew := fun w => run_float_nan w _ _ _ _ (by simp) h
    go_enter Try.func50, Try.ntmps50
    go_wp2
    go_ret
    exact ⟨_, rfl, fop_none h _, (Ext.refl _).drew⟩
theorem real_any (k i : Int) (f : Nat) (s : ByteArray) (L : Value) (w : World) : Calls Try.prog 53 #[(.agg #[.int .i64 k, .int .i64 i, .float .f64 f, .string s, L])] w (Ret (.float .f64 (asF k i f)) w) := by
  have hc : ∀ w, (convert 2 22 (.int .i64 i)).run Try.prog w = .ok (.float .f64 (floatOfInt .f64 i)) w := fun w => run_convert_int_float w 2 22 _ _ _ (by kernel_rfl) (by kernel_rfl)
  go_enter Try.func53, Try.ntmps53
  go_wp2
  all_goals
    go_ret
    exact ⟨by simp_all [asF], (Ext.refl _).alloc _⟩
theorem asfloat_any (k i : Int) (f : Nat) (s : ByteArray) (L : Value) (w : World) : Calls Try.prog 46 #[(.agg #[.int .i64 k, .int .i64 i, .float .f64 f, .string s, L])] w (Ret (.float .f64 (asF k i f)) w) := by
  have hc : ∀ w, (convert 2 22 (.int .i64 i)).run Try.prog w = .ok (.float .f64 (floatOfInt .f64 i)) w := fun w => run_convert_int_float w 2 22 _ _ _ (by kernel_rfl) (by kernel_rfl)
  go_enter Try.func46, Try.ntmps46
  go_wp2
  all_goals
    go_ret
    exact ⟨by simp_all [asF], (Ext.refl _).alloc _⟩

def exact (n : Int) : Option Int := if -9223372036854775808 ≤ n ∧ n < 9223372036854775808 then some n else none
def WholePost (r : Option Int) (w : World) (e : Ending) (w' : World) : Prop := ∃ n ok, e = .returned (.tuple #[.int .i64 n, .bool ok]) ∧ (if ok = true then some n else none) = r ∧ Ext w w'
def inR (n : Int) : Prop := -9223372036854775808 ≤ n ∧ n < 9223372036854775808
def wAdd (a b : Int) : Option Int := exact (a + b)
def wSub (a b : Int) : Option Int := exact (a - b)
def wMul (a b : Int) : Option Int := exact (a * b)
def wDiv (a b : Int) : Option Int := if b = 0 then none else exact (a.tdiv b)


theorem wrapEq (x : Int) : IntKind.i64.wrap x = wrap64 x := by rw [IntKind.wrap_i64]; unfold wrap64; rfl
theorem wrap_in {n : Int} (h : inR n) : wrap64 n = n := by unfold inR at h; unfold wrap64; omega
theorem wrap_inR (n : Int) : inR (wrap64 n) := by unfold inR wrap64; omega
instance (n : Int) : Decidable (inR n) := inferInstanceAs (Decidable (_ ∧ _))
theorem exact_in {n : Int} (h : inR n) : exact n = some n := if_pos h
theorem exact_out {n : Int} (h : ¬ inR n) : exact n = none := if_neg h
theorem quo_inR {c b : Int} (hc : inR c) (h1 : b ≠ -1) : inR (c.tdiv b) := by
  by_cases hb0 : b = 0
  · subst hb0
    rw [Int.tdiv_zero]
    unfold inR; omega
  by_cases hb1 : b = 1
  · subst hb1
    rw [Int.tdiv_one]
    exact hc
  have e : (c.tdiv b).natAbs = c.natAbs / b.natAbs := Int.natAbs_tdiv c b
  have l : c.natAbs / b.natAbs ≤ c.natAbs / 2 := Nat.div_le_div_left (by omega) (by omega)
  unfold inR at hc ⊢
  omega
theorem mul_tell {a b : Int} (ha : inR a) (hb : inR b) (hb0 : b ≠ 0) (hb1 : b ≠ -1) : (wrap64 ((wrap64 (a * b)).tdiv b) == a) = decide (inR (a * b)) := by
  rw [wrap_in (quo_inR (wrap_inR _) hb1)]
  by_cases h : inR (a * b)
  · rw [wrap_in h, decide_eq_true h, Int.mul_tdiv_cancel _ hb0]
    simp
  · rw [decide_eq_false h]
    refine beq_eq_false_iff_ne.2 fun e => h ?_
    have e2 := Int.tdiv_mul_add_tmod (wrap64 (a * b)) b
    rw [e] at e2
    have l : ((wrap64 (a * b)).tmod b).natAbs < b.natAbs := by
      rw [Int.natAbs_tmod]
      exact Nat.mod_lt _ (by omega)
    generalize (wrap64 (a * b)).tmod b = r at e2 l
    generalize a * b = m at *
    unfold inR at *
    unfold wrap64 at e2
    omega
theorem whole_some {n m : Int} {ok : Bool} (h : ok = decide (inR m)) (e : inR m → n = m) : (if ok = true then some n else none) = exact m := by
  subst h
  by_cases h : inR m
  · rw [decide_eq_true h, exact_in h, e h]; rfl
  · rw [decide_eq_false h, exact_out h]; rfl
theorem add_tell {a b : Int} (ha : inR a) (hb : inR b) : (decide (a < wrap64 (a + b)) == decide (0 < b)) = decide (inR (a + b)) := by
  by_cases hp : a < wrap64 (a + b) <;> by_cases hq : 0 < b <;> by_cases hr : inR (a + b) <;> simp [hp, hq, hr] <;>
    (unfold inR at *; unfold wrap64 at hp; omega)
theorem sub_tell {a b : Int} (ha : inR a) (hb : inR b) : (decide (wrap64 (a - b) < a) == decide (0 < b)) = decide (inR (a - b)) := by
  by_cases hp : wrap64 (a - b) < a <;> by_cases hq : 0 < b <;> by_cases hr : inR (a - b) <;> simp [hp, hq, hr] <;>
    (unfold inR at *; unfold wrap64 at hp; omega)

theorem addW_any (a b : Int) (ha : inR a) (hb : inR b) (w : World) : Calls Try.prog 39 #[.int .i64 a, .int .i64 b] w (WholePost (wAdd a b) w) := by
  go_enter Try.func39, Try.ntmps39
  go_wp2
  go_ret2
  exact ⟨_, _, rfl, whole_some (add_tell ha hb) wrap_in, Ext.refl _⟩
theorem subW_any (a b : Int) (ha : inR a) (hb : inR b) (w : World) : Calls Try.prog 47 #[.int .i64 a, .int .i64 b] w (WholePost (wSub a b) w) := by
  go_enter Try.func47, Try.ntmps47
  go_wp2
  go_ret2
  exact ⟨_, _, rfl, whole_some (sub_tell ha hb) wrap_in, Ext.refl _⟩
theorem divW_any (a b : Int) (ha : inR a) (hb : inR b) (w : World) : Calls Try.prog 49 #[.int .i64 a, .int .i64 b] w (WholePost (wDiv a b) w) := by
  by_cases h0 : b = 0
  · subst h0
    go_enter Try.func49, Try.ntmps49
    go_wp2
    go_ret2
    exact ⟨_, _, rfl, rfl, Ext.refl _⟩
  · rw [wDiv, if_neg h0]
    by_cases h1 : b = -1
    · subst h1
      by_cases hm : a = -9223372036854775808
      · subst hm
        go_enter Try.func49, Try.ntmps49
        go_wp2
        go_ret2
        exact ⟨_, _, rfl, by decide, Ext.refl _⟩
      · go_enter Try.func49, Try.ntmps49
        go_wp2
        go_ret2
        have e : a.tdiv (-1) = -a := by rw [Int.tdiv_neg, Int.tdiv_one]
        rw [e]
        refine ⟨_, _, rfl, whole_some ?_ wrap_in, Ext.refl _⟩
        unfold inR at *
        exact (decide_eq_true (by omega)).symm
    · have hq := quo_inR ha h1
      have g0 : (b == 0) = false := beq_eq_false_iff_ne.2 h0
      have g1 : (b == -1) = false := beq_eq_false_iff_ne.2 h1
      go_enter Try.func49, Try.ntmps49
      go_wp2
      all_goals
        go_ret2
        refine ⟨_, _, rfl, ?_, Ext.refl _⟩
      · rename_i hm
        subst hm
        exact whole_some (decide_eq_true hq).symm (fun h => (congrArg wrap64 (Int.neg_tdiv _ _).symm).trans (wrap_in h))
      · exact whole_some (decide_eq_true hq).symm wrap_in
theorem mulW_any (a b : Int) (ha : inR a) (hb : inR b) (w : World) : Calls Try.prog 41 #[.int .i64 a, .int .i64 b] w (WholePost (wMul a b) w) := by
  by_cases h0 : a = 0
  · subst h0
    have e : wMul 0 b = some 0 := by unfold wMul; rw [Int.zero_mul]; rfl
    rw [e]
    go_enter Try.func41, Try.ntmps41
    go_wp2
    go_ret2
    exact ⟨_, _, rfl, rfl, Ext.refl _⟩
  by_cases k0 : b = 0
  · subst k0
    have e : wMul a 0 = some 0 := by unfold wMul; rw [Int.mul_zero]; rfl
    rw [e]
    have g0 : (a == 0) = false := beq_eq_false_iff_ne.2 h0
    go_enter Try.func41, Try.ntmps41
    go_wp2
    go_ret2
    exact ⟨_, _, rfl, rfl, Ext.refl _⟩
  have g0 : (a == 0) = false := beq_eq_false_iff_ne.2 h0
  have g1 : (b == 0) = false := beq_eq_false_iff_ne.2 k0
  by_cases hm : a = -9223372036854775808 ∧ b = -1
  · obtain ⟨rfl, rfl⟩ := hm
    go_enter Try.func41, Try.ntmps41
    go_wp2
    refine wp_region_rel' 12 (by kernel_rfl) (by kernel_rfl) (fun Fin hFin => ?_)
    simp only [List.take_succ_cons, List.take_zero]
    repeat (refine relGo_p (fun K hK => ?_); go_simp; refine hK _ ?_; clear hK K)
    refine hFin _ _ (fun w' hw' => ?_)
    clear hFin Fin
    simp only [fillE, List.drop_succ_cons, List.drop_nil]
    go_wp2
    go_ret2
    exact ⟨_, _, rfl, by decide, hw'⟩
  by_cases hn : b = -9223372036854775808 ∧ a = -1
  · obtain ⟨rfl, rfl⟩ := hn
    go_enter Try.func41, Try.ntmps41
    go_wp2
    refine wp_region_rel' 12 (by kernel_rfl) (by kernel_rfl) (fun Fin hFin => ?_)
    simp only [List.take_succ_cons, List.take_zero]
    repeat (refine relGo_p (fun K hK => ?_); go_simp; refine hK _ ?_; clear hK K)
    refine hFin _ _ (fun w' hw' => ?_)
    clear hFin Fin
    simp only [fillE, List.drop_succ_cons, List.drop_nil]
    go_wp2
    go_ret2
    exact ⟨_, _, rfl, by decide, hw'⟩
  have hok : (wrap64 ((wrap64 (a * b)).tdiv b) == a) = decide (inR (a * b)) := by
    by_cases h : b = -1
    · subst h
      have e : a * -1 = -a := by omega
      have hr : inR (-a) := by unfold inR at *; omega
      rw [e, wrap_in hr, decide_eq_true hr, Int.tdiv_neg, Int.tdiv_one, Int.neg_neg, wrap_in ha]
      simp
    · exact mul_tell ha hb k0 h
  have h1 : ((a == -9223372036854775808) && (b == -1)) = false := by
    rw [Bool.eq_false_iff]
    intro h
    simp at h
    exact hm h
  have h2 : ((b == -9223372036854775808) && (a == -1)) = false := by
    rw [Bool.eq_false_iff]
    intro h
    simp at h
    exact hn h
  clear hm hn
  cases hA : (a == -9223372036854775808) <;> cases hB : (b == -1) <;> cases hC : (b == -9223372036854775808) <;> cases hD : (a == -1) <;>
    first | (exfalso; simp_all; done) | skip
  all_goals
    go_enter Try.func41, Try.ntmps41
    go_wp2
  all_goals
    refine wp_region_rel' 12 (by kernel_rfl) (by kernel_rfl) (fun Fin hFin => ?_)
    simp only [List.take_succ_cons, List.take_zero]
    repeat (refine relGo_p (fun K hK => ?_); go_simp; refine hK _ ?_; clear hK K)
    refine hFin _ _ (fun w' hw' => ?_)
    clear hFin Fin
    simp only [fillE, List.drop_succ_cons, List.drop_nil]
    go_wp2
    go_ret2
    refine ⟨_, _, rfl, whole_some ?_ wrap_in, hw'⟩
    first | exact hok | (rw [wrapEq]; exact hok)

set_option maxRecDepth 100000 in
theorem intsAdd_any (a b : Int) (ha : inR a) (hb : inR b) (w : World) : Calls Try.prog 45 #[.int .u8 43, .int .i64 a, .int .i64 b] w (WholePost (wAdd a b) w) := by
  have hz : ¬ (inR (a + b)) → (b == 0) = false := fun h => beq_eq_false_iff_ne.2 fun e => h (by unfold inR at *; omega)
  obtain ⟨c, hd, hk⟩ : ∃ c, (decide (a < wrap64 (a + b)) == decide (0 < b)) = c ∧ Hid (c = decide (inR (a + b))) := ⟨_, rfl, Lib.hid (add_tell ha hb)⟩
  cases c with
  | true =>
    clear hz
    go_enter Try.func45, Try.ntmps45
    go_wp2
    go_ret2
    exact ⟨_, _, rfl, whole_some hk.out wrap_in, Ext.refl _⟩
  | false =>
    have hz := hz (of_decide_eq_false hk.out.symm)
    go_enter Try.func45, Try.ntmps45
    go_wp2
    go_ret2
    exact ⟨_, _, rfl, whole_some hk.out wrap_in, Ext.refl _⟩
set_option maxRecDepth 100000 in
theorem intsSub_any (a b : Int) (ha : inR a) (hb : inR b) (w : World) : Calls Try.prog 45 #[.int .u8 45, .int .i64 a, .int .i64 b] w (WholePost (wSub a b) w) := by
  have hz : ¬ (inR (a - b)) → (b == 0) = false := fun h => beq_eq_false_iff_ne.2 fun e => h (by unfold inR at *; omega)
  obtain ⟨c, hd, hk⟩ : ∃ c, (decide (wrap64 (a - b) < a) == decide (0 < b)) = c ∧ Hid (c = decide (inR (a - b))) := ⟨_, rfl, Lib.hid (sub_tell ha hb)⟩
  cases c with
  | true =>
    clear hz
    go_enter Try.func45, Try.ntmps45
    go_wp2
    go_ret2
    exact ⟨_, _, rfl, whole_some hk.out wrap_in, Ext.refl _⟩
  | false =>
    have hz := hz (of_decide_eq_false hk.out.symm)
    go_enter Try.func45, Try.ntmps45
    go_wp2
    go_ret2
    exact ⟨_, _, rfl, whole_some hk.out wrap_in, Ext.refl _⟩
set_option maxRecDepth 100000 in
theorem intsDiv_any (a b : Int) (ha : inR a) (hb : inR b) (w : World) : Calls Try.prog 45 #[.int .u8 47, .int .i64 a, .int .i64 b] w (WholePost (wDiv a b) w) := by
  by_cases h0 : b = 0
  · subst h0
    go_enter Try.func45, Try.ntmps45
    go_wp2
    go_ret2
    exact ⟨_, _, rfl, rfl, Ext.refl _⟩
  · rw [wDiv, if_neg h0]
    by_cases h1 : b = -1
    · subst h1
      by_cases hm : a = -9223372036854775808
      · subst hm
        go_enter Try.func45, Try.ntmps45
        go_wp2
        go_ret2
        exact ⟨_, _, rfl, by decide, Ext.refl _⟩
      · go_enter Try.func45, Try.ntmps45
        go_wp2
        go_ret2
        have e : a.tdiv (-1) = -a := by rw [Int.tdiv_neg, Int.tdiv_one]
        rw [e]
        refine ⟨_, _, rfl, whole_some ?_ wrap_in, Ext.refl _⟩
        unfold inR at *
        exact (decide_eq_true (by omega)).symm
    · have hq := quo_inR ha h1
      have g0 : (b == 0) = false := beq_eq_false_iff_ne.2 h0
      have g1 : (b == -1) = false := beq_eq_false_iff_ne.2 h1
      go_enter Try.func45, Try.ntmps45
      go_wp2
      all_goals
        go_ret2
        refine ⟨_, _, rfl, ?_, Ext.refl _⟩
      · rename_i hm
        subst hm
        exact whole_some (decide_eq_true hq).symm (fun h => (congrArg wrap64 (Int.neg_tdiv _ _).symm).trans (wrap_in h))
      · exact whole_some (decide_eq_true hq).symm wrap_in
set_option maxRecDepth 100000 in
theorem intsMul_any (a b : Int) (ha : inR a) (hb : inR b) (w : World) : Calls Try.prog 45 #[.int .u8 42, .int .i64 a, .int .i64 b] w (WholePost (wMul a b) w) := by
  by_cases h0 : a = 0
  · subst h0
    have e : wMul 0 b = some 0 := by unfold wMul; rw [Int.zero_mul]; rfl
    rw [e]
    go_enter Try.func45, Try.ntmps45
    go_wp2
    go_ret2
    exact ⟨_, _, rfl, rfl, Ext.refl _⟩
  have g0 : (a == 0) = false := beq_eq_false_iff_ne.2 h0
  by_cases k0 : b = 0
  · subst k0
    have e : wMul a 0 = some 0 := by unfold wMul; rw [Int.mul_zero]; rfl
    rw [e]
    go_enter Try.func45, Try.ntmps45
    go_wp2
    go_ret2
    exact ⟨_, _, rfl, rfl, Ext.refl _⟩
  have g1 : (b == 0) = false := beq_eq_false_iff_ne.2 k0
  by_cases hm : a = -1
  · subst hm
    have e : wMul (-1) b = exact (-b) := by unfold wMul; rw [Int.neg_one_mul]
    rw [e]
    go_enter Try.func45, Try.ntmps45
    go_wp2
    go_ret2
    refine ⟨_, _, rfl, whole_some ?_ wrap_in, Ext.refl _⟩
    unfold inR at *
    rw [Bool.eq_iff_iff]
    simp
    omega
  have gm : (a == -1) = false := beq_eq_false_iff_ne.2 hm
  by_cases hn : b = -1
  · subst hn
    have e : wMul a (-1) = exact (-a) := by unfold wMul; rw [Int.mul_neg_one]
    rw [e]
    go_enter Try.func45, Try.ntmps45
    go_wp2
    go_ret2
    refine ⟨_, _, rfl, whole_some ?_ wrap_in, Ext.refl _⟩
    unfold inR at *
    rw [Bool.eq_iff_iff]
    simp
    omega
  have gn : (b == -1) = false := beq_eq_false_iff_ne.2 hn
  have hok := mul_tell ha hb k0 hn
  go_enter Try.func45, Try.ntmps45
  go_wp2
  refine wp_region_rel' 8 (by kernel_rfl) (by kernel_rfl) (fun Fin hFin => ?_)
  simp only [List.take_succ_cons, List.take_zero]
  repeat (refine relGo_p (fun K hK => ?_); go_simp; refine hK _ ?_; clear hK K)
  refine hFin _ _ (fun w' hw' => ?_)
  clear hFin Fin
  simp only [fillE, List.drop_succ_cons, List.drop_nil]
  go_wp2
  go_ret2
  refine ⟨_, _, rfl, whole_some ?_ wrap_in, hw'⟩
  first | exact hok | (rw [wrapEq]; exact hok)
end Go.Proofs.Ytgodncdhkmpfaaa
