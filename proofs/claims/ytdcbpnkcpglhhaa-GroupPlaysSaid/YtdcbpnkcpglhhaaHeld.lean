/- A region that draws its order: what reads may come first, up to one store that waits for all of it. -/
import Derived.Test.YtdcbpnkcpglhhaaProg
import Derived.WalkKit
import Derived.Lib.Hide
import Derived.OrdersHeld
import Derived.RegionTactic
namespace Go.Proofs.Ytdcbpnkcpglhhaa
open Go Go.RowKit
section
variable {P : Program} {ops : Array Oper} {Q : Exit → Act → World → Prop} {md : Region.Mode} {S : World → Prop} {t : Nat}
/-- whatever order is drawn from here on; behind each operation but number t the condition holds -/
def Upto (P : Program) (md : Region.Mode) (ops : Array Oper) (Q : Exit → Act → World → Prop) (S : World → Prop) (t : Nat) : Nat → Array Bool → Act → World → Prop
  | 0, l, a, w => Region.ready md ops l = [] ∧ Q .normal a w
  | k + 1, l, a, w => (Region.ready md ops l = [] → Q .normal a w) ∧ ∀ i ∈ Region.ready md ops l, wpOp P ops Q i (fun a1 w1 => (i ≠ t → S w1) ∧ Upto P md ops Q S t k (l.setIfInBounds i true) a1 w1) a w
theorem Upto.any : ∀ (k : Nat) (l : Array Bool) (a : Act) (w : World), Upto P md ops Q S t k l a w → wpAny P md ops Q k l a w
  | 0, _, _, _, h => h
  | k + 1, _, _, _, h => ⟨h.1, fun i hi => wpOp_mono (fun a1 w1 h1 => Upto.any k _ a1 w1 h1.2) (h.2 i hi)⟩
/-- does the last store wait for it? -/
def waitsB (md : Region.Mode) (ops : Array Oper) (t i : Nat) : Bool := t != i && match ops[t]? with
  | some o => o.after.any fun e => Region.binds md e && e.on == i
  | none => false
theorem waitsB.out {i : Nat} (h : waitsB md ops t i = true) : i ≠ t ∧ ∃ o, ops[t]? = some o ∧ ∃ e ∈ o.after, Region.binds md e = true ∧ e.on = i := by
  unfold waitsB at h
  rw [Bool.and_eq_true] at h
  refine ⟨fun e => by simp [e] at h, ?_⟩
  cases ho : ops[t]? with
  | none => simp [ho] at h
  | some o =>
    rw [ho] at h
    obtain ⟨e, he, hb⟩ := Array.any_eq_true'.1 h.2
    simp only [Bool.and_eq_true, beq_iff_eq] at hb
    exact ⟨o, rfl, e, he, hb⟩
theorem Upto.first {i : Nat} {oi : Oper} {v : Value} (hi : ops[i]? = some oi) (hsel : Region.noSelect ops = true) (hw : waitsB md ops t i = true)
    (hQ : ∀ c a w, Q (.panic c) (a.put oi.dst v) w → Q (.panic c) a w) :
    ∀ (k : Nat) (l : Array Bool) (a : Act) (w : World), (∀ j oj, ops[j]? = some oj → j ≠ i → l.getD j true = false → (∀ e ∈ oj.after, Region.binds md e = true → e.on ≠ i) → oi.apart ops oj = true) →
      i ∈ Region.ready md ops l → YieldsIf P ops S oi v a → S w → Upto P md ops Q S t k (l.setIfInBounds i true) (a.put oi.dst v) w → Upto P md ops Q S t (k + 1) l a w := by
  intro k
  obtain ⟨hit, ot, hot, et, het, hbt, hont⟩ := waitsB.out hw
  induction k with
  | zero =>
    intro l a w hfree hr hy hS H
    refine ⟨fun h0 => absurd hr (by rw [h0]; exact List.not_mem_nil), fun j hj => ?_⟩
    rcases Nat.decEq j i with hji | rfl
    · exact absurd (ready_mono hj hji) (by rw [H.1]; exact List.not_mem_nil)
    · exact hy.wpOp hi hS ⟨fun _ => hS, H⟩
  | succ k ih =>
    intro l a w hfree hr hy hS H
    refine ⟨fun h0 => absurd hr (by rw [h0]; exact List.not_mem_nil), fun j hj => ?_⟩
    rcases Nat.decEq j i with hji | rfl
    · obtain ⟨hjl, oj, hoj, hall⟩ := mem_ready.1 hj
      have hno : ∀ e ∈ oj.after, Region.binds md e = true → e.on ≠ i := by
        intro e he hb hon
        have h1 := hall e he hb
        have h0 := (mem_ready.1 hr).1
        rw [hon] at h1
        by_cases hsz : i < l.size
        · simp [hsz] at h0 h1
          rw [h0] at h1
          cases h1
        · simp [Array.getElem?_eq_none (Nat.le_of_not_lt hsz)] at h1
      have hjt : j ≠ t := by
        rintro rfl
        rw [hot] at hoj
        cases hoj
        exact hno et het hbt hont
      have hs2 := Region.noSelect_spec hsel
      have h2 := wpOp_putIf hoj (hfree j oj hoj hji hjl hno) (fun cs b => hs2 i oi cs b hi) (fun cs b => hs2 j oj cs b hoj) hQ hy (H.2 j (ready_mono hj hji))
      refine wpOp_mono (fun a1 w1 h3 => ⟨fun _ => h3.2.1 hjt, ?_⟩) h2
      refine ih _ a1 w1 (fun m om hm hmi hml hmn => hfree m om hm hmi ?_ hmn) (ready_mono hr (Ne.symm hji)) h3.1 (h3.2.1 hjt) ?_
      · rcases Nat.decEq j m with hjm | rfl
        · rw [getD_set_ne true hjm] at hml
          exact hml
        · exact hjl
      · rw [Array.setIfInBounds_comm _ _ hji]
        exact h3.2.2
    · exact hy.wpOp hi hS ⟨fun _ => hS, H⟩
theorem Upto.take {i : Nat} {oi : Oper} {v : Value} {k : Nat} {l : Array Bool} {a : Act} {w : World} (hi : ops[i]? = some oi) (hc : (Region.noSelect ops && waitsB md ops t i && Region.free md ops l i && (Region.ready md ops l).contains i) = true)
    (hQ : ∀ c a w, Q (.panic c) (a.put oi.dst v) w → Q (.panic c) a w) (hy : YieldsIf P ops S oi v a) (hS : S w) (h : Upto P md ops Q S t k (l.setIfInBounds i true) (a.put oi.dst v) w) : Upto P md ops Q S t (k + 1) l a w := by
  simp only [Bool.and_eq_true] at hc
  exact Upto.first hi hc.1.1.1 hc.1.1.2 hQ k l a w (Region.free_spec hi hc.1.2) (by simpa using hc.2) hy hS h
theorem Upto.takeD {i : Nat} (d : Option Tmp) {oi : Oper} {v : Value} {k : Nat} {l : Array Bool} {a : Act} {w : World} (hi : ops[i]? = some oi) (hd : oi.dst = d) (hc : (Region.noSelect ops && waitsB md ops t i && Region.free md ops l i && (Region.ready md ops l).contains i) = true)
    (hQ : ∀ c a w, Q (.panic c) (a.put d v) w → Q (.panic c) a w) (hy : YieldsIf P ops S oi v a) (hS : S w) (h : Upto P md ops Q S t k (l.setIfInBounds i true) (a.put d v) w) : Upto P md ops Q S t (k + 1) l a w := by
  subst hd
  exact Upto.take hi hc hQ hy hS h
theorem Upto.one {i : Nat} {o : Oper} {k : Nat} {l : Array Bool} {a : Act} {w : World} (hr : Region.ready md ops l = [i]) (ho : ops[i]? = some o)
    (h : ∀ K : Act → World → Prop, Hid (∀ a1 w1, (i ≠ t → S w1) → Upto P md ops Q S t k (l.setIfInBounds i true) a1 w1 → K a1 w1) → if Region.wanted o (yielded ops a.tmps) = true then Oper.wp P o a w K Q else K (a.put o.dst undef) w) : Upto P md ops Q S t (k + 1) l a w := by
  refine ⟨fun h0 => (by rw [hr] at h0; cases h0), fun j hj => ?_⟩
  rw [hr] at hj
  obtain rfl := List.mem_singleton.1 hj
  exact wpOp_step ho fun K hK => h K (Lib.hid fun a1 w1 h1 h2 => hK a1 w1 ⟨h1, h2⟩)
theorem Upto.done {l : Array Bool} {a : Act} {w : World} (hr : Region.ready md ops l = []) (h : Q .normal a w) : ∀ k, Upto P md ops Q S t k l a w
  | 0 => ⟨hr, h⟩
  | _ + 1 => ⟨fun _ => h, by rw [hr]; simp⟩
theorem Upto.start {id : Nat} {a : Act} {w : World} (hm : P.follows .mixedOrders = true) (h : Upto P .any ops Q S t ops.size (Array.replicate ops.size false) a w.drew) : (Code.region id ops true).wp P Q a w :=
  wp_region_any hm (Upto.any _ _ _ _ h)
end
end Go.Proofs.Ytdcbpnkcpglhhaa
