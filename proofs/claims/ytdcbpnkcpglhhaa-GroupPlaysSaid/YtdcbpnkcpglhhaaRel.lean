/- A region that draws its order, walked once in the order of the text, where operations and callees read, compute and make memory: each result is told by what it is, or by a predicate that new memory does not turn; whatever order is drawn, the end is the same. A store, a list of stores that wait for all else, may end it. -/
import Derived.StillTail
import Derived.Below
import Derived.Deep.Quiet
namespace Go.Proofs.Ytdcbpnkcpglhhaa
open Go Go.RowKit

/-- the world with new blocks, and draws -/
def Ext (w w' : World) : Prop := Below w.heap.size w w'
theorem Ext.refl (w : World) : Ext w w := Below.refl _ _
theorem Ext.trans {a b c : World} (h : Ext a b) (k : Ext b c) : Ext a c := Below.trans h (Below.mono k h.size)
theorem Ext.cell {w w' : World} (h : Ext w w') {a : Addr} {v : Value} (hc : w.cell? a = some v) : w'.cell? a = some v := (Below.cell h (World.block_lt_of_cell? w a hc)).trans hc
theorem Ext.drew {w w' : World} (h : Ext w w') : Ext w w'.drew := Below.drew h
theorem Ext.alloc {w w' : World} (h : Ext w w') (o : Obj) : Ext w (w'.alloc o) := Below.alloc h h.size o

structure Ent where
  idx : Nat
  dst : Option Tmp
  R : Value → World → Prop

def fillE (wt : Nat → Bool) (w : World) : List Ent → Act → (Act → Prop) → Prop
  | [], a, K => K a
  | e :: l, a, K => ∀ v, (wt e.idx = true → e.R v w) → fillE wt w l (a.put e.dst v) K

/-- what an operation that is carried out hands on -/
def givesR (P : Program) (w : World) (V : Value → World → Prop) : Result Next → Prop
  | .ok (.value v) w' => Ext w w' ∧ V v w'
  | .ok .skip w' => Ext w w' ∧ V undef w'
  | .ok (.enter f args) w' => Ext w w' ∧ Calls P f args w' fun e w'' => ∃ v, e = .returned v ∧ Ext w' w'' ∧ V v w''
  | _ => False

def stepR (P : Program) (ops : Array Oper) (o : Oper) (a : Act) (w : World) (V : Value → World → Prop) : Prop :=
  if Region.wanted o (yielded ops a.tmps) then givesR P w V ((execOp a.eval o).run P w) else V undef w

def relGo (P : Program) (ops : Array Oper) (w0 : World) (Fin : List Ent → Act → Prop) : Nat → List Ent → Act → List Oper → Prop
  | _, L, a, [] => Fin L a
  | k, L, a, o :: rest =>
    (∃ c, (∀ w, Ext w0 w → fillE (fun j => Region.waitsFor .any ops k j) w L a (fun a' => stepR P ops o a' w (fun v _ => v = c))) ∧ relGo P ops w0 Fin (k + 1) L (a.put o.dst c) rest) ∨
    (∃ R : Value → World → Prop, (∀ v w w', R v w → Ext w w' → R v w') ∧ (∀ w, Ext w0 w → fillE (fun j => Region.waitsFor .any ops k j) w L a (fun a' => stepR P ops o a' w R)) ∧
      relGo P ops w0 Fin (k + 1) (L ++ [⟨k, o.dst, R⟩]) a rest)

theorem relGo_pure {P : Program} {ops : Array Oper} {w0 : World} {Fin : List Ent → Act → Prop} {k : Nat} {L : List Ent} {a : Act} {o : Oper} {rest : List Oper} {c : Value}
    (h : ∀ w, Ext w0 w → fillE (fun j => Region.waitsFor .any ops k j) w L a (fun a' => stepR P ops o a' w (fun v _ => v = c))) (hr : relGo P ops w0 Fin (k + 1) L (a.put o.dst c) rest) : relGo P ops w0 Fin k L a (o :: rest) :=
  .inl ⟨c, h, hr⟩
theorem relGo_rel {P : Program} {ops : Array Oper} {w0 : World} {Fin : List Ent → Act → Prop} {k : Nat} {L : List Ent} {a : Act} {o : Oper} {rest : List Oper} (R : Value → World → Prop) (hs : ∀ v w w', R v w → Ext w w' → R v w')
    (h : ∀ w, Ext w0 w → fillE (fun j => Region.waitsFor .any ops k j) w L a (fun a' => stepR P ops o a' w R)) (hr : relGo P ops w0 Fin (k + 1) (L ++ [⟨k, o.dst, R⟩]) a rest) : relGo P ops w0 Fin k L a (o :: rest) :=
  .inr ⟨R, hs, h, hr⟩

/-! ### why it holds -/
inductive Kd where
  | pure (c : Value)
  | rel (R : Value → World → Prop)
def Kd.sat : Kd → Value → World → Prop
  | .pure c, v, _ => v = c
  | .rel R, v, w => R v w
def Kd.some : Kd → Value
  | .pure c => c
  | .rel _ => undef
def entOf (k : Nat) (o : Oper) : Kd → List Ent
  | .pure _ => []
  | .rel R => [⟨k, o.dst, R⟩]
def actOf (a : Act) (o : Oper) : Kd → Act
  | .pure c => a.put o.dst c
  | .rel _ => a
def dstOf (ops : Array Oper) (j : Nat) : Option Tmp := (ops[j]?).bind (·.dst)
def lexL (ops : Array Oper) (E : Nat → Kd) : Nat → List Ent
  | 0 => []
  | k + 1 => lexL ops E k ++ (match ops[k]? with | some o => entOf k o (E k) | none => [])
def lexA (ops : Array Oper) (E : Nat → Kd) (a0 : Act) : Nat → Act
  | 0 => a0
  | k + 1 => match ops[k]? with | some o => actOf (lexA ops E a0 k) o (E k) | none => lexA ops E a0 k
theorem lex_congr {ops : Array Oper} {E E' : Nat → Kd} {a0 : Act} : ∀ k, (∀ j, j < k → E' j = E j) → lexL ops E' k = lexL ops E k ∧ lexA ops E' a0 k = lexA ops E a0 k
  | 0, _ => ⟨rfl, rfl⟩
  | k + 1, h => by
    obtain ⟨h1, h2⟩ := lex_congr (ops := ops) (a0 := a0) k (fun j hj => h j (by omega))
    simp only [lexL, lexA, h1, h2, h k (by omega), and_self]

section
variable {P : Program} {ops : Array Oper} {w0 : World} {Fin : List Ent → Act → Prop} {a0 : Act}

def Obl (P : Program) (ops : Array Oper) (w0 : World) (a0 : Act) (E : Nat → Kd) (j : Nat) : Prop :=
  ∀ o, ops[j]? = some o → (∀ v w w', (E j).sat v w → Ext w w' → (E j).sat v w') ∧
    ∀ w, Ext w0 w → fillE (fun i => Region.waitsFor .any ops j i) w (lexL ops E j) (lexA ops E a0 j) (fun a' => stepR P ops o a' w (E j).sat)

theorem collect : ∀ (rest : List Oper) (k : Nat) (E : Nat → Kd), (∀ j, j < rest.length → rest[j]? = ops[k + j]?) → relGo P ops w0 Fin k (lexL ops E k) (lexA ops E a0 k) rest →
    ∃ E' : Nat → Kd, (∀ j, j < k → E' j = E j) ∧ (∀ j, k ≤ j → j < k + rest.length → Obl P ops w0 a0 E' j) ∧ Fin (lexL ops E' (k + rest.length)) (lexA ops E' a0 (k + rest.length))
  | [], k, E, _, h => ⟨E, fun _ _ => rfl, fun j h1 h2 => by simp at h2; omega, h⟩
  | o :: rest, k, E, hl, h => by
    have h0 : ops[k]? = some o := by simpa using (hl 0 (by simp)).symm
    have hl' : ∀ j, j < rest.length → rest[j]? = ops[k + 1 + j]? := fun j hj => by
      have := hl (j + 1) (by simp; omega)
      simpa [Nat.add_assoc, Nat.add_comm 1 j] using this
    have step : ∀ kd : Kd, (∀ v w w', kd.sat v w → Ext w w' → kd.sat v w') → (∀ w, Ext w0 w → fillE (fun i => Region.waitsFor .any ops k i) w (lexL ops E k) (lexA ops E a0 k) (fun a' => stepR P ops o a' w kd.sat)) →
        relGo P ops w0 Fin (k + 1) (lexL ops E k ++ entOf k o kd) (actOf (lexA ops E a0 k) o kd) rest →
        ∃ E' : Nat → Kd, (∀ j, j < k → E' j = E j) ∧ (∀ j, k ≤ j → j < k + (o :: rest).length → Obl P ops w0 a0 E' j) ∧ Fin (lexL ops E' (k + (o :: rest).length)) (lexA ops E' a0 (k + (o :: rest).length)) := by
      intro kd hs hob hr
      obtain ⟨c1, c2⟩ := lex_congr (ops := ops) (E := E) (E' := fun j => if j = k then kd else E j) (a0 := a0) k (fun j hj => by simp; omega)
      have e1 : lexL ops (fun j => if j = k then kd else E j) (k + 1) = lexL ops E k ++ entOf k o kd := by simp [lexL, h0, c1]
      have e2 : lexA ops (fun j => if j = k then kd else E j) a0 (k + 1) = actOf (lexA ops E a0 k) o kd := by simp [lexA, h0, c2]
      rw [← e1, ← e2] at hr
      obtain ⟨E', g1, g2, g3⟩ := collect rest (k + 1) _ hl' hr
      have hEk : E' k = kd := by rw [g1 k (by omega)]; simp
      have hEj : ∀ j, j < k → E' j = E j := fun j hj => by rw [g1 j (by omega)]; simp; omega
      refine ⟨E', hEj, fun j h1 h2 => ?_, ?_⟩
      · rcases Nat.eq_or_lt_of_le h1 with h1 | h1
        · subst h1
          intro o' ho'
          have : o' = o := Option.some.inj (ho'.symm.trans h0)
          subst this
          obtain ⟨d1, d2⟩ := lex_congr (ops := ops) (E := E) (E' := E') (a0 := a0) k hEj
          rw [hEk, d1, d2]
          exact ⟨hs, hob⟩
        · exact g2 j h1 (by simp at h2; omega)
      · have : k + (o :: rest).length = k + 1 + rest.length := by simp; omega
        rw [this]
        exact g3
    rcases h with ⟨c, h1, h2⟩ | ⟨R, hs, h1, h2⟩
    · exact step (.pure c) (fun v w w' h _ => h) h1 (by simpa [entOf, actOf] using h2)
    · exact step (.rel R) hs h1 h2

/-- a frame that holds, of the operations of 'on', the results vs, else what a0 holds -/
structure Fits (ops : Array Oper) (a0 : Act) (on : Nat → Prop) (b : Act) (vs : Nat → Value) : Prop where
  defers : b.defers = a0.defers
  size : b.tmps.size = a0.tmps.size
  put : ∀ j t, on j → dstOf ops j = some t → t < a0.tmps.size → b.tmps[t]? = some (vs j)
  old : ∀ t, (∀ j, on j → dstOf ops j ≠ some t) → b.tmps[t]? = a0.tmps[t]?

theorem Fits.zero (vs : Nat → Value) : Fits ops a0 (fun _ => False) a0 vs := ⟨rfl, rfl, fun _ _ h => h.elim, fun _ _ => rfl⟩
theorem Fits.step {on on' : Nat → Prop} {b : Act} {vs : Nat → Value} (h : Fits ops a0 on b vs) (i : Nat) (hon : ∀ j, on' j ↔ on j ∨ j = i) (hd : ∀ j t, on j → j ≠ i → dstOf ops j = some t → dstOf ops i ≠ some t) (hni : ¬ on i) :
    Fits ops a0 on' (b.put (dstOf ops i) (vs i)) vs := by
  cases hi : dstOf ops i with
  | none =>
    refine ⟨h.defers, h.size, fun j t hj ht hlt => ?_, fun t hn => ?_⟩
    · rcases (hon j).1 hj with hj | rfl
      · exact h.put j t hj ht hlt
      · rw [hi] at ht; cases ht
    · exact h.old t (fun j hj => hn j ((hon j).2 (.inl hj)))
  | some d =>
    refine ⟨h.defers, by simpa [Act.put] using h.size, fun j t hj ht hlt => ?_, fun t hn => ?_⟩
    · rcases (hon j).1 hj with hj | rfl
      · have hji : j ≠ i := fun e => hni (e ▸ hj)
        have hdt : d ≠ t := fun e => hd j t hj hji ht (by rw [hi, e])
        simp only [Act.put, Array.getElem?_setIfInBounds_ne hdt]
        exact h.put j t hj ht hlt
      · rw [hi] at ht
        cases ht
        simp [Act.put, h.size, hlt]
    · have hdt : d ≠ t := fun e => hn i ((hon i).2 (.inr rfl)) (by rw [hi, e])
      simp only [Act.put, Array.getElem?_setIfInBounds_ne hdt]
      exact h.old t (fun j hj => hn j ((hon j).2 (.inl hj)))
theorem Fits.congr {on : Nat → Prop} {b : Act} {vs vs' : Nat → Value} (h : Fits ops a0 on b vs) (hv : ∀ j, on j → vs' j = vs j) : Fits ops a0 on b vs' :=
  ⟨h.defers, h.size, fun j t hj ht hlt => by rw [hv j hj]; exact h.put j t hj ht hlt, h.old⟩
theorem Fits.unique {on : Nat → Prop} {b b' : Act} {vs : Nat → Value} (h : Fits ops a0 on b vs) (h' : Fits ops a0 on b' vs) : b = b' := by
  obtain ⟨t, d⟩ := b
  obtain ⟨t', d'⟩ := b'
  have e1 : d = d' := h.defers.trans h'.defers.symm
  have e2 : t = t' := by
    apply Array.ext_getElem?
    intro i
    by_cases hex : ∃ j, on j ∧ dstOf ops j = some i
    · obtain ⟨j, hj, hji⟩ := hex
      by_cases hlt : i < a0.tmps.size
      · exact (h.put j i hj hji hlt).trans (h'.put j i hj hji hlt).symm
      · rw [Array.getElem?_eq_none (by have := h.size; simp at this; omega), Array.getElem?_eq_none (by have := h'.size; simp at this; omega)]
    · have hn : ∀ j, on j → dstOf ops j ≠ some i := fun j hj he => hex ⟨j, hj, he⟩
      exact (h.old i hn).trans (h'.old i hn).symm
  rw [e1, e2]

def putEnts (vs : Nat → Value) : List Ent → Act → Act
  | [], a => a
  | e :: l, a => putEnts vs l (a.put e.dst (vs e.idx))
theorem putEnts_append (vs : Nat → Value) : ∀ (l l' : List Ent) (a : Act), putEnts vs (l ++ l') a = putEnts vs l' (putEnts vs l a)
  | [], _, _ => rfl
  | _ :: l, l', _ => putEnts_append vs l l' _
theorem putEnts_put (vs : Nat → Value) (x : Option Tmp) (v : Value) : ∀ (l : List Ent) (a : Act), (∀ e ∈ l, ∀ d, x = some d → e.dst ≠ some d) → putEnts vs l (a.put x v) = (putEnts vs l a).put x v
  | [], _, _ => rfl
  | e :: l, a, h => by
    simp only [putEnts]
    rw [Act.put_comm a v (vs e.idx) (h e (by simp)), putEnts_put vs x v l _ (fun e' he' => h e' (by simp [he']))]
theorem fill_inst (wt : Nat → Bool) (w : World) (vs : Nat → Value) (K : Act → Prop) : ∀ (l : List Ent) (a : Act), fillE wt w l a K → (∀ e ∈ l, wt e.idx = true → e.R (vs e.idx) w) → K (putEnts vs l a)
  | [], _, h, _ => h
  | e :: l, _, h, hv => fill_inst wt w vs K l _ (h _ (hv e (by simp))) (fun e' he' => hv e' (by simp [he']))

/-- the check on the region's form: distinct slots; what an operation looks at comes of operations that it waits for, ahead of it; those wait for operations ahead of them alone -/
def relB (ops : Array Oper) (n : Nat) : Bool :=
  Region.noSelect ops && decide (n ≤ ops.size) &&
  ((List.range n).all fun i => (List.range n).all fun j => decide (i = j) || (match dstOf ops i with | some d => dstOf ops j != some d | none => true)) &&
  ((List.range n).all fun i => match ops[i]? with
    | some o => ((List.range n).all fun j => match dstOf ops j with | some d => !(o.looksAt ops).contains d || (decide (j < i) && Region.waitsFor .any ops i j) | none => true) && o.after.all fun e => !Region.binds .any e || decide (e.on < i)
    | none => false) &&
  Region.seqB .any ops (ops.size - n) n (Array.replicate n true ++ Array.replicate (ops.size - n) false) &&
  (decide (n = ops.size) || (decide (n < ops.size) && Region.sinkB .any ops n && Region.chainB .any ops n))

structure RelOk (ops : Array Oper) (n : Nat) : Prop where
  sel : Region.noSelect ops = true
  le : n ≤ ops.size
  dst : ∀ i j d, i < n → j < n → i ≠ j → dstOf ops i = some d → dstOf ops j ≠ some d
  looks : ∀ i o j d, i < n → ops[i]? = some o → j < n → dstOf ops j = some d → d ∈ o.looksAt ops → j < i ∧ Region.waitsFor .any ops i j = true
  back : ∀ i o e, i < n → ops[i]? = some o → e ∈ o.after → Region.binds .any e = true → e.on < i
  seq : Region.seqB .any ops (ops.size - n) n (Array.replicate n true ++ Array.replicate (ops.size - n) false) = true
  tail : n = ops.size ∨ (n < ops.size ∧ Region.sinkB .any ops n = true ∧ Region.chainB .any ops n = true)
theorem relB_ok {n : Nat} (h : relB ops n = true) : RelOk ops n := by
  simp only [relB, Bool.and_eq_true, decide_eq_true_eq, Bool.or_eq_true] at h
  obtain ⟨⟨⟨⟨⟨h1, h2⟩, h3⟩, h4⟩, h5⟩, h6⟩ := h
  refine ⟨h1, h2, fun i j d hi hj hne hd => ?_, fun i o j d hi ho hj hd hm => ?_, fun i o e hi ho he hb => ?_, h5, ?_⟩
  · have := List.all_eq_true.1 (List.all_eq_true.1 h3 i (List.mem_range.2 hi)) j (List.mem_range.2 hj)
    simp only [hd, Bool.or_eq_true, decide_eq_true_eq, hne, false_or, bne_iff_ne] at this
    exact this
  · have := List.all_eq_true.1 h4 i (List.mem_range.2 hi)
    simp only [ho, Bool.and_eq_true] at this
    have := List.all_eq_true.1 this.1 j (List.mem_range.2 hj)
    simp only [hd, Bool.or_eq_true, Bool.and_eq_true, decide_eq_true_eq, Bool.not_eq_true'] at this
    rcases this with this | this
    · have hc : (o.looksAt ops).contains d = true := by simpa using hm
      rw [hc] at this; cases this
    · exact this
  · have := List.all_eq_true.1 h4 i (List.mem_range.2 hi)
    simp only [ho, Bool.and_eq_true] at this
    have := Array.all_eq_true_iff_forall_mem.1 this.2 e he
    simpa [hb] using this
  · rcases h6 with h6 | h6
    · exact .inl h6
    · exact .inr ⟨h6.1.1, h6.1.2, h6.2⟩

def unl (listed : Array Bool) (n : Nat) : Nat := (List.range n).countP fun i => !listed.getD i true
theorem unl_far {listed : Array Bool} {i : Nat} : ∀ n, n ≤ i → unl (listed.setIfInBounds i true) n = unl listed n
  | 0, _ => rfl
  | n + 1, h => by
    have ih := unl_far (listed := listed) (i := i) n (by omega)
    unfold unl at *
    rw [List.range_succ, List.countP_append, List.countP_append, ih]
    simp only [List.countP_cons, List.countP_nil, getD_set_ne (i := i) (j := n) true (by omega)]
theorem unl_set {listed : Array Bool} {i : Nat} (hi : listed.getD i true = false) : ∀ n, i < n → unl (listed.setIfInBounds i true) n + 1 = unl listed n
  | 0, h => by omega
  | n + 1, h => by
    have hlt : i < listed.size := by
      rcases Nat.lt_or_ge i listed.size with h' | h'
      · exact h'
      · simp [Array.getElem?_eq_none h'] at hi
    rcases Nat.lt_or_ge i n with h1 | h1
    · have ih := unl_set hi n h1
      unfold unl at *
      rw [List.range_succ, List.countP_append, List.countP_append, ← ih]
      simp only [List.countP_cons, List.countP_nil, getD_set_ne (i := i) (j := n) true (by omega)]
      omega
    · have hin : i = n := by omega
      subst hin
      have := unl_far (listed := listed) (i := i) i (Nat.le_refl _)
      unfold unl at *
      rw [List.range_succ, List.countP_append, List.countP_append, this]
      have e1 : (listed.setIfInBounds i true).getD i true = true := by simp [hlt]
      simp only [List.countP_cons, List.countP_nil, hi, e1]
      simp
theorem unl_zero {listed : Array Bool} {n : Nat} (h : unl listed n = 0) : ∀ i, i < n → listed.getD i true = true := by
  intro i hi
  unfold unl at h
  have := List.countP_eq_zero.1 h i (List.mem_range.2 hi)
  simpa using this
theorem unl_pos {listed : Array Bool} {n : Nat} (h : 0 < unl listed n) : ∃ i, i < n ∧ listed.getD i true = false := by
  obtain ⟨i, hi, hp⟩ := List.countP_pos_iff.1 h
  exact ⟨i, List.mem_range.1 hi, by simpa using hp⟩
theorem getD_false_of_true {listed : Array Bool} {i : Nat} (hs : i < listed.size) (h : listed.getD i true = true) : listed.getD i false = true := by
  simp [hs] at h ⊢; exact h

theorem rel_run {n : Nat} {Q : Exit → Act → World → Prop} (ok : RelOk ops n) (E : Nat → Kd) (hob : ∀ j, j < n → Obl P ops w0 a0 E j)
    (hfin : ∀ w, Ext w0 w → fillE (fun _ => true) w (lexL ops E n) (lexA ops E a0 n) (fun a' => wpList P ops Q (ops.toList.drop n) a' w)) :
    ∀ (m : Nat) (listed : Array Bool) (b : Act) (w : World) (vs : Nat → Value), unl listed n = m → HeadInv .any ops n listed → Ext w0 w → Fits ops a0 (fun j => j < n ∧ listed.getD j true = true) b vs →
      (∀ j, j < n → listed.getD j true = true → (E j).sat (vs j) w) → wpAny P .any ops Q (m + (ops.size - n)) listed b w := by
  -- what the walk's frame at k is
  have hlex : ∀ (vs : Nat → Value) k, k ≤ n → (∀ j c, j < k → E j = .pure c → vs j = c) → Fits ops a0 (fun j => j < k) (putEnts vs (lexL ops E k) (lexA ops E a0 k)) vs := by
    intro vs k
    induction k with
    | zero => intro _ _; exact ⟨rfl, rfl, fun _ _ h => absurd h (Nat.not_lt_zero _), fun _ _ => rfl⟩
    | succ k ih =>
      intro hk hp
      have hkn : k < ops.size := by have := ok.le; omega
      have h0 : ops[k]? = some ops[k] := Array.getElem?_eq_getElem hkn
      have hd : dstOf ops k = ops[k].dst := by simp [dstOf, h0]
      have IH := ih (by omega) (fun j c hj => hp j c (by omega))
      have hst := IH.step (on' := fun j => j < k + 1) k (fun j => by omega) (fun j t hj hne ht => ok.dst j k t (by omega) (by omega) hne ht) (by simp)
      rw [hd] at hst
      simp only [lexL, lexA, h0]
      cases hE : E k with
      | rel R =>
        simp only [entOf, actOf, putEnts_append, putEnts]
        exact hst
      | pure c =>
        simp only [entOf, actOf, List.append_nil]
        rw [putEnts_put]
        · rw [← hp k c (by omega) hE]
          exact hst
        · intro e he d hx hed
          -- e is of an operation ahead of k
          have : ∀ k', k' ≤ k → ∀ e ∈ lexL ops E k', ∃ j, j < k' ∧ dstOf ops j = e.dst := by
            intro k'
            induction k' with
            | zero => intro _ e he; simp [lexL] at he
            | succ k' ih' =>
              intro hk' e he
              simp only [lexL, List.mem_append] at he
              rcases he with he | he
              · obtain ⟨j, hj, hj'⟩ := ih' (by omega) e he
                exact ⟨j, by omega, hj'⟩
              · have hs : ops[k']? = some (ops[k']'(by omega)) := Array.getElem?_eq_getElem _
                rw [hs] at he
                cases hE' : E k' with
                | pure c => rw [hE'] at he; simp [entOf] at he
                | rel R => rw [hE'] at he; simp [entOf] at he; exact ⟨k', by omega, by rw [he]; simp [dstOf, hs]⟩
          obtain ⟨j, hj, hj'⟩ := this k (Nat.le_refl _) e he
          exact ok.dst j k d (by omega) (by omega) (by omega) (by rw [hj', hed]) (by rw [hd, hx])
  -- an entry's facts
  have hent : ∀ k, k ≤ n → ∀ e ∈ lexL ops E k, e.idx < k ∧ ∀ v w, (E e.idx).sat v w = e.R v w := by
    intro k
    induction k with
    | zero => intro _ e he; simp [lexL] at he
    | succ k ih =>
      intro hk e he
      simp only [lexL, List.mem_append] at he
      rcases he with he | he
      · obtain ⟨h1, h2⟩ := ih (by omega) e he
        exact ⟨by omega, h2⟩
      · have hs : ops[k]? = some (ops[k]'(by have := ok.le; omega)) := Array.getElem?_eq_getElem _
        rw [hs] at he
        cases hE : E k with
        | pure c => rw [hE] at he; simp [entOf] at he
        | rel R => rw [hE] at he; simp [entOf] at he; rw [he]; exact ⟨by simp, fun v w => by simp only [hE]; rfl⟩
  intro m
  induction m with
  | zero =>
    intro listed b w vs hu inv hw hf hv
    have hall := unl_zero hu
    have hlist : listed = Array.replicate n true ++ Array.replicate (ops.size - n) false := by
      apply Array.ext
      · have := ok.le; simp [inv.size]; omega
      · intro i h1 h2
        rcases Nat.lt_or_ge i n with h | h
        · have := hall i h
          rw [Array.getElem_append_left (by simpa using h)]
          simpa [h1] using this
        · have := inv.tail i h (by rw [← inv.size]; exact h1)
          rw [Array.getElem_append_right (by simpa using h)]
          simpa [h1] using this
    rw [Nat.zero_add]
    have hlen : (ops.toList.drop n).length = ops.size - n := by simp
    have hq := hfin w hw
    have hon : ∀ j, j < n ↔ (j < n ∧ listed.getD j true = true) := fun j => ⟨fun h => ⟨h, hall j h⟩, fun h => h.1⟩
    have hp : ∀ j c, j < n → E j = .pure c → vs j = c := fun j c hj hE => by
      have := hv j hj (hall j hj)
      rw [hE] at this
      exact this
    have hfill := fill_inst _ w vs _ _ _ hq (fun e he _ => by
      obtain ⟨h1, h2⟩ := hent n (Nat.le_refl _) e he
      rw [← h2]
      exact hv _ h1 (hall _ h1))
    have hb : b = putEnts vs (lexL ops E n) (lexA ops E a0 n) := by
      refine Fits.unique (ops := ops) (a0 := a0) (on := fun j => j < n) (vs := vs) ?_ (hlex vs n (Nat.le_refl _) hp)
      exact ⟨hf.defers, hf.size, fun j t hj ht hlt => hf.put j t ((hon j).1 hj) ht hlt, fun t hn => hf.old t (fun j hj => hn j hj.1)⟩
    have := wpAny_of_seq (P := P) (ops := ops) (md := .any) (Q' := Q) (ops.toList.drop n) n listed b w (fun j => by simp [List.getElem?_drop]) (by rw [hlen, hlist]; exact ok.seq) (by rw [hb]; exact hfill)
    rwa [hlen] at this
  | succ m ih =>
    intro listed b w vs hu inv hw hf hv
    rw [show m + 1 + (ops.size - n) = (m + (ops.size - n)) + 1 by omega]
    obtain ⟨i0, hi0, hun0⟩ := unl_pos (n := n) (by omega : 0 < unl listed n)
    refine ⟨fun hr => ?_, fun i hi => ?_⟩
    · -- the least that has not come up is ready
      exfalso
      have hex : ∃ i, i < n ∧ listed.getD i true = false ∧ ∀ j, j < i → listed.getD j true = true := by
        have : ∀ d i, i ≤ d → i < n → listed.getD i true = false → ∃ i, i < n ∧ listed.getD i true = false ∧ ∀ j, j < i → listed.getD j true = true := by
          intro d
          induction d with
          | zero => intro i hd hi hl; exact ⟨i, hi, hl, fun j hj => by omega⟩
          | succ d ihd =>
            intro i hd hi hl
            by_cases hj : ∃ j, j < i ∧ listed.getD j true = false
            · obtain ⟨j, hj1, hj2⟩ := hj
              exact ihd j (by omega) (by omega) hj2
            · exact ⟨i, hi, hl, fun j hj' => by
                cases h : listed.getD j true with
                | true => rfl
                | false => exact absurd ⟨j, hj', h⟩ hj⟩
        exact this i0 i0 (Nat.le_refl _) hi0 hun0
      obtain ⟨i, hi, hl, hlow⟩ := hex
      have hs : ops[i]? = some (ops[i]'(by have := ok.le; omega)) := Array.getElem?_eq_getElem _
      have : i ∈ Region.ready .any ops listed := mem_ready.2 ⟨hl, _, hs, fun e he hb => by
        have := ok.back i _ e hi hs he hb
        exact getD_false_of_true (by rw [inv.size]; have := ok.le; omega) (hlow _ this)⟩
      rw [hr] at this
      cases this
    · have hin : i < n := by
        rcases ok.tail with ht | ⟨ht1, ht2, ht3⟩
        · obtain ⟨_, o, ho, _⟩ := mem_ready.1 hi
          have := (Array.getElem?_eq_some_iff.1 ho).1
          omega
        · rcases Nat.lt_or_ge i n with h | h
          · exact h
          · exact absurd hi (tail_waits ht2 ht3 ht1 inv _ i0 rfl hi0 hun0 i h)
      obtain ⟨hun, o, ho, hedges⟩ := mem_ready.1 hi
      have hwt : ∀ j, Region.waitsFor .any ops i j = true → listed.getD j false = true := fun j hj => by
        obtain ⟨o', ho', e, he, hb, hon⟩ := Region.waitsFor_spec hj
        have : o' = o := Option.some.inj (ho'.symm.trans ho)
        subst this
        rw [← hon]
        exact hedges e he hb
      have hwt' : ∀ j, Region.waitsFor .any ops i j = true → listed.getD j true = true := fun j hj => by
        have h1 := hwt j hj
        rcases Nat.lt_or_ge j listed.size with h | h
        · simp [h] at h1 ⊢; exact h1
        · simp [Array.getElem?_eq_none h]
      obtain ⟨hstab, hobl⟩ := hob i hin o ho
      -- letters for the walk's frame
      let us : Nat → Value := fun j => if listed.getD j true = true then vs j else (E j).some
      have hpu : ∀ j c, j < i → E j = .pure c → us j = c := fun j c hj hE => by
        show (if listed.getD j true = true then vs j else (E j).some) = c
        split
        · rename_i hl
          have := hv j (by omega) hl
          rw [hE] at this
          exact this
        · rw [hE]; rfl
      have hF := hlex us i (by omega) hpu
      have hstep := fill_inst _ w us _ _ _ (hobl w hw) (fun e he hwe => by
        obtain ⟨h1, h2⟩ := hent i (by omega) e he
        have hl := hwt' _ hwe
        have e1 : us e.idx = vs e.idx := if_pos hl
        rw [← h2, e1]
        exact hv _ (by omega) hl)
      generalize hfr : putEnts us (lexL ops E i) (lexA ops E a0 i) = f at hF hstep
      -- what it looks at is alike
      have hlook : ∀ t ∈ o.looksAt ops, f.tmps[t]? = b.tmps[t]? := by
        intro t ht
        by_cases hex : ∃ j, j < n ∧ dstOf ops j = some t
        · obtain ⟨j, hj, hjt⟩ := hex
          obtain ⟨hji, hjw⟩ := ok.looks i o j t hin ho hj hjt ht
          have hl := hwt' j hjw
          by_cases hlt : t < a0.tmps.size
          · rw [hF.put j t hji hjt hlt, hf.put j t ⟨hj, hl⟩ hjt hlt]
            exact congrArg _ (if_pos hl)
          · rw [Array.getElem?_eq_none (by rw [hF.size]; exact Nat.le_of_not_lt hlt), Array.getElem?_eq_none (by rw [hf.size]; exact Nat.le_of_not_lt hlt)]
        · rw [hF.old t (fun j hj he => hex ⟨j, by omega, he⟩), hf.old t (fun j hj he => hex ⟨j, hj.1, he⟩)]
      have hexec : execOp f.eval o = execOp b.eval o := execOp_congr o (fun cs bb => Region.noSelect_spec ok.sel i o cs bb ho) (fun x hx => by
        cases x with
        | tmp t =>
          have := hlook t (List.mem_append_left _ (List.mem_filterMap.2 ⟨.tmp t, by simpa using hx, rfl⟩))
          simp only [Act.eval, Array.getD_eq_getD_getElem?, this]
        | const v => rfl
        | global g => rfl
        | func g => rfl)
      have hwant : Region.wanted o (yielded ops f.tmps) = Region.wanted o (yielded ops b.tmps) := by
        unfold Region.wanted
        cases hg : o.guard with
        | none => rfl
        | some q =>
          obtain ⟨g, bb⟩ := q
          have : yielded ops f.tmps g = yielded ops b.tmps g := by
            unfold yielded
            cases hgd : (ops[g]?).bind (·.dst) with
            | none => rfl
            | some t =>
              have := hlook t (List.mem_append_right _ (by simp [hg, hgd]))
              simp only [Option.bind_some, this]
          simp only [this]
      -- on from there
      have next : ∀ v w', Ext w w' → (E i).sat v w' → wpAny P .any ops Q (m + (ops.size - n)) (listed.setIfInBounds i true) (b.put o.dst v) w' := by
        intro v w' hww hsat
        let vs' : Nat → Value := fun j => if j = i then v else vs j
        have hsz : i < listed.size := by rw [inv.size]; have := ok.le; omega
        have hset : ∀ j, (listed.setIfInBounds i true).getD j true = true ↔ (listed.getD j true = true ∨ j = i) := fun j => by
          by_cases hj : i = j
          · subst hj
            simp [hsz]
          · rw [getD_set_ne true hj]
            constructor
            · exact .inl
            · rintro (h | h)
              · exact h
              · exact absurd h.symm hj
        have hu' : unl (listed.setIfInBounds i true) n = m := by have := unl_set hun n hin; omega
        refine ih _ _ _ vs' hu' (inv.set hi hin) (hw.trans hww) ?_ ?_
        · have h1 : Fits ops a0 (fun j => j < n ∧ listed.getD j true = true) b vs' := hf.congr (fun j hj => by
            show (if j = i then v else vs j) = vs j
            rw [if_neg]
            rintro rfl
            rw [hun] at hj
            exact absurd hj.2 (by simp))
          have h2 := h1.step (on' := fun j => j < n ∧ (listed.setIfInBounds i true).getD j true = true) i (fun j => by
            rw [hset]
            constructor
            · rintro ⟨h, h' | h'⟩
              · exact .inl ⟨h, h'⟩
              · exact .inr h'
            · rintro (⟨h, h'⟩ | rfl)
              · exact ⟨h, .inl h'⟩
              · exact ⟨hin, .inr rfl⟩) (fun j t hj hne ht => ok.dst j i t hj.1 hin hne ht) (fun hj => by rw [hun] at hj; exact absurd hj.2 (by simp))
          have hdi : dstOf ops i = o.dst := by simp [dstOf, ho]
          have hvi : vs' i = v := if_pos rfl
          rw [hdi, hvi] at h2
          exact h2
        · intro j hj hl
          rcases (hset j).1 hl with h | rfl
          · by_cases hji : j = i
            · subst hji
              have hvi : vs' j = v := if_pos rfl
              rw [hvi]
              exact hsat
            · have hvj : vs' j = vs j := if_neg hji
              rw [hvj]
              have hs : ops[j]? = some (ops[j]'(by have := ok.le; omega)) := Array.getElem?_eq_getElem _
              exact (hob j hj _ hs).1 _ _ _ (hv j hj h) hww
          · have hvi : vs' j = v := if_pos rfl
            rw [hvi]
            exact hsat
      unfold wpOp
      simp only [ho]
      unfold stepR at hstep
      rw [hwant] at hstep
      split
      · rename_i hwd
        rw [if_pos hwd, hexec] at hstep
        left
        unfold Oper.wp
        generalize (execOp b.eval o).run P w = r at hstep
        cases r with
        | halt x w' => exact hstep.elim
        | ok nx w' =>
          cases nx <;> simp only [givesR] at hstep <;> simp only [Oper.upon]
          case value u => exact next _ _ hstep.1 hstep.2
          case skip => exact next _ _ hstep.1 hstep.2
          case enter fn args =>
            obtain ⟨h1, h2⟩ := hstep
            exact h2.mono fun e w'' ⟨v, he, h3, h4⟩ => by subst he; exact next _ _ (h1.trans h3) h4
      · rename_i hwd
        rw [if_neg hwd] at hstep
        exact next _ _ (Ext.refl _) hstep

end

/-- ONE WALK IN THE TEXT'S ORDER SERVES EVERY ORDER. n: how many operations stand ahead of the tail. -/
theorem wp_region_rel {P : Program} {id : Nat} {Q : Exit → Act → World → Prop} {a0 : Act} {w0 : World} {l : List Oper} (n : Nat) (hm : P.follows .mixedOrders = true) (hB : relB l.toArray n = true)
    (h : relGo P l.toArray w0 (fun L a => ∀ w, Ext w0 w → fillE (fun _ => true) w L a (fun a' => wpList P l.toArray Q (l.drop n) a' w)) 0 [] a0 (l.take n)) : (Code.region id l.toArray true).wp P Q a0 w0 := by
  have ok := relB_ok hB
  have hle : n ≤ l.length := by simpa using ok.le
  obtain ⟨E, _, hob, hfin⟩ := collect (P := P) (ops := l.toArray) (w0 := w0) (a0 := a0) (l.take n) 0 (fun _ => .pure undef) (fun j hj => by
    have : j < n := by simp at hj; omega
    simp [this]) (by simpa [lexL, lexA] using h)
  have hlen : (l.take n).length = n := by simp; omega
  rw [hlen, Nat.zero_add] at hfin
  refine wp_region_any hm ?_
  have hu : ∀ m k, unl (Array.replicate m false) k = min k m := by
    intro m k
    induction k with
    | zero => simp [unl]
    | succ k ih =>
      unfold unl at *
      rw [List.range_succ, List.countP_append, ih]
      rcases Nat.lt_or_ge k m with hk | hk
      · simp [hk]; omega
      · simp [hk]; omega
  have H := rel_run (P := P) (ops := l.toArray) (w0 := w0) (a0 := a0) (n := n) (Q := Q) ok E (fun j hj => hob j (Nat.zero_le _) (by rw [hlen]; omega)) (by simpa using hfin) n (Array.replicate l.toArray.size false) a0 { w0 with drawn := w0.drawn + 1 } (fun _ => undef)
    (by rw [hu]; simp; omega) ⟨by simp, fun j oj _ hl => (by rw [getD_replicate_false] at hl; cases hl), fun t _ ht => getD_in (by simpa using ht) (getD_replicate_false _ _)⟩ ((Ext.refl w0).drew)
    ⟨rfl, rfl, fun j t hj => by
      have h1 : (Array.replicate l.toArray.size false).getD j true = false := getD_in (by have := hj.1; simp; omega) (getD_replicate_false _ _)
      rw [h1] at hj
      exact absurd hj.2 (by simp), fun _ _ => rfl⟩
    (fun j hj hl => by
      have h1 : (Array.replicate l.toArray.size false).getD j true = false := getD_in (by simp; omega) (getD_replicate_false _ _)
      rw [h1] at hl
      cases hl)
  have e : n + (l.toArray.size - n) = l.toArray.size := by simp; omega
  rw [e] at H
  exact H

/-! ### the walk's own words -/
/-- a later world -/
structure Later (w0 : World) where
  w : World
  h : Ext w0 w
instance (w0 : World) : Inhabited (Later w0) := ⟨⟨w0, Ext.refl w0⟩⟩
theorem Later.cell {w0 : World} (p : Later w0) {a : Addr} {v : Value} (hc : w0.cell? a = some v) : p.w.cell? a = some v := p.h.cell hc

theorem fillE_false {w : World} {K K' : Act → Prop} (wt : Nat → Bool) (hK : ∀ a, K a → K' a) : ∀ (l : List Ent) (a : Act), fillE (fun _ => false) w l a K → fillE wt w l a K'
  | [], _, h => hK _ h
  | _ :: l, _, h => fun v _ => fillE_false wt hK l _ (h v (fun hh => by cases hh))

/-- an operation whose result is one value, and that looks at no letter -/
theorem relGo_p {P : Program} {ops : Array Oper} {w0 : World} {Fin : List Ent → Act → Prop} {k : Nat} {L : List Ent} {a : Act} {o : Oper} {rest : List Oper}
    (h : ∀ K : Act → Prop, (∀ a, relGo P ops w0 Fin (k + 1) L a rest → K a) → ∃ c, (∀ p : Later w0, fillE (fun _ => false) p.w L a (fun a' => stepR P ops o a' p.w (fun v _ => v = c))) ∧ K (a.put o.dst c)) : relGo P ops w0 Fin k L a (o :: rest) := by
  obtain ⟨c, h1, h2⟩ := h _ (fun _ h => h)
  exact relGo_pure (fun w hw => fillE_false _ (fun _ h => h) L a (h1 ⟨w, hw⟩)) h2
/-- one that looks at letters -/
theorem relGo_q {P : Program} {ops : Array Oper} {w0 : World} {Fin : List Ent → Act → Prop} {k : Nat} {L : List Ent} {a : Act} {o : Oper} {rest : List Oper} (c : Value)
    (h : ∀ w, Ext w0 w → fillE (fun j => Region.waitsFor .any ops k j) w L a (fun a' => stepR P ops o a' w (fun v _ => v = c)))
    (hr : ∀ K : Act → Prop, (∀ a, relGo P ops w0 Fin (k + 1) L a rest → K a) → K (a.put o.dst c)) : relGo P ops w0 Fin k L a (o :: rest) :=
  relGo_pure h (hr _ (fun _ h => h))
theorem relGo_r {P : Program} {ops : Array Oper} {w0 : World} {Fin : List Ent → Act → Prop} {k : Nat} {L : List Ent} {a : Act} {o : Oper} {rest : List Oper} (R : Value → World → Prop) (hs : ∀ v w w', R v w → Ext w w' → R v w')
    (h : ∀ w, Ext w0 w → fillE (fun j => Region.waitsFor .any ops k j) w L a (fun a' => stepR P ops o a' w R))
    (hr : relGo P ops w0 Fin (k + 1) (L ++ [⟨k, o.dst, R⟩]) a rest) : relGo P ops w0 Fin k L a (o :: rest) := relGo_rel R hs h hr

theorem wp_region_rel' {P : Program} {id : Nat} {Q : Exit → Act → World → Prop} {a0 : Act} {w0 : World} {l : List Oper} (n : Nat) (hm : P.follows .mixedOrders = true) (hB : relB l.toArray n = true)
    (h : ∀ Fin : List Ent → Act → Prop, (∀ L a, (∀ w, Ext w0 w → fillE (fun _ => true) w L a (fun a' => wpList P l.toArray Q (l.drop n) a' w)) → Fin L a) → relGo P l.toArray w0 Fin 0 [] a0 (l.take n)) : (Code.region id l.toArray true).wp P Q a0 w0 :=
  wp_region_rel n hm hB (h _ (fun _ _ h => h))
end Go.Proofs.Ytdcbpnkcpglhhaa
