/- Majorities: plain mathematics, no program in sight. -/
namespace Go.Proofs.Ytkipdnleebcbmaa.QP

/-- how many of 0 .. N-1 are on the list -/
def hits (N : Nat) (zs : List Int) : Nat := (List.range N).countP fun i : Nat => zs.contains (i : Int)
/-- how many of the list's elements, each once, are of 0 .. N-1 -/
def fresh (N : Nat) (pre : List Int) (x : Int) : Bool := decide (0 ≤ x) && decide (x < N) && !pre.contains x
def distinct (N : Nat) (zs : List Int) : Nat → Nat
  | 0 => 0
  | k + 1 => distinct N zs k + if fresh N (zs.take k) (zs.getD k 0) then 1 else 0

theorem countP_or (p q : Nat → Bool) : ∀ l : List Nat, (∀ x ∈ l, p x = true → q x = true → False) → l.countP (fun x => p x || q x) = l.countP p + l.countP q
  | [], _ => rfl
  | a :: l, h => by
    have ih := countP_or p q l (fun x hx => h x (by simp [hx]))
    have ha := h a (by simp)
    simp only [List.countP_cons, ih]
    cases hp : p a <;> cases hq : q a <;> simp_all <;> omega
theorem countP_one (x : Int) : ∀ N : Nat, (List.range N).countP (fun i : Nat => decide ((i : Int) = x)) = if 0 ≤ x ∧ x < N then 1 else 0
  | 0 => by
    have : ¬ (0 ≤ x ∧ x < ((0 : Nat) : Int)) := by omega
    rw [if_neg this]; rfl
  | N + 1 => by
    rw [List.range_succ, List.countP_append, countP_one x N, List.countP_singleton]
    by_cases h : (N : Int) = x
    · have h1 : ¬ (0 ≤ x ∧ x < (N : Int)) := by omega
      have h2 : 0 ≤ x ∧ x < ((N + 1 : Nat) : Int) := by omega
      rw [if_neg h1, if_pos h2, if_pos (by simpa using h)]
    · by_cases g : 0 ≤ x ∧ x < (N : Int)
      · have h2 : 0 ≤ x ∧ x < ((N + 1 : Nat) : Int) := by omega
        rw [if_pos g, if_pos h2, if_neg (by simpa using h)]
      · have h2 : ¬ (0 ≤ x ∧ x < ((N + 1 : Nat) : Int)) := by omega
        rw [if_neg g, if_neg h2, if_neg (by simpa using h)]
theorem hits_nil (N : Nat) : hits N [] = 0 := by simp [hits]
theorem hits_snoc (N : Nat) (l : List Int) (x : Int) : hits N (l ++ [x]) = hits N l + if fresh N l x then 1 else 0 := by
  unfold hits
  have e : (fun i : Nat => (l ++ [x]).contains (i : Int)) = fun i : Nat => (l.contains (i : Int)) || (decide ((i : Int) = x) && !l.contains x) := by
    funext i
    rw [Bool.eq_iff_iff]
    simp only [List.contains_iff_mem, List.mem_append, List.mem_singleton, Bool.or_eq_true, Bool.and_eq_true, decide_eq_true_eq, Bool.not_eq_true']
    constructor
    · rintro (h | h)
      · exact .inl h
      · by_cases hm : x ∈ l
        · exact .inl (h ▸ hm)
        · exact .inr ⟨h, by simpa using hm⟩
    · rintro (h | h)
      · exact .inl h
      · exact .inr h.1
  rw [e, countP_or _ _ _ (by
    intro i _ h1 h2
    simp only [Bool.and_eq_true, decide_eq_true_eq, Bool.not_eq_true'] at h2
    rw [h2.1, h2.2] at h1
    cases h1)]
  congr 1
  unfold fresh
  cases hm : l.contains x with
  | true =>
    have : (fun i : Nat => decide ((i : Int) = x) && !true) = fun _ => false := by funext i; simp
    rw [this]
    simp
  | false =>
    have : (fun i : Nat => decide ((i : Int) = x) && !false) = fun i : Nat => decide ((i : Int) = x) := by funext i; simp
    rw [this, countP_one]
    by_cases g : 0 ≤ x ∧ x < N
    · rw [if_pos g, if_pos (by simp [g.1, g.2])]
    · rw [if_neg g, if_neg]
      intro h
      simp only [Bool.and_eq_true, decide_eq_true_eq, Bool.not_false, and_true] at h
      exact g h
theorem distinct_hits (N : Nat) (zs : List Int) : ∀ k, k ≤ zs.length → distinct N zs k = hits N (zs.take k)
  | 0, _ => by simp [distinct, hits_nil]
  | k + 1, h => by
    have hk : k < zs.length := by omega
    rw [distinct, distinct_hits N zs k (by omega), List.take_succ_eq_append_getElem hk, hits_snoc]
    rw [List.getD_eq_getElem?_getD, List.getElem?_eq_getElem hk]
    rfl
theorem distinct_all (N : Nat) (zs : List Int) : distinct N zs zs.length = hits N zs := by
  rw [distinct_hits N zs _ (Nat.le_refl _), List.take_length]

/-! ### what is sorted -/
def cnt (t : Int) (l : List Int) : Nat := l.countP fun x => decide (t ≤ x)
theorem cnt_perm {t : Int} {l m : List Int} (h : l.Perm m) : cnt t l = cnt t m := h.countP_eq _
/-- ascending: the m-th from above is at least t just where m are at least t -/
theorem ge_iff (t : Int) : ∀ (s : List Int) (m : Nat), s.Pairwise (· ≤ ·) → (hm : 1 ≤ m) → (hl : m ≤ s.length) → (t ≤ s[s.length - m]'(by omega) ↔ m ≤ cnt t s)
  | [], m, _, h1, h2 => by simp at h2; omega
  | a :: s, m, hs, h1, h2 => by
    simp only [List.pairwise_cons] at hs
    by_cases hm : m = s.length + 1
    · subst hm
      have e : (a :: s)[(a :: s).length - (s.length + 1)]'(by simp) = a := by simp
      rw [e]
      constructor
      · intro h
        have : cnt t (a :: s) = (a :: s).length := by
          unfold cnt
          rw [List.countP_eq_length]
          intro x hx
          simp only [List.mem_cons] at hx
          rcases hx with rfl | hx
          · simpa using h
          · have := hs.1 x hx
            simp; omega
        rw [this]; simp
      · intro h
        have hle := List.countP_le_length (p := fun x => decide (t ≤ x)) (l := a :: s)
        have : (a :: s).countP (fun x => decide (t ≤ x)) = (a :: s).length := by
          unfold cnt at h
          simp only [List.length_cons] at hle ⊢
          omega
        rw [List.countP_eq_length] at this
        simpa using this a (by simp)
    · have hml : m ≤ s.length := by simp at h2; omega
      have ih := ge_iff t s m hs.2 h1 hml
      have e : (a :: s)[(a :: s).length - m]'(by simp; omega) = s[s.length - m]'(by omega) := by
        simp only [List.length_cons]
        have : s.length + 1 - m = (s.length - m) + 1 := by omega
        simp only [this, List.getElem_cons_succ]
      rw [e, ih]
      constructor
      · intro h
        unfold cnt at *
        rw [List.countP_cons]
        omega
      · intro h
        by_cases ha : t ≤ a
        · rw [← ih]
          have := hs.1 _ (List.getElem_mem (l := s) (n := s.length - m) (by omega))
          omega
        · unfold cnt at *
          rw [List.countP_cons] at h
          simp only [ha, decide_false, if_neg (by simp : ¬ (false = true))] at h
          omega

/-- the m-th from above of what the list holds -/
def nth (l : List Int) (m : Nat) : Int := (l.mergeSort fun x y => decide (x ≤ y)).getD (l.length - m) 0
theorem sorted_merge (l : List Int) : (l.mergeSort fun x y => decide (x ≤ y)).Pairwise (· ≤ ·) := by
  have := List.pairwise_mergeSort (le := fun x y : Int => decide (x ≤ y)) (fun a b c h1 h2 => by simp at *; omega) (fun a b => by simp; omega) l
  exact this.imp (fun h => by simpa using h)
theorem nth_iff (t : Int) (l : List Int) (m : Nat) (h1 : 1 ≤ m) (h2 : m ≤ l.length) : t ≤ nth l m ↔ m ≤ cnt t l := by
  have hp := List.mergeSort_perm l (fun x y => decide (x ≤ y))
  have hlen : (l.mergeSort fun x y => decide (x ≤ y)).length = l.length := List.length_mergeSort l
  have := ge_iff t (l.mergeSort fun x y => decide (x ≤ y)) m (sorted_merge l) h1 (by omega)
  rw [cnt_perm hp] at this
  rw [← this]
  unfold nth
  rw [List.getD_eq_getElem?_getD, List.getElem?_eq_getElem (by omega)]
  simp only [hlen, Option.getD_some]
theorem nth_mem (l : List Int) (m : Nat) (h1 : 1 ≤ m) (h2 : m ≤ l.length) : nth l m ∈ l := by
  have hlen : (l.mergeSort fun x y => decide (x ≤ y)).length = l.length := List.length_mergeSort l
  unfold nth
  rw [List.getD_eq_getElem?_getD, List.getElem?_eq_getElem (by omega), Option.getD_some]
  exact (List.mergeSort_perm l _).mem_iff.1 (List.getElem_mem _)

/-! ### Sure -/
/-- what the program sorts: of N nodes what each tells, 0 where it tells nothing -/
def padded (N : Nat) (zs : List Int) : List Int := (List.range N).map fun i => if i < zs.length then max (zs.getD i 0) 0 else 0
theorem padded_length (N : Nat) (zs : List Int) : (padded N zs).length = N := by simp [padded]
def best (M need : Nat) (zs : List Int) : Nat → Int
  | 0 => 0
  | i + 1 => if need ≤ cnt (zs.getD i 0) (zs.take M) then max (best M need zs i) (zs.getD i 0) else best M need zs i
theorem cnt_padded (N : Nat) (zs : List Int) (t : Int) (ht : 0 < t) : cnt t (padded N zs) = cnt t (zs.take (min N zs.length)) := by
  induction N with
  | zero => simp [padded, cnt]
  | succ N ih =>
    have e : padded (N + 1) zs = padded N zs ++ [if N < zs.length then max (zs.getD N 0) 0 else 0] := by simp [padded, List.range_succ]
    rw [e]
    unfold cnt at *
    rw [List.countP_append, ih]
    by_cases h : N < zs.length
    · have e1 : min (N + 1) zs.length = N + 1 := by omega
      have e2 : min N zs.length = N := by omega
      rw [e1, e2, List.take_succ_eq_append_getElem h, List.countP_append]
      congr 1
      rw [if_pos h, List.getD_eq_getElem?_getD, List.getElem?_eq_getElem h]
      simp only [Option.getD_some, List.countP_cons, List.countP_nil]
      have : decide (t ≤ max zs[N] 0) = decide (t ≤ zs[N]) := by
        rw [Bool.eq_iff_iff]; simp; omega
      rw [this]
    · have e1 : min (N + 1) zs.length = min N zs.length := by omega
      rw [e1, if_neg h]
      have : decide (t ≤ (0 : Int)) = false := by simp; omega
      simp [this]
theorem best_nonneg (M need : Nat) (zs : List Int) : ∀ k, 0 ≤ best M need zs k
  | 0 => Int.le_refl _
  | k + 1 => by
    have := best_nonneg M need zs k
    rw [best]; split <;> omega
theorem best_ge (M need : Nat) (zs : List Int) : ∀ k i, i < k → need ≤ cnt (zs.getD i 0) (zs.take M) → zs.getD i 0 ≤ best M need zs k
  | 0, i, h, _ => by omega
  | k + 1, i, h, hc => by
    rw [best]
    by_cases e : i = k
    · subst e; rw [if_pos hc]; omega
    · have := best_ge M need zs k i (by omega) hc
      split <;> omega
theorem best_is (M need : Nat) (zs : List Int) : ∀ k, best M need zs k = 0 ∨ ∃ i, i < k ∧ best M need zs k = zs.getD i 0 ∧ need ≤ cnt (zs.getD i 0) (zs.take M)
  | 0 => .inl rfl
  | k + 1 => by
    rw [best]
    split
    · rename_i hc
      by_cases hm : best M need zs k ≤ zs.getD k 0
      · exact .inr ⟨k, by omega, by omega, hc⟩
      · have e : max (best M need zs k) (zs.getD k 0) = best M need zs k := by omega
        rw [e]
        rcases best_is M need zs k with h | ⟨i, h1, h2⟩
        · exact .inl h
        · exact .inr ⟨i, by omega, h2⟩
    · rcases best_is M need zs k with h | ⟨i, h1, h2⟩
      · exact .inl h
      · exact .inr ⟨i, by omega, h2⟩
theorem mem_padded_nonneg {N : Nat} {zs : List Int} {x : Int} (h : x ∈ padded N zs) : 0 ≤ x := by
  simp only [padded, List.mem_map, List.mem_range] at h
  obtain ⟨i, _, rfl⟩ := h
  split <;> omega
theorem mem_padded_pos {N : Nat} {zs : List Int} {x : Int} (h : x ∈ padded N zs) (h0 : 0 < x) : ∃ i, i < min N zs.length ∧ zs.getD i 0 = x := by
  simp only [padded, List.mem_map, List.mem_range] at h
  obtain ⟨i, hi, e⟩ := h
  split at e
  · exact ⟨i, by omega, by omega⟩
  · omega
theorem sure_best (N need : Nat) (zs : List Int) (h1 : 1 ≤ need) (h2 : need ≤ N) : nth (padded N zs) need = best (min N zs.length) need zs (min N zs.length) := by
  have hl : need ≤ (padded N zs).length := by rw [padded_length]; exact h2
  have hiff := fun t => nth_iff t (padded N zs) need h1 hl
  have hmem := nth_mem (padded N zs) need h1 hl
  have h0 := mem_padded_nonneg hmem
  have hb0 := best_nonneg (min N zs.length) need zs (min N zs.length)
  refine Int.le_antisymm ?_ ?_
  · by_cases hp : 0 < nth (padded N zs) need
    · obtain ⟨i, hi, e⟩ := mem_padded_pos hmem hp
      have hc := (hiff _).1 (Int.le_refl _)
      rw [cnt_padded N zs _ hp] at hc
      have := best_ge (min N zs.length) need zs (min N zs.length) i hi (by rw [e]; exact hc)
      omega
    · omega
  · rcases best_is (min N zs.length) need zs (min N zs.length) with h | ⟨i, hi, e, hc⟩
    · omega
    · by_cases hp : 0 < zs.getD i 0
      · rw [← cnt_padded N zs _ hp] at hc
        have := (hiff _).2 hc
        omega
      · omega

/-! ### who is told by a test -/
def picks (p : Nat → Bool) (k : Nat) : List Int := ((List.range k).filter p).map fun i : Nat => (i : Int)
theorem picks_succ (p : Nat → Bool) (k : Nat) : picks p (k + 1) = picks p k ++ if p k = true then [(k : Int)] else [] := by
  unfold picks
  rw [List.range_succ, List.filter_append, List.map_append]
  congr 1
  cases h : p k <;> simp [h]
theorem picks_length (p : Nat → Bool) (k : Nat) : (picks p k).length ≤ k := by
  have := List.length_filter_le p (List.range k)
  simpa [picks] using this
theorem mem_picks {p : Nat → Bool} {k i : Nat} : (i : Int) ∈ picks p k ↔ i < k ∧ p i = true := by
  simp only [picks, List.mem_map, List.mem_filter, List.mem_range]
  constructor
  · rintro ⟨j, h, e⟩
    obtain rfl : j = i := by omega
    exact h
  · intro h; exact ⟨i, h, rfl⟩
theorem hits_picks (p : Nat → Bool) (N : Nat) : hits N (picks p N) = (List.range N).countP p := by
  unfold hits
  apply List.countP_congr
  intro i hi
  rw [List.contains_iff_mem, mem_picks]
  simp only [List.mem_range] at hi
  simp [hi]
theorem meet (p q : Nat → Bool) : ∀ k, (∀ i, i < k → p i = true → q i = true → False) → (List.range k).countP p + (List.range k).countP q ≤ k
  | 0, _ => by simp
  | k + 1, h => by
    have ih := meet p q k (fun i hi => h i (by omega))
    have := h k (by omega)
    rw [List.range_succ, List.countP_append, List.countP_append, List.countP_singleton, List.countP_singleton]
    cases hp : p k <;> cases hq : q k <;> simp_all <;> omega
theorem cnt_range (f : Nat → Int) (t : Int) (k : Nat) : cnt t ((List.range k).map f) = (List.range k).countP fun i => decide (t ≤ f i) := by
  unfold cnt
  rw [List.countP_map]
  rfl
/-- of a list of nothing below 0, whole: what is padded is itself -/
theorem padded_self (f : Nat → Int) (hf : ∀ i, 0 ≤ f i) (k : Nat) : padded k ((List.range k).map f) = (List.range k).map f := by
  unfold padded
  apply List.map_congr_left
  intro i hi
  simp only [List.mem_range] at hi
  rw [if_pos (by simpa using hi), List.getD_eq_getElem?_getD, List.getElem?_eq_getElem (by simpa using hi)]
  have := hf i
  simp; omega

/-! ### views -/
def nxt (view N self : Nat) : Nat := view + 1 + (self + N - (view + 1) % N) % N
theorem nxt_gt (view N self : Nat) : view < nxt view N self := by unfold nxt; omega
theorem nxt_le (view N self : Nat) (hN : 0 < N) : nxt view N self ≤ view + N := by
  have := Nat.mod_lt (self + N - (view + 1) % N) hN
  unfold nxt; omega
theorem nxt_mod (view N self : Nat) (hs : self < N) : nxt view N self % N = self := by
  have hr : (view + 1) % N < N := Nat.mod_lt _ (by omega)
  unfold nxt
  rw [Nat.add_mod, Nat.mod_mod]
  by_cases h : (view + 1) % N ≤ self
  · have e : self + N - (view + 1) % N = (self - (view + 1) % N) + N := by omega
    rw [e, Nat.add_mod_right, Nat.mod_eq_of_lt (by omega : self - (view + 1) % N < N), show (view + 1) % N + (self - (view + 1) % N) = self by omega, Nat.mod_eq_of_lt hs]
  · rw [Nat.mod_eq_of_lt (by omega : self + N - (view + 1) % N < N), show (view + 1) % N + (self + N - (view + 1) % N) = self + N by omega, Nat.add_mod_right, Nat.mod_eq_of_lt hs]
theorem nxt_least (view N self u : Nat) (hs : self < N) (h1 : view < u) (h2 : u < nxt view N self) : u % N ≠ self := by
  intro h
  have hm := nxt_mod view N self hs
  have hle := nxt_le view N self (by omega)
  have hd : nxt view N self - u < N := by omega
  have : (nxt view N self - u) % N = 0 := by
    have : nxt view N self = (nxt view N self - u) + u := by omega
    rw [this, Nat.add_mod, h] at hm
    have hl : (nxt view N self - u) % N = nxt view N self - u := Nat.mod_eq_of_lt hd
    rw [hl] at hm ⊢
    by_cases hlt : nxt view N self - u + self < N
    · rw [Nat.mod_eq_of_lt hlt] at hm; omega
    · have : (nxt view N self - u + self) % N = nxt view N self - u + self - N := by
        rw [Nat.mod_eq_sub_mod (by omega), Nat.mod_eq_of_lt (by omega)]
      omega
  rw [Nat.mod_eq_of_lt hd] at this
  omega
end Go.Proofs.Ytkipdnleebcbmaa.QP
