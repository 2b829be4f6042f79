/-
  Plain: merges, what each token stands for, how lists are merged.
-/
import Derived.Test.YtlndhmkkffcbnaaTkM
namespace Go.Proofs.Ytlndhmkkffcbnaa.TkP
open Go.RowKit Go.Proofs.Ytlndhmkkffcbnaa.Kit Go.Proofs.Ytlndhmkkffcbnaa.TkM
set_option linter.unusedVariables false

/-- The token of a pair; 0: none. -/
def tk : Nat → List Pr → Pr → Int
  | _, [], _ => 0
  | k, q :: L, p => if q = p then 17 + (k : Int) else tk (k + 1) L p
theorem tk_snoc (p m : Pr) : ∀ (k : Nat) (L : List Pr), p ∉ L → tk k (L ++ [p]) m = if p = m then 17 + ((k + L.length : Nat) : Int) else tk k L m
  | k, [], _ => by simp [tk]
  | k, q :: L, h => by
    have hq : q ≠ p := fun e => h (by simp [e])
    show (if q = m then 17 + (k : Int) else tk (k + 1) (L ++ [p]) m) = if p = m then _ else (if q = m then _ else _)
    rw [tk_snoc p m (k + 1) L (fun e => h (List.mem_cons_of_mem _ e))]
    by_cases hm : q = m
    · subst hm
      rw [if_pos rfl, if_neg (fun e => hq e.symm), if_pos rfl]
    · rw [if_neg hm, if_neg hm, List.length_cons, show k + 1 + L.length = k + (L.length + 1) by omega]
theorem tk_none {p : Pr} : ∀ {k : Nat} {L : List Pr}, p ∉ L → tk k L p = 0
  | _, [], _ => rfl
  | k, q :: L, h => by
    show (if q = p then _ else _) = (0 : Int)
    rw [if_neg (fun e => h (by simp [e]))]
    exact tk_none (fun e => h (List.mem_cons_of_mem _ e))
theorem tk_mem {p : Pr} : ∀ {k : Nat} {L : List Pr}, p ∈ L → ∃ i, tk k L p = 17 + ((k + i : Nat) : Int) ∧ L[i]? = some p ∧ ∀ j, j < i → L[j]? ≠ some p
  | k, q :: L, h => by
    by_cases hq : q = p
    · exact ⟨0, by show (if q = p then _ else _) = _; rw [if_pos hq]; simp, by simp [hq], fun j hj => by omega⟩
    · have h' : p ∈ L := by
        rcases List.mem_cons.1 h with e | e
        · exact absurd e.symm hq
        · exact e
      obtain ⟨i, h1, h2, h3⟩ := tk_mem (k := k + 1) h'
      refine ⟨i + 1, ?_, by simpa using h2, fun j hj => ?_⟩
      · show (if q = p then _ else _) = _
        rw [if_neg hq, h1]
        congr 2
        omega
      · cases j with
        | zero => simpa using hq
        | succ j => simpa using h3 j (by omega)
theorem tk_ge (p : Pr) (k : Nat) (L : List Pr) : 0 ≤ tk k L p := by
  by_cases h : p ∈ L
  · obtain ⟨i, h1, _⟩ := tk_mem (k := k) h
    omega
  · rw [tk_none h]
    omega

/-- It may be added behind L. -/
def okAt (L : List Pr) (p : Pr) : Prop := 1 ≤ p.1 ∧ p.1 < 17 + (L.length : Int) ∧ 1 ≤ p.2 ∧ p.2 < 17 + (L.length : Int) ∧ p ∉ L
def Good (L : List Pr) : Prop := ∀ i p, L[i]? = some p → okAt (L.take i) p
theorem good_nil : Good [] := fun i p h => by simp at h
theorem good_take {L : List Pr} (h : Good L) (k : Nat) : Good (L.take k) := fun i p hp => by
  have hik : i < k := by
    have := (List.getElem?_eq_some_iff.1 hp).1
    simp at this
    omega
  rw [List.getElem?_take_of_lt hik] at hp
  rw [List.take_take, Nat.min_eq_left (by omega)]
  exact h i p hp
theorem good_snoc {L : List Pr} {p : Pr} (h : Good L) (hp : okAt L p) : Good (L ++ [p]) := fun i q hq => by
  rcases Nat.lt_or_ge i L.length with hi | hi
  · rw [List.getElem?_append_left hi] at hq
    rw [List.take_append_of_le_length (by omega)]
    exact h i q hq
  · have hil : i < L.length + 1 := by
      have := (List.getElem?_eq_some_iff.1 hq).1
      simpa using this
    obtain rfl : i = L.length := by omega
    simp at hq
    subst hq
    rw [List.take_left' rfl]
    exact hp
open Classical in
/-- New's error. -/
noncomputable def newE (L : List Pr) : Int := if 40 < L.length then 5 else if Good L then 0 else 1
theorem newE_many {L : List Pr} (h : 40 < L.length) : newE L = 5 := if_pos h
theorem newE_good {L : List Pr} (h : ¬ 40 < L.length) (hg : Good L) : newE L = 0 := by
  unfold newE
  rw [if_neg h, if_pos hg]
theorem newE_bad {L : List Pr} (h : ¬ 40 < L.length) (hg : ¬ Good L) : newE L = 1 := by
  unfold newE
  rw [if_neg h, if_neg hg]
theorem newE_zero {L : List Pr} (h : newE L = 0) : L.length ≤ 40 ∧ Good L := by
  unfold newE at h
  split at h
  · omega
  · split at h
    · exact ⟨by omega, by assumption⟩
    · omega
theorem good_inj {L : List Pr} (h : Good L) {i j : Nat} {p : Pr} (hi : L[i]? = some p) (hj : L[j]? = some p) : i = j := by
  have key : ∀ i j, i < j → L[i]? = some p → L[j]? = some p → False := fun i j hij hi hj => (h j p hj).2.2.2.2 (by
    have : (L.take j)[i]? = some p := by rw [List.getElem?_take_of_lt hij]; exact hi
    exact List.mem_of_getElem? this)
  rcases Nat.lt_trichotomy i j with h1 | h1 | h1
  · exact (key i j h1 hi hj).elim
  · exact h1
  · exact (key j i h1 hj hi).elim
theorem tk_good {L : List Pr} (h : Good L) {i : Nat} {p : Pr} (hi : L[i]? = some p) : tk 0 L p = 17 + (i : Int) := by
  obtain ⟨j, h1, h2, _⟩ := tk_mem (k := 0) (List.mem_of_getElem? hi)
  rw [good_inj h hi h2, h1]
  simp

/-! How much each token stands for. -/
def szG (s : List Int) (t : Int) : Int := s.getD t.toNat 0
def szB : List Int := 0 :: List.replicate 16 1
def szN (s : List Int) (p : Pr) : Int := imin (szG s p.1 + szG s p.2) 1048576
def szs (L : List Pr) : List Int := L.foldl (fun s p => s ++ [szN s p]) szB
theorem szs_snoc (L : List Pr) (p : Pr) : szs (L ++ [p]) = szs L ++ [szN (szs L) p] := by simp [szs]
theorem szs_nil : szs [] = szB := rfl
theorem rev_ind {α : Type} {P : List α → Prop} (h0 : P []) (h1 : ∀ l x, P l → P (l ++ [x])) (l : List α) : P l := by
  have : ∀ n l, List.length l = n → P l := by
    intro n
    induction n with
    | zero => intro l h; rw [List.length_eq_zero_iff] at h; subst h; exact h0
    | succ n ih =>
      intro l h
      have hne : l ≠ [] := fun e => by subst e; simp at h
      rw [← List.dropLast_concat_getLast hne]
      exact h1 _ _ (ih _ (by simp [h]))
  exact this _ l rfl
theorem szs_len (L : List Pr) : (szs L).length = 17 + L.length := by
  induction L using rev_ind with
  | h0 => rfl
  | h1 l x ih => rw [szs_snoc, List.length_append, ih]; simp; omega
theorem szs_in (L : List Pr) : ∀ x ∈ szs L, 0 ≤ x ∧ x ≤ 1048576 := by
  induction L using rev_ind with
  | h0 => intro x hx; simp [szs, szB] at hx; omega
  | h1 l y ih =>
    have hG : ∀ t, 0 ≤ szG (szs l) t ∧ szG (szs l) t ≤ 1048576 := fun t => by
      unfold szG
      rw [List.getD_eq_getElem?_getD]
      cases h : (szs l)[t.toNat]? with
      | none => simp
      | some v => exact ih v (List.mem_of_getElem? h)
    intro x hx
    rw [szs_snoc] at hx
    rcases List.mem_append.1 hx with hx | hx
    · exact ih x hx
    · simp at hx
      subst hx
      unfold szN imin
      have h1 := hG y.1
      have h2 := hG y.2
      split <;> omega
theorem szG_in (L : List Pr) (t : Int) : 0 ≤ szG (szs L) t ∧ szG (szs L) t ≤ 1048576 := by
  unfold szG
  rw [List.getD_eq_getElem?_getD]
  cases h : (szs L)[t.toNat]? with
  | none => simp
  | some v => exact szs_in L v (List.mem_of_getElem? h)
theorem szs_get {L : List Pr} {t : Int} (h0 : 0 ≤ t) (h1 : t < 17 + (L.length : Int)) : (szs L)[t.toNat]? = some (szG (szs L) t) := by
  have hl := szs_len L
  have : t.toNat < (szs L).length := by omega
  unfold szG
  rw [List.getD_eq_getElem?_getD, List.getElem?_eq_getElem this]
  rfl
theorem szG_snoc {L : List Pr} (p : Pr) {t : Int} (h1 : t < 17 + (L.length : Int)) : szG (szs (L ++ [p])) t = szG (szs L) t := by
  unfold szG
  rw [szs_snoc, List.getD_eq_getElem?_getD, List.getD_eq_getElem?_getD]
  by_cases h0 : t.toNat < (szs L).length
  · rw [List.getElem?_append_left h0]
  · have := szs_len L
    omega
theorem szG_take {L : List Pr} (k : Nat) {t : Int} (h1 : t < 17 + (k : Int)) (hk : k ≤ L.length) : szG (szs L) t = szG (szs (L.take k)) t := by
  induction L using rev_ind with
  | h0 => simp
  | h1 l x ih =>
    rcases Nat.lt_or_ge l.length k with h | h
    · rw [List.take_of_length_le (by simp; omega)]
    · rw [szG_snoc x (by omega), List.take_append_of_le_length h]
      exact ih h
theorem szG_node {L : List Pr} (hg : Good L) {k : Nat} {p : Pr} (hp : L[k]? = some p) : szG (szs L) (17 + k) = imin (szG (szs L) p.1 + szG (szs L) p.2) 1048576 := by
  have hk := (List.getElem?_eq_some_iff.1 hp).1
  have ho := hg k p hp
  have hlt : (L.take k).length = k := by simp; omega
  unfold okAt at ho
  rw [hlt] at ho
  rw [szG_take (L := L) (k + 1) (t := 17 + k) (by omega) (by omega), szG_take (L := L) k (t := p.1) (by omega) (by omega), szG_take (L := L) k (t := p.2) (by omega) (by omega)]
  have e : L.take (k + 1) = L.take k ++ [p] := by rw [List.take_add_one, hp]; rfl
  rw [e, szs_snoc]
  unfold szG
  rw [List.getD_eq_getElem?_getD, List.getElem?_append_right (by rw [szs_len, hlt]; omega), szs_len, hlt, show ((17 + (k : Int)).toNat - (17 + k)) = 0 by omega]
  rfl
end Go.Proofs.Ytlndhmkkffcbnaa.TkP
