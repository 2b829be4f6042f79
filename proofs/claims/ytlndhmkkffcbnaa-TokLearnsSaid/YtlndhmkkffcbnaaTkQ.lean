/-
  Plain: what tokens stand for; how lists are merged.
-/
import Derived.Test.YtlndhmkkffcbnaaTkP
namespace Go.Proofs.Ytlndhmkkffcbnaa.TkQ
open Go.RowKit Go.Proofs.Ytlndhmkkffcbnaa.Kit Go.Proofs.Ytlndhmkkffcbnaa.TkM Go.Proofs.Ytlndhmkkffcbnaa.TkP
set_option linter.unusedVariables false

/-- Token t stands for x. -/
inductive Xp (L : List Pr) : Int → List Int → Prop where
  | leaf {t : Int} : 1 ≤ t → t < 17 → Xp L t [t]
  | node {k : Nat} {p : Pr} {x y : List Int} : L[k]? = some p → Xp L p.1 x → Xp L p.2 y → Xp L (17 + (k : Int)) (x ++ y)
theorem Xp.pos {L : List Pr} {t : Int} {x : List Int} (h : Xp L t x) : 1 ≤ x.length := by
  induction h with
  | leaf => simp
  | node _ _ _ ih1 ih2 => rw [List.length_append]; omega
theorem Xp.low {L : List Pr} {t : Int} {x : List Int} (h : Xp L t x) : ∀ u ∈ x, 1 ≤ u ∧ u < 17 := by
  induction h with
  | leaf h1 h2 => intro u hu; simp at hu; omega
  | node _ _ _ ih1 ih2 =>
    intro u hu
    rcases List.mem_append.1 hu with hu | hu
    · exact ih1 u hu
    · exact ih2 u hu
theorem Xp.range {L : List Pr} {t : Int} {x : List Int} (h : Xp L t x) : 1 ≤ t ∧ t < 17 + (L.length : Int) := by
  cases h with
  | leaf h1 h2 => omega
  | node hk _ _ => have := (List.getElem?_eq_some_iff.1 hk).1; omega
theorem Xp.one {L : List Pr} {t : Int} {x : List Int} (h : Xp L t x) : ∀ {y : List Int}, Xp L t y → x = y := by
  induction h with
  | leaf h1 h2 =>
    intro y hy
    cases hy with
    | leaf => rfl
    | node => omega
  | @node k p x y hk _ _ ih1 ih2 =>
    intro z hz
    generalize ht : 17 + (k : Int) = t at hz
    cases hz with
    | leaf => omega
    | @node k' p' x' y' hk' h1 h2 =>
      obtain rfl : k = k' := by omega
      rw [hk] at hk'
      injection hk' with hk'
      subst hk'
      rw [ih1 h1, ih2 h2]
theorem xp_ex {L : List Pr} (hg : TkP.Good L) : ∀ (n : Nat) (t : Int), t.toNat = n → 1 ≤ t → t < 17 + (L.length : Int) → ∃ x, Xp L t x := by
  intro n
  induction n using Nat.strongRecOn with
  | ind n ih =>
    intro t hn h1 h2
    by_cases h : t < 17
    · exact ⟨_, .leaf h1 h⟩
    · obtain ⟨k, rfl⟩ : ∃ k : Nat, t = 17 + k := ⟨(t - 17).toNat, by omega⟩
      have hk : k < L.length := by omega
      have hp := List.getElem?_eq_getElem hk
      have ho := hg k _ hp
      unfold okAt at ho
      rw [List.length_take, Nat.min_eq_left (by omega)] at ho
      obtain ⟨x, hx⟩ := ih _ (by omega) (L[k]).1 rfl (by omega) (by omega)
      obtain ⟨y, hy⟩ := ih _ (by omega) (L[k]).2 rfl (by omega) (by omega)
      exact ⟨_, .node hp hx hy⟩
theorem Xp.size {L : List Pr} (hg : TkP.Good L) {t : Int} {x : List Int} (h : Xp L t x) : szG (szs L) t = imin x.length 1048576 := by
  induction h with
  | @leaf t h1 h2 =>
    rw [szG_take (L := L) 0 (by omega) (by omega)]
    have : ∃ n : Nat, n < 16 ∧ t = n + 1 := ⟨(t - 1).toNat, by omega, by omega⟩
    obtain ⟨n, hn, rfl⟩ := this
    rw [List.take_zero, szs_nil]
    unfold szG szB imin
    rw [show ((n : Int) + 1).toNat = n + 1 by omega, List.getD_eq_getElem?_getD, List.getElem?_cons_succ, List.getElem?_replicate, if_pos hn]
    simp
  | @node k p x y hk _ _ ih1 ih2 =>
    rw [szG_node hg hk, ih1, ih2, List.length_append]
    unfold imin
    split <;> split <;> split <;> split <;> omega

/-- A list of tokens stands for x. -/
inductive Xps (L : List Pr) : List Int → List Int → Prop where
  | nil : Xps L [] []
  | cons {t : Int} {l x y : List Int} : Xp L t x → Xps L l y → Xps L (t :: l) (x ++ y)
theorem Xps.app {L : List Pr} {l m x y : List Int} (h : Xps L l x) (k : Xps L m y) : Xps L (l ++ m) (x ++ y) := by
  induction h with
  | nil => exact k
  | cons h1 _ ih => rw [List.append_assoc]; exact .cons h1 ih
theorem Xps.split {L : List Pr} {l m z : List Int} (h : Xps L (l ++ m) z) : ∃ x y, z = x ++ y ∧ Xps L l x ∧ Xps L m y := by
  induction l generalizing z with
  | nil => exact ⟨[], z, rfl, .nil, h⟩
  | cons t l ih =>
    cases h with
    | @cons _ _ x y h1 h2 =>
      obtain ⟨x', y', rfl, h3, h4⟩ := ih h2
      exact ⟨x ++ x', y', by rw [List.append_assoc], .cons h1 h3, h4⟩
theorem Xps.one {L : List Pr} {l x : List Int} (h : Xps L l x) : ∀ {y : List Int}, Xps L l y → x = y := by
  induction h with
  | nil => intro y hy; cases hy; rfl
  | cons h1 _ ih =>
    intro y hy
    cases hy with
    | cons h2 h3 => rw [h1.one h2, ih h3]
theorem xps_ex {L : List Pr} (hg : TkP.Good L) : ∀ l : List Int, (∀ t ∈ l, 1 ≤ t ∧ t < 17 + (L.length : Int)) → ∃ x, Xps L l x
  | [], _ => ⟨[], .nil⟩
  | t :: l, h => by
    obtain ⟨x, hx⟩ := xp_ex hg _ t rfl (h t (by simp)).1 (h t (by simp)).2
    obtain ⟨y, hy⟩ := xps_ex hg l (fun u hu => h u (List.mem_cons_of_mem _ hu))
    exact ⟨_, .cons hx hy⟩
theorem Xps.len {L : List Pr} {l x : List Int} (h : Xps L l x) : l.length ≤ x.length := by
  induction h with
  | nil => simp
  | cons h1 _ ih => have := h1.pos; rw [List.length_append, List.length_cons]; omega
theorem Xps.range {L : List Pr} {l x : List Int} (h : Xps L l x) : ∀ t ∈ l, 1 ≤ t ∧ t < 17 + (L.length : Int) := by
  induction h with
  | nil => intro t ht; simp at ht
  | cons h1 _ ih =>
    intro t ht
    rcases List.mem_cons.1 ht with rfl | ht
    · exact h1.range
    · exact ih t ht
theorem Xps.low {L : List Pr} {l x : List Int} (h : Xps L l x) : ∀ u ∈ x, 1 ≤ u ∧ u < 17 := by
  induction h with
  | nil => intro t ht; simp at ht
  | cons h1 _ ih =>
    intro t ht
    rcases List.mem_append.1 ht with ht | ht
    · exact h1.low t ht
    · exact ih t ht
theorem xps_low {L : List Pr} : ∀ l : List Int, (∀ t ∈ l, 1 ≤ t ∧ t < 17) → Xps L l l
  | [], _ => .nil
  | t :: l, h => .cons (.leaf (h t (by simp)).1 (h t (by simp)).2) (xps_low l (fun u hu => h u (List.mem_cons_of_mem _ hu)))

/-- The pair stands at place i. -/
def occ (l : List Int) (p : Pr) (i : Nat) : Prop := l[i]? = some p.1 ∧ l[i + 1]? = some p.2
theorem occ.lt {l : List Int} {p : Pr} {i : Nat} (h : occ l p i) : i + 1 < l.length := (List.getElem?_eq_some_iff.1 h.2).1
/-- l with the pair at place i as one token. -/
def put (l : List Int) (i : Nat) (t : Int) : List Int := l.take i ++ [t] ++ l.drop (i + 2)
theorem put_len {l : List Int} {i : Nat} (h : i + 1 < l.length) (t : Int) : (put l i t).length + 1 = l.length := by
  unfold put
  simp
  omega
/-- Merge k is the least that stands in l, first at i. -/
def Least (L : List Pr) (l : List Int) (k i : Nat) : Prop := ∃ p, L[k]? = some p ∧ occ l p i ∧ (∀ j, j < i → ¬ occ l p j) ∧ ∀ k', k' < k → ∀ q, L[k']? = some q → ∀ j, ¬ occ l q j
def NoLeast (L : List Pr) (l : List Int) : Prop := ∀ (k : Nat) (q : Pr), L[k]? = some q → ∀ j, ¬ occ l q j
theorem Least.one {L : List Pr} {l : List Int} {k i k' i' : Nat} (h : Least L l k i) (h' : Least L l k' i') : k = k' ∧ i = i' := by
  obtain ⟨p, h1, h2, h3, h4⟩ := h
  obtain ⟨p', h1', h2', h3', h4'⟩ := h'
  have hk : k = k' := by
    rcases Nat.lt_trichotomy k k' with hk | hk | hk
    · exact absurd h2 (h4' k hk p h1 i)
    · exact hk
    · exact absurd h2' (h4 k' hk p' h1' i')
  subst hk
  rw [h1] at h1'
  injection h1' with e
  subst e
  refine ⟨rfl, ?_⟩
  rcases Nat.lt_trichotomy i i' with hi | hi | hi
  · exact absurd h2 (h3' i hi)
  · exact hi
  · exact absurd h2' (h3 i' hi)
theorem Least.no {L : List Pr} {l : List Int} {k i : Nat} (h : Least L l k i) (h' : NoLeast L l) : False := by
  obtain ⟨p, h1, h2, _⟩ := h
  exact h' k p h1 i h2
/-- All that can be merged, is. -/
inductive Mg (L : List Pr) : List Int → List Int → Prop where
  | done {l : List Int} : NoLeast L l → Mg L l l
  | step {l r : List Int} {k i : Nat} : Least L l k i → Mg L (put l i (17 + (k : Int))) r → Mg L l r
theorem Mg.one {L : List Pr} {l r : List Int} (h : Mg L l r) : ∀ {r' : List Int}, Mg L l r' → r = r' := by
  induction h with
  | done h1 =>
    intro r' h'
    cases h' with
    | done => rfl
    | step h2 _ => exact (h2.no h1).elim
  | step h1 _ ih =>
    intro r' h'
    cases h' with
    | done h2 => exact (h1.no h2).elim
    | step h2 h3 =>
      obtain ⟨rfl, rfl⟩ := h1.one h2
      exact ih h3
theorem Mg.last {L : List Pr} {l r : List Int} (h : Mg L l r) : NoLeast L r := by
  induction h with
  | done h1 => exact h1
  | step _ _ ih => exact ih
theorem Mg.len {L : List Pr} {l r : List Int} (h : Mg L l r) : r.length ≤ l.length := by
  induction h with
  | done h1 => exact Nat.le_refl _
  | @step l r k i h1 _ ih =>
    obtain ⟨p, _, h2, _⟩ := h1
    have := put_len h2.lt (17 + (k : Int))
    omega
theorem Mg.spell {L : List Pr} {l r x : List Int} (h : Mg L l r) (hx : Xps L l x) : Xps L r x := by
  induction h with
  | done h1 => exact hx
  | @step l r k i h1 _ ih =>
    apply ih
    obtain ⟨p, hk, h2, _⟩ := h1
    have e : l = l.take i ++ ([p.1, p.2] ++ l.drop (i + 2)) := by
      have hlt := h2.lt
      have e1 : l.drop i = p.1 :: l.drop (i + 1) := by
        rw [List.drop_eq_getElem_cons (by omega)]
        congr 1
        have := h2.1
        rw [List.getElem?_eq_getElem (by omega)] at this
        injection this
      have e2 : l.drop (i + 1) = p.2 :: l.drop (i + 2) := by
        rw [List.drop_eq_getElem_cons (by omega)]
        congr 1
        have := h2.2
        rw [List.getElem?_eq_getElem (by omega)] at this
        injection this
      conv => lhs; rw [← List.take_append_drop i l, e1, e2]
      rfl
    rw [e] at hx
    obtain ⟨a, b, rfl, ha, hb⟩ := hx.split
    obtain ⟨c, d, rfl, hc, hd⟩ := hb.split
    have hc' : Xps L [17 + (k : Int)] c := by
      cases hc with
      | cons h3 h4 =>
        cases h4 with
        | cons h5 h6 =>
          cases h6
          rw [List.append_nil]
          have := Xps.cons (Xp.node hk h3 h5) Xps.nil
          rwa [List.append_nil] at this
    unfold put
    rw [List.append_assoc]
    exact ha.app (hc'.app hd)
end Go.Proofs.Ytlndhmkkffcbnaa.TkQ
