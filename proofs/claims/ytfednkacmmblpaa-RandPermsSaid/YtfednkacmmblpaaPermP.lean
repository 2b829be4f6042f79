/-
  Plain facts on a permutation of the numbers below n: places that change, one behind the other. No program is in sight.
-/
import Derived.Test.YtfednkacmmblpaaMath
namespace Go.Proofs.Ytfednkacmmblpaa.PermP
open Go Go.Proofs.Ytfednkacmmblpaa.Math

/-- The numbers from 0 on. -/
def iota (n : Nat) : List Int := (List.range n).map fun i => ((i : Nat) : Int)
theorem iota_length (n : Nat) : (iota n).length = n := by simp [iota]
theorem iota_succ (n : Nat) : iota (n + 1) = iota n ++ [((n : Nat) : Int)] := by simp [iota, List.range_succ]

/-- Two numbers change places. -/
def swap (l : List Int) (i k : Nat) : List Int := (l.set i (l.getD k 0)).set k (l.getD i 0)
theorem swap_length (l : List Int) (i k : Nat) : (swap l i k).length = l.length := by simp [swap]
theorem swap_get (l : List Int) (i k j : Nat) (hi : i < l.length) (hk : k < l.length) (hj : j < l.length) :
    (swap l i k).getD j 0 = l.getD (if j = k then i else if j = i then k else j) 0 := by
  unfold swap
  simp only [List.getD_eq_getElem?_getD, List.getElem?_set, List.length_set]
  by_cases h1 : k = j
  · subst h1
    simp [hk]
  · by_cases h2 : i = j
    · subst h2
      simp [h1, hi, Ne.symm h1]
    · simp [h1, h2, Ne.symm h1, Ne.symm h2]

/-- The place that place i changes with. -/
def at_k (s : BitVec 64) (i : Nat) : Nat := (below s (BitVec.ofNat 64 i) ((i : Int) + 1)).toNat
theorem at_k_lt (s : BitVec 64) (i : Nat) (h : i < 4096) : below s (BitVec.ofNat 64 i) ((i : Int) + 1) = ((at_k s i : Nat) : Int) ∧ at_k s i ≤ i := by
  have e : ((i : Int) + 1) = U (BitVec.ofNat 64 (i + 1)) := by rw [← lit_U (i + 1) (by omega)]; simp
  have h0 := below_lo s (BitVec.ofNat 64 i) (BitVec.ofNat 64 (i + 1))
  have h1 := below_lt s (BitVec.ofNat 64 i) (BitVec.ofNat 64 (i + 1)) (by rw [← e]; omega)
  rw [← e] at h0 h1
  unfold at_k
  omega

/-- From place i down to the second. -/
def fin (s : BitVec 64) : Nat → List Int → List Int
  | 0, l => l
  | i + 1, l => fin s i (swap l (i + 1) (at_k s (i + 1)))

theorem fin_length (s : BitVec 64) (i : Nat) : ∀ l, (fin s i l).length = l.length := by
  induction i with
  | zero => intro l; rfl
  | succ i ih => intro l; rw [fin, ih, swap_length]

/-- Each number below n stands once. -/
structure Once (n : Nat) (l : List Int) : Prop where
  len : l.length = n
  lo : ∀ j, j < n → 0 ≤ l.getD j 0
  hi : ∀ j, j < n → l.getD j 0 < n
  one : ∀ j k, j < n → k < n → l.getD j 0 = l.getD k 0 → j = k

theorem once_iota (n : Nat) : Once n (iota n) := by
  have g : ∀ j, j < n → (iota n).getD j 0 = j := fun j hj => by simp [iota, hj]
  exact ⟨iota_length n, fun j hj => by rw [g j hj]; omega, fun j hj => by rw [g j hj]; omega, fun j k hj hk h => by rw [g j hj, g k hk] at h; omega⟩

theorem once_swap {n : Nat} {l : List Int} (h : Once n l) (i k : Nat) (hi : i < n) (hk : k < n) : Once n (swap l i k) := by
  have hl := h.len
  have g : ∀ j, j < n → (swap l i k).getD j 0 = l.getD (if j = k then i else if j = i then k else j) 0 := fun j hj => swap_get l i k j (by omega) (by omega) (by omega)
  have b : ∀ j, j < n → (if j = k then i else if j = i then k else j) < n := by
    intro j hj
    split
    · exact hi
    · split
      · exact hk
      · exact hj
  refine ⟨by rw [swap_length]; exact hl, fun j hj => by rw [g j hj]; exact h.lo _ (b j hj), fun j hj => by rw [g j hj]; exact h.hi _ (b j hj), fun j j' hj hj' e => ?_⟩
  rw [g j hj, g j' hj'] at e
  have := h.one _ _ (b j hj) (b j' hj') e
  split at this <;> split at this <;> (try split at this) <;> (try split at this) <;> omega

theorem once_fin (s : BitVec 64) {n : Nat} (hn : n ≤ 4096) (i : Nat) : ∀ l, Once n l → i < n → Once n (fin s i l) := by
  induction i with
  | zero => intro l h _; exact h
  | succ i ih =>
    intro l h hi
    have := (at_k_lt s (i + 1) (by omega)).2
    exact ih _ (once_swap h _ _ hi (by omega)) (by omega)

/-- The permutation. -/
def perm (s : BitVec 64) (n : Nat) : List Int := fin s (n - 1) (iota n)
theorem once_perm (s : BitVec 64) (n : Nat) (hn : n ≤ 4096) : Once n (perm s n) := by
  unfold perm
  rcases Nat.eq_zero_or_pos n with h | h
  · subst h
    exact once_iota 0
  · exact once_fin s hn _ _ (once_iota n) (by omega)
end Go.Proofs.Ytfednkacmmblpaa.PermP
