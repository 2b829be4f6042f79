/-
  Plain words on sequences: what a tree of beginnings tells, against the document's answers. No program is in sight.
-/
namespace Go.Proofs.Ytcjhlkndcgldjaa.StP

abbrev Wd := List Int

/-- Is p a beginning of a sequence (or none at all)? -/
def wd (S : List Wd) (p : Wd) : Bool := p.isEmpty || S.any (fun x => p.isPrefixOf x)
theorem wd_iff (S : List Wd) (p : Wd) : wd S p = true ↔ p = [] ∨ ∃ x ∈ S, p <+: x := by
  simp [wd, List.isPrefixOf_iff_prefix]
theorem wd_nil (S : List Wd) : wd S [] = true := rfl
theorem wd_up {S : List Wd} {p : Wd} {t : Int} (h : wd S (p ++ [t]) = true) : wd S p = true := by
  rw [wd_iff] at h ⊢
  rcases h with h | ⟨x, hx, hp⟩
  · simp at h
  · exact .inr ⟨x, hx, (List.prefix_append p [t]).trans hp⟩
theorem wd_prefix {S : List Wd} {p q : Wd} (h : wd S p = true) (hq : q <+: p) : wd S q = true := by
  rw [wd_iff] at h ⊢
  rcases h with rfl | ⟨x, hx, hp⟩
  · exact .inl (List.prefix_nil.1 hq)
  · exact .inr ⟨x, hx, hq.trans hp⟩

/-- The longest end of p that is in the tree. -/
def lsuf (S : List Wd) : Wd → Wd
  | [] => []
  | a :: r => if wd S (a :: r) = true then a :: r else lsuf S r
theorem lsuf_in (S : List Wd) : ∀ p, wd S (lsuf S p) = true
  | [] => rfl
  | a :: r => by
    unfold lsuf
    split
    · assumption
    · exact lsuf_in S r
theorem lsuf_suffix (S : List Wd) : ∀ p, lsuf S p <:+ p
  | [] => List.suffix_refl _
  | a :: r => by
    unfold lsuf
    split
    · exact List.suffix_refl _
    · exact (lsuf_suffix S r).trans (List.suffix_cons a r)
theorem lsuf_of_in {S : List Wd} {p : Wd} (h : wd S p = true) : lsuf S p = p := by
  cases p with
  | nil => rfl
  | cons a r => unfold lsuf; rw [if_pos h]
theorem lsuf_not {S : List Wd} {a : Int} {r : Wd} (h : wd S (a :: r) = false) : lsuf S (a :: r) = lsuf S r := by
  conv => lhs; unfold lsuf
  rw [if_neg (by simp [h])]
theorem lsuf_le (S : List Wd) (p : Wd) : (lsuf S p).length ≤ p.length := (lsuf_suffix S p).length_le
theorem lsuf_snoc (S : List Wd) (t : Int) : ∀ p, lsuf S (lsuf S p ++ [t]) = lsuf S (p ++ [t])
  | [] => rfl
  | a :: r => by
    by_cases h : wd S (a :: r) = true
    · rw [lsuf_of_in h]
    · rw [lsuf_not (by simpa using h), lsuf_snoc S t r, List.cons_append, lsuf_not]
      cases h2 : wd S (a :: (r ++ [t]))
      · rfl
      · exact absurd (wd_up (by rw [List.cons_append]; exact h2)) h

/-- Where a node's back leads. -/
def bk (S : List Wd) : Wd → Option Wd
  | [] => none
  | _ :: r => some (lsuf S r)
theorem bk_snoc (S : List Wd) (p : Wd) (t : Int) : bk S (p ++ [t]) = some (match bk S p with
    | none => []
    | some q => lsuf S (q ++ [t])) := by
  cases p with
  | nil => rfl
  | cons a r => simp only [List.cons_append, bk, lsuf_snoc]

/-- The number of the first sequence that is p; below 0: none is. -/
def endsI (S : List Wd) (p : Wd) : Int := match S.findIdx? (fun x => decide (x = p)) with
  | some i => i
  | none => -1
theorem endsI_yes {S : List Wd} {p : Wd} (h : 0 ≤ endsI S p) : ∃ i : Nat, S[i]? = some p ∧ endsI S p = (i : Int) ∧ ∀ j, j < i → S[j]? ≠ some p := by
  unfold endsI at h ⊢
  cases hf : S.findIdx? (fun x => decide (x = p)) with
  | none => rw [hf] at h; simp at h
  | some i =>
    obtain ⟨hi, he, hj⟩ := List.findIdx?_eq_some_iff_getElem.1 hf
    refine ⟨i, ?_, rfl, fun j hji hs => ?_⟩
    · rw [List.getElem?_eq_getElem hi]
      simpa using he
    · have := hj j hji
      rw [List.getElem?_eq_getElem (by omega)] at hs
      injection hs with hs
      simp [hs] at this
theorem endsI_no {S : List Wd} {p : Wd} (h : endsI S p < 0) : endsI S p = -1 ∧ ∀ x ∈ S, x ≠ p := by
  unfold endsI at h ⊢
  cases hf : S.findIdx? (fun x => decide (x = p)) with
  | none =>
    refine ⟨rfl, fun x hx e => ?_⟩
    have := List.findIdx?_eq_none_iff.1 hf x hx
    simp [e] at this
  | some i => rw [hf] at h; simp at h; omega
theorem endsI_neg (S : List Wd) (p : Wd) : -1 ≤ endsI S p := by
  rcases Int.lt_or_le (endsI S p) 0 with h | h
  · rw [(endsI_no h).1]; exact Int.le_refl _
  · omega
theorem endsI_lt (S : List Wd) (p : Wd) : endsI S p < S.length := by
  rcases Int.lt_or_le (endsI S p) 0 with h | h
  · omega
  · obtain ⟨i, hi, he, _⟩ := endsI_yes h
    have := (List.getElem?_eq_some_iff.1 hi).1
    omega
theorem endsI_wd {S : List Wd} {p : Wd} (h : 0 ≤ endsI S p) : wd S p = true := by
  obtain ⟨i, hi, _⟩ := endsI_yes h
  rw [wd_iff]
  exact .inr ⟨p, List.mem_of_getElem? hi, List.prefix_refl _⟩
theorem endsI_snoc (S : List Wd) (x p : Wd) : endsI (S ++ [x]) p = if endsI S p < 0 ∧ p = x then (S.length : Int) else endsI S p := by
  unfold endsI
  rw [List.findIdx?_append]
  cases hf : S.findIdx? (fun y => decide (y = p)) with
  | none =>
    by_cases hx : p = x
    · subst hx
      simp
    · have : ¬ x = p := fun h => hx h.symm
      simp [hx, this]
  | some i =>
    have : ¬ ((i : Int) < 0) := by omega
    simp [this]
theorem endsI_nil (p : Wd) : endsI [] p = -1 := rfl

/-- The number of the longest sequence with which a text ends; below 0: none. -/
def endOf (S : List Wd) : Wd → Int
  | [] => endsI S []
  | a :: r => if 0 ≤ endsI S (a :: r) then endsI S (a :: r) else endOf S r
theorem endOf_lsuf (S : List Wd) : ∀ p, endOf S (lsuf S p) = endOf S p
  | [] => rfl
  | a :: r => by
    by_cases h : wd S (a :: r) = true
    · rw [lsuf_of_in h]
    · rw [lsuf_not (by simpa using h), endOf_lsuf S r]
      conv => rhs; unfold endOf
      rw [if_neg (fun h0 => h (endsI_wd h0))]

/-- What Ended is, by definition. -/
def IsEnd (S : List Wd) (text : Wd) (v : Int) : Prop :=
  (v = -1 ∧ ∀ x ∈ S, ¬ x <:+ text) ∨
  ∃ (i : Nat) (x : Wd), S[i]? = some x ∧ v = (i : Int) ∧ x <:+ text ∧ (∀ y ∈ S, y <:+ text → y.length ≤ x.length) ∧ ∀ j, j < i → S[j]? ≠ some x
theorem suffix_eq {x y t : Wd} (hx : x <:+ t) (hy : y <:+ t) (h : x.length = y.length) : x = y := by
  obtain ⟨a, rfl⟩ := hx
  obtain ⟨b, hb⟩ := hy
  exact (List.append_inj' hb h.symm).2.symm
theorem IsEnd.one {S : List Wd} {text : Wd} {v v' : Int} (h : IsEnd S text v) (h' : IsEnd S text v') : v = v' := by
  rcases h with ⟨rfl, h⟩ | ⟨i, x, hi, rfl, hx, hm, hf⟩ <;> rcases h' with ⟨rfl, h'⟩ | ⟨j, y, hj, rfl, hy, hm', hf'⟩
  · rfl
  · exact absurd hy (h y (List.mem_of_getElem? hj))
  · exact absurd hx (h' x (List.mem_of_getElem? hi))
  · have e : x = y := suffix_eq hx hy (by
      have := hm y (List.mem_of_getElem? hj) hy
      have := hm' x (List.mem_of_getElem? hi) hx
      omega)
    subst e
    rcases Nat.lt_trichotomy i j with h | h | h
    · exact absurd hi (hf' i h)
    · rw [h]
    · exact absurd hj (hf j h)
theorem suffix_cons_ne {x : Wd} {a : Int} {r : Wd} (h : x <:+ a :: r) (hn : x ≠ a :: r) : x <:+ r := by
  rcases List.suffix_cons_iff.1 h with h | h
  · exact absurd h hn
  · exact h
theorem endOf_is (S : List Wd) : ∀ text, IsEnd S text (endOf S text)
  | [] => by
    unfold endOf
    rcases Int.lt_or_le (endsI S []) 0 with h | h
    · obtain ⟨h1, h2⟩ := endsI_no h
      rw [h1]
      exact .inl ⟨rfl, fun x hx hs => h2 x hx (List.suffix_nil.1 hs)⟩
    · obtain ⟨i, h1, h2, h3⟩ := endsI_yes h
      rw [h2]
      exact .inr ⟨i, [], h1, rfl, List.suffix_refl _, fun y _ hy => by rw [List.suffix_nil.1 hy]; exact Nat.le_refl _, h3⟩
  | a :: r => by
    unfold endOf
    split
    · rename_i h
      obtain ⟨i, h1, h2, h3⟩ := endsI_yes h
      rw [h2]
      exact .inr ⟨i, a :: r, h1, rfl, List.suffix_refl _, fun y _ hy => hy.length_le, h3⟩
    · rename_i h
      obtain ⟨_, h2⟩ := endsI_no (by omega : endsI S (a :: r) < 0)
      rcases endOf_is S r with ⟨h3, h4⟩ | ⟨i, x, hi, h3, hx, hm, hf⟩
      · exact .inl ⟨h3, fun x hx hs => h4 x hx (suffix_cons_ne hs (h2 x hx))⟩
      · exact .inr ⟨i, x, hi, h3, hx.trans (List.suffix_cons a r), fun y hy hs => hm y hy (suffix_cons_ne hs (h2 y hy)), hf⟩

/-- Does something follow p in the tree? -/
def kidB (S : List Wd) (p : Wd) : Bool := S.any (fun x => p.isPrefixOf x && decide (p.length < x.length))
theorem kidB_iff (S : List Wd) (p : Wd) : kidB S p = true ↔ ∃ x ∈ S, p <+: x ∧ p.length < x.length := by
  simp [kidB, List.isPrefixOf_iff_prefix]
theorem kidB_wd {S : List Wd} {p : Wd} (h : kidB S p = true) : wd S p = true := by
  obtain ⟨x, hx, hp, _⟩ := (kidB_iff S p).1 h
  exact (wd_iff S p).2 (.inr ⟨x, hx, hp⟩)
theorem kidB_snoc (S : List Wd) (p : Wd) : kidB S p = true ↔ ∃ t, wd S (p ++ [t]) = true := by
  rw [kidB_iff]
  constructor
  · rintro ⟨x, hx, ⟨s, rfl⟩, hl⟩
    cases s with
    | nil => simp at hl
    | cons t s => exact ⟨t, (wd_iff _ _).2 (.inr ⟨_, hx, ⟨s, by simp⟩⟩)⟩
  · rintro ⟨t, h⟩
    rcases (wd_iff _ _).1 h with h | ⟨x, hx, hp⟩
    · simp at h
    · exact ⟨x, hx, (List.prefix_append p [t]).trans hp, by have := hp.length_le; simp at this; omega⟩

/-- How many tokens are held at the end of a text. -/
def heldOf (S : List Wd) : Wd → Nat
  | [] => 0
  | a :: r => if kidB S (a :: r) = true then r.length + 1 else heldOf S r
theorem heldOf_lsuf (S : List Wd) : ∀ p, heldOf S (lsuf S p) = heldOf S p
  | [] => rfl
  | a :: r => by
    by_cases h : wd S (a :: r) = true
    · rw [lsuf_of_in h]
    · rw [lsuf_not (by simpa using h), heldOf_lsuf S r]
      conv => rhs; unfold heldOf
      rw [if_neg (fun h0 => h (kidB_wd h0))]
theorem heldOf_le (S : List Wd) : ∀ p, heldOf S p ≤ p.length
  | [] => Nat.le_refl _
  | a :: r => by
    unfold heldOf
    split
    · simp
    · have := heldOf_le S r; simp; omega

/-- What Held is, by definition. -/
def IsHeld (S : List Wd) (text : Wd) (v : Nat) : Prop :=
  (v = 0 ∨ ∃ x ∈ S, 1 ≤ v ∧ v < x.length ∧ x.take v <:+ text) ∧ ∀ x ∈ S, ∀ k, 1 ≤ k → k < x.length → x.take k <:+ text → k ≤ v
theorem IsHeld.one {S : List Wd} {text : Wd} {v v' : Nat} (h : IsHeld S text v) (h' : IsHeld S text v') : v = v' := by
  have key : ∀ a b, IsHeld S text a → IsHeld S text b → a ≤ b := by
    intro a b ha hb
    rcases ha.1 with rfl | ⟨x, hx, h1, h2, h3⟩
    · exact Nat.zero_le _
    · exact hb.2 x hx a h1 h2 h3
  exact Nat.le_antisymm (key _ _ h h') (key _ _ h' h)
theorem heldOf_is (S : List Wd) : ∀ text, IsHeld S text (heldOf S text)
  | [] => ⟨.inl rfl, fun x _ k h1 h2 h3 => by
      have hn := congrArg List.length (List.suffix_nil.1 h3)
      rw [List.length_take] at hn
      simp only [List.length_nil] at hn
      omega⟩
  | a :: r => by
    unfold heldOf
    split
    · rename_i h
      obtain ⟨x, hx, hp, hl⟩ := (kidB_iff S _).1 h
      refine ⟨.inr ⟨x, hx, by omega, by simpa using hl, ?_⟩, fun y _ k _ _ hs => ?_⟩
      · obtain ⟨s, rfl⟩ := hp
        have : r.length + 1 = (a :: r).length := rfl
        rw [this, List.take_left]
        exact List.suffix_refl _
      · have := hs.length_le
        simp at this
        omega
    · rename_i h
      obtain ⟨h1, h2⟩ := heldOf_is S r
      have hne : ∀ x ∈ S, ∀ k, k < x.length → x.take k ≠ a :: r := fun x hx k hk e => h ((kidB_iff S _).2 ⟨x, hx, by rw [← e]; exact List.take_prefix _ _, by rw [← e]; simp; omega⟩)
      refine ⟨?_, fun x hx k hk1 hk2 hs => h2 x hx k hk1 hk2 (suffix_cons_ne hs (hne x hx k hk2))⟩
      rcases h1 with h1 | ⟨x, hx, a1, a2, a3⟩
      · exact .inl h1
      · exact .inr ⟨x, hx, a1, a2, a3.trans (List.suffix_cons a r)⟩

/-- What Find is, by definition. -/
def IsFind (S : List Wd) (text : Wd) (n k : Int) : Prop :=
  (n = -1 ∧ k = -1 ∧ ∀ m, 1 ≤ m → m ≤ text.length → endOf S (text.take m) < 0) ∨
  ∃ m : Nat, n = (m : Int) ∧ 1 ≤ m ∧ m ≤ text.length ∧ k = endOf S (text.take m) ∧ 0 ≤ k ∧ ∀ j, 1 ≤ j → j < m → endOf S (text.take j) < 0
theorem IsFind.one {S : List Wd} {text : Wd} {n k n' k' : Int} (h : IsFind S text n k) (h' : IsFind S text n' k') : n = n' ∧ k = k' := by
  rcases h with ⟨rfl, rfl, h⟩ | ⟨m, rfl, h1, h2, h3, h4, h5⟩ <;> rcases h' with ⟨rfl, rfl, h'⟩ | ⟨m', rfl, h1', h2', h3', h4', h5'⟩
  · exact ⟨rfl, rfl⟩
  · have := h m' h1' h2'; omega
  · have := h' m h1 h2; omega
  · rcases Nat.lt_trichotomy m m' with h | h | h
    · have := h5' m h1 h; omega
    · subst h; exact ⟨rfl, h3.trans h3'.symm⟩
    · have := h5 m' h1' h; omega

/-- What is not held can be told. -/
theorem holds_law {S : List Wd} {text : Wd} {at_ n : Nat} {k : Nat} {x : Wd} (hat : at_ < n) (hn : n ≤ text.length) (hx : S[k]? = some x) (hs : x <:+ text.take n) : at_ ≤ n - x.length + heldOf S (text.take at_) := by
  have hl := hs.length_le
  simp [Nat.min_eq_left hn] at hl
  rcases Nat.lt_or_ge (n - x.length) at_ with h | h
  · -- the beginning of x that lies ahead of at_ is held
    have hk : (at_ - (n - x.length)) < x.length := by omega
    have hsuf : x.take (at_ - (n - x.length)) <:+ text.take at_ := by
      obtain ⟨u, hu⟩ := hs
      have hul : u.length = n - x.length := by
        have := congrArg List.length hu
        simp [Nat.min_eq_left hn] at this
        omega
      refine ⟨u, ?_⟩
      have h2 : text.take at_ = (text.take n).take at_ := by rw [List.take_take, Nat.min_eq_left (by omega)]
      rw [h2, ← hu, List.take_append, List.take_of_length_le (l := u) (by omega), hul]
    have := (heldOf_is S (text.take at_)).2 x (List.mem_of_getElem? hx) _ (by omega) hk hsuf
    omega
  · omega
end Go.Proofs.Ytcjhlkndcgldjaa.StP
