/-
  A slice of rows of cells that came in, and is only read.
-/
import Derived.Test.YtoghkikjgilpdaaKit
import Derived.Test.YtoghkikjgilpdaaOpen
namespace Go.Proofs.Ytoghkikjgilpdaa.Kit
open Go.RowKit

/-- v is a slice whose elements are these rows of cells, each of 'size' cells. -/
def RowsAt (w : World) (size : Nat) (v : Value) (xs : List (List Value)) : Prop :=
  xs.length ≤ maxLen ∧ ((xs = [] ∧ ∃ a c, v = .slice a 0 c) ∨
    ∃ b off c, v = .slice (some ⟨b, off, none⟩) xs.length c ∧ xs.length ≤ c ∧ c ≤ maxLen ∧ ∀ (i : Nat) (row : List Value), xs[i]? = some row → ∀ (j : Nat) (u : Value), row[j]? = some u → w.cell? ⟨b, off + (i * size + j), none⟩ = some u)

theorem RowsAt.slice {w : World} {size : Nat} {v : Value} {xs : List (List Value)} (h : RowsAt w size v xs) : ∃ a c, v = .slice a xs.length c := by
  rcases h.2 with ⟨rfl, a, c, hv⟩ | ⟨b, off, c, hv, _⟩
  · exact ⟨a, c, hv⟩
  · exact ⟨_, c, hv⟩

theorem RowsAt.at_ {w : World} {size : Nat} {v : Value} {xs : List (List Value)} (h : RowsAt w size v xs) (hx : 0 < xs.length) :
    ∃ b off c, v = .slice (some ⟨b, off, none⟩) xs.length c ∧ xs.length ≤ c ∧ c ≤ maxLen ∧ ∀ (i : Nat) (row : List Value), xs[i]? = some row → ∀ (j : Nat) (u : Value), row[j]? = some u → w.cell? ⟨b, off + (i * size + j), none⟩ = some u := by
  rcases h.2 with ⟨rfl, _⟩ | h
  · simp at hx
  · exact h

theorem RowsAt.below {w w' : World} {size : Nat} {v : Value} {xs : List (List Value)} (h : RowsAt w size v xs) (hb : Below w.heap.size w w') : RowsAt w' size v xs := by
  refine ⟨h.1, ?_⟩
  rcases h.2 with h | ⟨b, off, c, hv, hl, hm, hc⟩
  · exact .inl h
  · refine .inr ⟨b, off, c, hv, hl, hm, fun i row hi j u hj => ?_⟩
    have h1 := hc i row hi j u hj
    exact (hb.cell (World.block_lt_of_cell? w _ h1)).trans h1

theorem RowsAt.take_ {w : World} {size : Nat} {a : Option Addr} {n c : Nat} {xs : List (List Value)} (h : RowsAt w size (.slice a n c) xs) (m : Nat) (hm : m ≤ n) : RowsAt w size (.slice a m c) (xs.take m) := by
  rcases h.2 with ⟨rfl, a', c', hv⟩ | ⟨b, off, c', hv, hl, hm', hc⟩
  · injection hv with _ hn _
    subst hn
    obtain rfl : m = 0 := by omega
    exact ⟨by simp, .inl ⟨by simp, _, _, rfl⟩⟩
  · injection hv with ha hn hc'
    subst ha hn hc'
    refine ⟨Nat.le_trans (by simp; omega) h.1, .inr ⟨b, off, c, by rw [List.length_take, Nat.min_eq_left hm], by rw [List.length_take]; omega, hm', fun i row hi j u hj => ?_⟩⟩
    refine hc i row ?_ j u hj
    rw [List.getElem?_take] at hi
    split at hi
    · exact hi
    · cases hi

theorem list_of {α : Type} {n : Nat} {p : Nat → α → Prop} (h : ∀ i, i < n → ∃ x, p i x) : ∃ xs : List α, xs.length = n ∧ ∀ (i : Nat) x, xs[i]? = some x → p i x := by
  induction n with
  | zero => exact ⟨[], rfl, fun i x hx => by simp at hx⟩
  | succ n ih =>
    obtain ⟨xs, hl, hx⟩ := ih (fun i hi => h i (by omega))
    obtain ⟨x, hp⟩ := h n (by omega)
    refine ⟨xs ++ [x], by simp [hl], fun i y hy => ?_⟩
    rw [List.getElem?_append] at hy
    split at hy
    · exact hx i y hy
    · rename_i hi
      have e : i - xs.length = 0 := by
        rcases Nat.eq_zero_or_pos (i - xs.length) with h0 | h0
        · exact h0
        · rw [List.getElem?_eq_none (by simp; omega)] at hy
          cases hy
      rw [e] at hy
      simp at hy
      subst hy
      rw [show i = n by omega]
      exact hp

theorem rows_of {w : World} {e : Sh} {v : Value} (he : 0 < e.size) (h : Reads w (.slice e) [v]) : ∃ xs, RowsAt w e.size v xs ∧ ∀ row ∈ xs, row.length = e.size ∧ Reads w e row := by
  rcases h with h | ⟨a, len, cap, hv, hl, hm, hx⟩
  · injection h with h _
    subst h
    exact ⟨[], ⟨by simp, .inl ⟨rfl, _, _, rfl⟩⟩, by simp⟩
  · injection hv with hv _
    subst hv
    obtain ⟨xs, hxl, hp⟩ := list_of hx
    refine ⟨xs, ⟨by omega, ?_⟩, fun row hr => ?_⟩
    · rcases Nat.eq_zero_or_pos len with h0 | h0
      · subst h0
        exact .inl ⟨List.eq_nil_of_length_eq_zero hxl, _, _, rfl⟩
      · right
        obtain ⟨x0, hx0⟩ : ∃ x0, xs[0]? = some x0 := ⟨xs[0]'(by omega), List.getElem?_eq_getElem (by omega)⟩
        obtain ⟨l0, c0, _⟩ := hp 0 x0 hx0
        obtain ⟨u, hu⟩ : ∃ u, x0[0]? = some u := ⟨x0[0]'(by omega), List.getElem?_eq_getElem (by omega)⟩
        have h1 := c0 0 u hu
        obtain ⟨b, off, spot⟩ := a
        have hsp : spot = none := by simpa [Addr.add] using World.cell?_spot h1
        subst hsp
        refine ⟨b, off, cap, by rw [hxl], by omega, hm, fun i row hi j u hj => ?_⟩
        obtain ⟨_, c, _⟩ := hp i row hi
        have h2 := c j u hj
        rw [Go.WideShapes.add_plain] at h2
        exact h2
    · obtain ⟨i, hi, rfl⟩ := List.getElem_of_mem hr
      obtain ⟨a1, _, a3⟩ := hp i _ (List.getElem?_eq_getElem hi)
      exact ⟨a1, a3⟩
end Go.Proofs.Ytoghkikjgilpdaa.Kit
