/-
  For every 64-bit seed and all labels, the seed that is made is the document's. No condition.
-/
import Derived.Test.YtfednkacmmblpaaPRandDerivesx1
import Derived.Test.YtfednkacmmblpaaMath
namespace Go.Proofs.Ytfednkacmmblpaa.Pure
open Go.RowKit Go.Proofs.Ytfednkacmmblpaa.PRandDerives Go.Proofs.YtfednkacmmblpaaW.PrintWords Go.Proofs.YtfednkacmmblpaaW.PrintLast
namespace RandDerives
open Go.Proofs.Ytfednkacmmblpaa.Math
theorem mix_f (x : BitVec 64) : rand_Mix.f (U x) = some (U (mix x)) := congrArg some (mix_int x)
theorem at_f (s n : BitVec 64) : rand_At.f (U s) (U n) = some (U (at_ s n)) := by
  unfold rand_At.f
  rw [at_arg, mix_f]
  rfl
theorem mul_f (a b : BitVec 64) : bits_Mul64.f (U a) (U b) = some (U a * U b / 18446744073709551616, IntKind.u64.wrap (U a * U b)) := by
  unfold bits_Mul64.f
  rw [mul64 _ _ (U_lo a) (U_hi a) (U_lo b) (U_hi b)]
theorem below_f (s n t : BitVec 64) : rand_Below.f (U s) (U n) (U t) = some (below s n (U t)) := by
  unfold rand_Below.f
  rw [at_f]
  simp -implicitDefEqProofs only [Option.bind_some]
  rw [mul_f]
  rfl
theorem zero_U : (0 : Int) = U 0#64 := by decide +kernel
theorem ten_U : (10 : Int) = U 10#64 := by decide +kernel
theorem alive_f : garboardlaw06_alive.f = some true := by
  unfold garboardlaw06_alive.f
  have h0 : rand_At.f 0 0 = some 16294208416658607535 := by rw [zero_U, at_f, at_zero]
  have h1 : rand_Below.f 0 0 10 = some (below 0#64 0#64 10) := by rw [zero_U, ten_U, below_f]
  rw [h0, h1]
  simp -implicitDefEqProofs only [Option.bind_some, if_true]
  rw [decide_eq_true]
  have := below_lt 0#64 0#64 10#64 (by decide +kernel)
  rw [← ten_U] at this
  exact this
theorem ref_mix_f (x : BitVec 64) : garboardref06_Mix.f (U x) = some (U (mix x)) := congrArg some (mix_int x)
theorem ref_at_f (s n : BitVec 64) : garboardref06_At.f (U s) (U n) = some (U (at_ s n)) := by
  unfold garboardref06_At.f
  rw [at_arg, ref_mix_f]
  rfl
theorem wrap_i (i : Int) (n : Nat) (h0 : 0 ≤ i) (h1 : i < (n : Int)) (h2 : n * 8 ≤ 140737488351232) : wrap64 (i + 1) = i + 1 := by
  unfold wrap64
  omega
theorem rd_wf (l : List Int) (h : ∀ x ∈ l, (Lit.int .u64 x).wf = true) (i : Int) (h0 : 0 ≤ i) (h1 : i < (l.length : Int)) : (Lit.int .u64 (rd l i)).wf = true := by
  unfold rd
  have hi : i.toNat < l.length := by omega
  rw [List.getD_eq_getElem?_getD, List.getElem?_eq_getElem hi]
  exact h _ (List.getElem_mem _)
/-- From label i on both loops come to one number. -/
theorem loops (l : List Int) (h : ∀ x ∈ l, (Lit.int .u64 x).wf = true) (hl : l.length * 8 ≤ 140737488351232) (d : Nat) :
    ∀ (k : Nat) (s : BitVec 64) (i : Int), 0 ≤ i → i ≤ l.length → (l.length : Int) - i = d → d < k →
      ∃ r, rand_Derive.l0 k (U s) l (l.length : Int) i = some r ∧ garboardref06_Derive.l0 k (U s) l i = some r := by
  induction d with
  | zero =>
    intro k s i h0 h1 hd hk
    obtain ⟨k, rfl⟩ : ∃ m, k = m + 1 := ⟨k - 1, by omega⟩
    refine ⟨U s, ?_, ?_⟩
    · simp only [rand_Derive.l0]; rw [if_neg (by omega)]
    · simp only [garboardref06_Derive.l0]; rw [if_neg (by omega)]
  | succ d ih =>
    intro k s i h0 h1 hd hk
    obtain ⟨k, rfl⟩ : ∃ m, k = m + 1 := ⟨k - 1, by omega⟩
    have hlt : i < (l.length : Int) := by omega
    obtain ⟨x, hx⟩ := of_wf (rd_wf l h i h0 hlt)
    obtain ⟨r, hr1, hr2⟩ := ih k (at_ s x) (i + 1) (by omega) (by omega) (by omega) (by omega)
    refine ⟨r, ?_, ?_⟩
    · simp only [rand_Derive.l0]; rw [if_pos hlt, if_pos h0, if_pos hlt, hx, at_f]; simp -implicitDefEqProofs only [Option.bind_some]; rw [wrap_i i l.length h0 hlt hl]; exact hr1
    · simp only [garboardref06_Derive.l0]; rw [if_pos hlt, if_pos h0, hx, ref_at_f]; simp -implicitDefEqProofs only [Option.bind_some]; rw [wrap_i i l.length h0 hlt hl]; exact hr2
end RandDerives
open Go.Proofs.Ytfednkacmmblpaa.Math in
theorem RandDerives : garboardlaw06_RandDerives.Pure := by
  intro a0 l w0 _ hl hw
  obtain ⟨x, rfl⟩ := of_wf w0
  obtain ⟨r, h1, h2⟩ := RandDerives.loops l hw hl l.length (l.length + 1) x 0 (by omega) (by omega) (by omega) (by omega)
  refine ⟨l.length + 1, ?_⟩
  unfold garboardlaw06_RandDerives.f rand_Derive.f garboardref06_Derive.f
  rw [h1, h2, RandDerives.alive_f]
  simp -implicitDefEqProofs only [Option.bind_some, if_true]
  split <;> rfl
end Go.Proofs.Ytfednkacmmblpaa.Pure
