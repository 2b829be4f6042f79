/-
  No two 64-bit numbers are mixed to one: the document's way back leads back. No condition.
-/
import Derived.Test.YtfednkacmmblpaaPRandOnex1
import Derived.Test.YtfednkacmmblpaaMath
namespace Go.Proofs.Ytfednkacmmblpaa.Pure
open Go.RowKit Go.Proofs.Ytfednkacmmblpaa.PRandOne Go.Proofs.YtfednkacmmblpaaW.PrintWords Go.Proofs.YtfednkacmmblpaaW.PrintLast
namespace RandOne
open Go.Proofs.Ytfednkacmmblpaa.Math
theorem mix_f (x : BitVec 64) : rand_Mix.f (U x) = some (U (mix x)) := congrArg some (mix_int x)
theorem at_f (s n : BitVec 64) : rand_At.f (U s) (U n) = some (U (at_ s n)) := by
  unfold rand_At.f
  rw [at_arg, mix_f]
  rfl
theorem mul_f (a b : BitVec 64) : bits_Mul64.f (U a) (U b) = some (U a * U b / 18446744073709551616, IntKind.u64.wrap (U a * U b)) := by
  unfold bits_Mul64.f
  rw [mul64 _ _ (U_lo a) (U_hi a) (U_lo b) (U_hi b)]
theorem below_f (s n t : BitVec 64) : rand_Below.f (U s) (U n) (U t) = some (below s n (U t)) := by
  unfold rand_Below.f
  rw [at_f]
  simp -implicitDefEqProofs only [Option.bind_some]
  rw [mul_f]
  rfl
theorem zero_U : (0 : Int) = U 0#64 := by decide +kernel
theorem ten_U : (10 : Int) = U 10#64 := by decide +kernel
theorem alive_f : garboardlaw06_alive.f = some true := by
  unfold garboardlaw06_alive.f
  have h0 : rand_At.f 0 0 = some 16294208416658607535 := by rw [zero_U, at_f, at_zero]
  have h1 : rand_Below.f 0 0 10 = some (below 0#64 0#64 10) := by rw [zero_U, ten_U, below_f]
  rw [h0, h1]
  simp -implicitDefEqProofs only [Option.bind_some, if_true]
  rw [decide_eq_true]
  have := below_lt 0#64 0#64 10#64 (by decide +kernel)
  rw [← ten_U] at this
  exact this
/-- A shift by 31, 27 or 30 is undone in three rounds. -/
theorem unshift_f (x : BitVec 64) (s : Nat) (h0 : 22 ≤ s) (h1 : s < 32) (k : Nat) (hk : 5 ≤ k) : garboardref06_unshift.f k (U x) (s : Int) = some (U (back 3 s x)) := by
  have hs : ∀ y : BitVec 64, shr .u64 (U y) (s : Int) = U (y >>> s) := fun y => by
    unfold shr
    rw [show min ((s : Int).toNat) IntKind.u64.bits = s by simp [IntKind.bits]; omega]
    exact div_U y s _ (by rw [Int.natCast_pow]; rfl)
  obtain ⟨k, rfl⟩ : ∃ m, k = m + 5 := ⟨k - 5, by omega⟩
  have w1 : wrap64 (0 + (s : Int)) = s := by unfold wrap64; omega
  have w2 : wrap64 ((s : Int) + s) = 2 * s := by unfold wrap64; omega
  have w3 : wrap64 (2 * (s : Int) + s) = 3 * s := by unfold wrap64; omega
  unfold garboardref06_unshift.f
  simp only [garboardref06_unshift.l0]
  rw [if_pos (by omega), if_pos (by omega), w1, hs, xor_U, if_pos (by omega), if_pos (by omega), w2, hs, xor_U, if_pos (by omega), if_pos (by omega), w3, hs, xor_U, if_neg (by omega)]
  rfl
theorem inv1_f (k : Nat) (hk : 7 ≤ k) : garboardref06_inverse.f k 13787848793156543929 = some (U i1) := by
  have h : garboardref06_inverse.f 7 13787848793156543929 = some (U i1) := by decide +kernel
  exact at_rounds (g := fun k => garboardref06_inverse.f k 13787848793156543929) (fun k => garboardref06_inverse.mono _ k) hk h
theorem inv2_f (k : Nat) (hk : 7 ≤ k) : garboardref06_inverse.f k 10723151780598845931 = some (U i2) := by
  have h : garboardref06_inverse.f 7 10723151780598845931 = some (U i2) := by decide +kernel
  exact at_rounds (g := fun k => garboardref06_inverse.f k 10723151780598845931) (fun k => garboardref06_inverse.mono _ k) hk h
theorem unmix_f (x : BitVec 64) : garboardref06_Unmix.f 7 (U (mix x)) = some (U x) := by
  unfold garboardref06_Unmix.f
  rw [show (31 : Int) = ((31 : Nat) : Int) from rfl, show (27 : Int) = ((27 : Nat) : Int) from rfl, show (30 : Int) = ((30 : Nat) : Int) from rfl]
  rw [unshift_f _ 31 (by decide) (by decide) 7 (by decide), inv2_f 7 (by decide), inv1_f 7 (by decide)]
  simp -implicitDefEqProofs only [Option.bind_some]
  rw [mul_U, unshift_f _ 27 (by decide) (by decide) 7 (by decide)]
  simp -implicitDefEqProofs only [Option.bind_some]
  rw [mul_U, unshift_f _ 30 (by decide) (by decide) 7 (by decide)]
  simp -implicitDefEqProofs only [Option.bind_some]
  rw [unmix]
end RandOne
open Go.Proofs.Ytfednkacmmblpaa.Math in
theorem RandOne : garboardlaw06_RandOne.Pure := by
  intro a0 a1 w0 w1
  obtain ⟨x, rfl⟩ := of_wf w0
  obtain ⟨y, rfl⟩ := of_wf w1
  refine ⟨7, ?_⟩
  unfold garboardlaw06_RandOne.f
  rw [RandOne.mix_f, RandOne.mix_f]
  simp -implicitDefEqProofs only [Option.bind_some]
  rw [RandOne.unmix_f]
  simp -implicitDefEqProofs only [Option.bind_some, if_true]
  rw [if_pos, RandOne.alive_f]
  · rfl
  · by_cases h : x = y
    · subst h; simp
    · have h1 : U x ≠ U y := fun e => h (U_inj e)
      have h2 : U (mix x) ≠ U (mix y) := fun e => h (mix_inj (U_inj e))
      rw [beq_eq_false_iff_ne.2 h1, beq_eq_false_iff_ne.2 h2]; rfl
end Go.Proofs.Ytfednkacmmblpaa.Pure
