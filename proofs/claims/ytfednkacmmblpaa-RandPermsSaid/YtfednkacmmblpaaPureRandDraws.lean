/-
  For all 64-bit numbers, mixing, a draw and a draw below are the document's. No condition.
-/
import Derived.Test.YtfednkacmmblpaaPRandDrawsx1
import Derived.Test.YtfednkacmmblpaaMath
namespace Go.Proofs.Ytfednkacmmblpaa.Pure
open Go.RowKit Go.Proofs.Ytfednkacmmblpaa.PRandDraws Go.Proofs.YtfednkacmmblpaaW.PrintWords Go.Proofs.YtfednkacmmblpaaW.PrintLast
namespace RandDraws
open Go.Proofs.Ytfednkacmmblpaa.Math
theorem mix_f (x : BitVec 64) : rand_Mix.f (U x) = some (U (mix x)) := congrArg some (mix_int x)
theorem at_f (s n : BitVec 64) : rand_At.f (U s) (U n) = some (U (at_ s n)) := by
  unfold rand_At.f
  rw [at_arg, mix_f]
  rfl
theorem mul_f (a b : BitVec 64) : bits_Mul64.f (U a) (U b) = some (U a * U b / 18446744073709551616, IntKind.u64.wrap (U a * U b)) := by
  unfold bits_Mul64.f
  rw [mul64 _ _ (U_lo a) (U_hi a) (U_lo b) (U_hi b)]
theorem below_f (s n t : BitVec 64) : rand_Below.f (U s) (U n) (U t) = some (below s n (U t)) := by
  unfold rand_Below.f
  rw [at_f]
  simp -implicitDefEqProofs only [Option.bind_some]
  rw [mul_f]
  rfl
theorem zero_U : (0 : Int) = U 0#64 := by decide +kernel
theorem ten_U : (10 : Int) = U 10#64 := by decide +kernel
theorem alive_f : garboardlaw06_alive.f = some true := by
  unfold garboardlaw06_alive.f
  have h0 : rand_At.f 0 0 = some 16294208416658607535 := by rw [zero_U, at_f, at_zero]
  have h1 : rand_Below.f 0 0 10 = some (below 0#64 0#64 10) := by rw [zero_U, ten_U, below_f]
  rw [h0, h1]
  simp -implicitDefEqProofs only [Option.bind_some, if_true]
  rw [decide_eq_true]
  have := below_lt 0#64 0#64 10#64 (by decide +kernel)
  rw [← ten_U] at this
  exact this
theorem ref_mix_f (x : BitVec 64) : garboardref06_Mix.f (U x) = some (U (mix x)) := congrArg some (mix_int x)
theorem ref_at_f (s n : BitVec 64) : garboardref06_At.f (U s) (U n) = some (U (at_ s n)) := by
  unfold garboardref06_At.f
  rw [at_arg, ref_mix_f]
  rfl
theorem ref_below (s n t : BitVec 64) : garboardref06_Below.f (U s) (U n) (U t) = some (below s n (U t)) := by
  unfold garboardref06_Below.f
  rw [ref_at_f]
  simp -implicitDefEqProofs only [Option.bind_some]
  unfold garboardref06_upper.f
  rw [upper _ _ (U_lo _) (U_hi _) (U_lo _) (U_hi _)]
  rfl
end RandDraws
open Go.Proofs.Ytfednkacmmblpaa.Math in
theorem RandDraws : garboardlaw06_RandDraws.Pure := by
  intro a0 a1 a2 w0 w1 w2
  obtain ⟨x, rfl⟩ := of_wf w0
  obtain ⟨y, rfl⟩ := of_wf w1
  obtain ⟨z, rfl⟩ := of_wf w2
  unfold garboardlaw06_RandDraws.f
  rw [RandDraws.mix_f, RandDraws.ref_mix_f, RandDraws.at_f, RandDraws.ref_at_f, RandDraws.below_f, RandDraws.ref_below, RandDraws.alive_f]
  simp -implicitDefEqProofs only [Option.bind_some, if_true]
end Go.Proofs.Ytfednkacmmblpaa.Pure
