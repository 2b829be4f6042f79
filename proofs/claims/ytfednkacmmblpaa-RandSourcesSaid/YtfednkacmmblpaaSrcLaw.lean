/-
  RandSources, over arguments as they are read.
-/
import Derived.Test.YtfednkacmmblpaaSrc
import Derived.Test.YtfednkacmmblpaaOpen
namespace Go.Proofs.Ytfednkacmmblpaa.Src
open Go.RowKit Go.Proofs.Ytfednkacmmblpaa.PRandSources Go.Proofs.Ytfednkacmmblpaa.Kit
open Go.Proofs.Ytfednkacmmblpaa.Math
theorem mix_f (x : BitVec 64) : rand_Mix.f (U x) = some (U (mix x)) := congrArg some (mix_int x)
theorem at_f (s n : BitVec 64) : rand_At.f (U s) (U n) = some (U (at_ s n)) := by
  unfold rand_At.f
  rw [at_arg, mix_f]
  rfl
theorem mul_f (a b : BitVec 64) : bits_Mul64.f (U a) (U b) = some (U a * U b / 18446744073709551616, IntKind.u64.wrap (U a * U b)) := by
  unfold bits_Mul64.f
  rw [mul64 _ _ (U_lo a) (U_hi a) (U_lo b) (U_hi b)]
theorem below_f (s n t : BitVec 64) : rand_Below.f (U s) (U n) (U t) = some (below s n (U t)) := by
  unfold rand_Below.f
  rw [at_f]
  simp -implicitDefEqProofs only [Option.bind_some]
  rw [mul_f]
  rfl
theorem zero_U : (0 : Int) = U 0#64 := by decide +kernel
theorem ten_U : (10 : Int) = U 10#64 := by decide +kernel
theorem alive_f : garboardlaw06_alive.f = some true := by
  unfold garboardlaw06_alive.f
  have h0 : rand_At.f 0 0 = some 16294208416658607535 := by rw [zero_U, at_f, at_zero]
  have h1 : rand_Below.f 0 0 10 = some (below 0#64 0#64 10) := by rw [zero_U, ten_U, below_f]
  rw [h0, h1]
  simp -implicitDefEqProofs only [Option.bind_some, if_true]
  rw [decide_eq_true]
  have := below_lt 0#64 0#64 10#64 (by decide +kernel)
  rw [← ten_U] at this
  exact this

theorem entry (W : World) (v0 v1 : Value) (g0 : Arg W (.int .u64) v0) (g1 : Arg W (.int .u8) v1) :
    Calls Try.prog 8 #[v0, v1] W fun e w' => e = .returned (.bool true) ∧ Below W.heap.size W w' := by
  obtain ⟨a, ha, _⟩ := g0
  obtain ⟨b, hb, hw⟩ := g1
  injection ha with ha
  injection hb with hb
  subst ha hb
  have hb' : 0 ≤ b ∧ b ≤ 255 := by
    simp [Lit.wf, IntKind.min, IntKind.max, IntKind.signed, IntKind.bits] at hw
    omega
  exact law a b hb'.1 hb'.2 W alive_f
end Go.Proofs.Ytfednkacmmblpaa.Src
