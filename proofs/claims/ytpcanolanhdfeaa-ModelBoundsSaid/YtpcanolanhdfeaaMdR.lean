/-
  Walks over the program's draws: Mix, At.
-/
import Derived.Test.YtpcanolanhdfeaaProg
import Derived.Test.YtpcanolanhdfeaaLists
import Derived.Test.YtpcanolanhdfeaaMath
import Derived.Deep.QuietTactic
import Derived.BigQuiet
import Derived.Deep.DeepCutAuto
import Derived.Deep.CutBlock
import Derived.Deep.RegionHeld3
import Derived.Outline
import Derived.KernelRfl
import Derived.IntWalk
namespace Go.Proofs.Ytpcanolanhdfeaa.MdR
open Go.RowKit Go.Proofs.Ytpcanolanhdfeaa.Kit Go.Proofs.Ytpcanolanhdfeaa.Math
attribute [local go_sem high] max_imax min_imin
set_option linter.unusedVariables false
section
variable {w : World}

theorem mix_any (x : BitVec 64) : Calls Try.prog 39 #[.int .u64 (U x)] w fun e w' => e = .returned (.int .u64 (U (mix x))) ∧ w = w' := by
  have h0 := U_lo x
  have h1 := U_hi x
  have HM := Lib.hid (mix_int x)
  obtain ⟨u, HU⟩ : ∃ u, Hid (U x = u) := ⟨_, rfl⟩
  rw [HU.out] at h0 h1 HM ⊢
  go_enter Try.func39, Try.ntmps39
  go_wp2
  go_ret
  exact ⟨by rw [← HM.out]; rfl, rfl⟩

theorem at_any (a n : BitVec 64) : Calls Try.prog 34 #[.int .u64 (U a), .int .u64 (U n)] w fun e w' => e = .returned (.int .u64 (U (at_ a n))) ∧ w = w' := by
  have h0 := U_lo a
  have h1 := U_hi a
  have h2 := U_lo n
  have h3 := U_hi n
  have HA := Lib.hid (at_arg a n)
  have HM := Lib.hid (mix_any (w := w) (a + (n + 1#64) * Math.step))
  rw [← HA.out] at HM
  obtain ⟨r, HR⟩ : ∃ r, Hid (U (mix (a + (n + 1#64) * Math.step)) = r) := ⟨_, rfl⟩
  rw [HR.out] at HM
  have HT : Hid (U (at_ a n) = r) := HR
  rw [HT.out]
  obtain ⟨u, HU⟩ : ∃ u, Hid (U a = u) := ⟨_, rfl⟩
  obtain ⟨v, HV⟩ : ∃ v, Hid (U n = v) := ⟨_, rfl⟩
  rw [HU.out] at h0 h1 HM ⊢
  rw [HV.out] at h2 h3 HM ⊢
  go_enter Try.func34, Try.ntmps34
  go_wp2_with fail
  refine HM.out.mono ?_
  rintro e w' ⟨rfl, rfl⟩
  go_wp2
  go_ret
  exact ⟨rfl, rfl⟩

theorem mul_any (x y : Int) (hx0 : 0 ≤ x) (hx : x < 18446744073709551616) (hy0 : 0 ≤ y) (hy : y < 18446744073709551616) :
    Calls Try.prog 40 #[.int .u64 x, .int .u64 y] w fun e w' => (∃ z, e = .returned (.tuple #[.int .u64 (x * y / 18446744073709551616), .int .u64 z])) ∧ w = w' := by
  have HM := Lib.hid (mul64 x y hx0 hx hy0 hy)
  go_enter Try.func40, Try.ntmps40
  go_wp2
  go_ret2
  exact ⟨⟨_, by rw [← HM.out]; rfl⟩, rfl⟩

theorem below_any (a n t : BitVec 64) : Calls Try.prog 35 #[.int .u64 (U a), .int .u64 (U n), .int .u64 (U t)] w fun e w' => e = .returned (.int .u64 (below a n (U t))) ∧ w = w' := by
  have HA := Lib.hid (at_any (w := w) a n)
  have HM := Lib.hid (mul_any (w := w) (U (at_ a n)) (U t) (U_lo _) (U_hi _) (U_lo _) (U_hi _))
  have HB := Lib.hid (show below a n (U t) = U (at_ a n) * U t / 18446744073709551616 from rfl)
  obtain ⟨r, HR⟩ : ∃ r, Hid (U (at_ a n) * U t / 18446744073709551616 = r) := ⟨_, rfl⟩
  rw [HR.out] at HM HB
  rw [HB.out]
  obtain ⟨u, HU⟩ : ∃ u, Hid (U a = u) := ⟨_, rfl⟩
  obtain ⟨v, HV⟩ : ∃ v, Hid (U n = v) := ⟨_, rfl⟩
  obtain ⟨q, HQ⟩ : ∃ v, Hid (U t = v) := ⟨_, rfl⟩
  obtain ⟨z, HZ⟩ : ∃ v, Hid (U (at_ a n) = v) := ⟨_, rfl⟩
  rw [HU.out, HV.out] at HA ⊢
  rw [HZ.out] at HA HM
  rw [HQ.out] at HM ⊢
  go_enter Try.func35, Try.ntmps35
  go_wp2_with fail
  refine HA.out.mono ?_
  rintro e w' ⟨rfl, rfl⟩
  go_wp2_with fail
  refine HM.out.mono ?_
  rintro e w' ⟨⟨zz, rfl⟩, rfl⟩
  go_wp2
  go_ret
  exact ⟨rfl, rfl⟩

/-- A weight of the table whose seed is s. -/
def Wt (s : BitVec 64) (r c : Nat) : Int := below s (BitVec.ofNat 64 (64 * r + c)) 131073 - 65536
theorem nat_U (n : Nat) (h : n < 18446744073709551616) : U (BitVec.ofNat 64 n) = (n : Int) := (lit_U n h).symm
theorem top_U : U 131073#64 = 131073 := by decide +kernel
theorem Wt_lo (s : BitVec 64) (r c : Nat) : -65536 ≤ Wt s r c := by
  have := below_lo s (BitVec.ofNat 64 (64 * r + c)) 131073#64
  rw [top_U] at this
  unfold Wt
  omega
theorem Wt_hi (s : BitVec 64) (r c : Nat) : Wt s r c ≤ 65536 := by
  have := below_lt s (BitVec.ofNat 64 (64 * r + c)) 131073#64 (by decide +kernel)
  rw [top_U] at this
  unfold Wt
  omega

theorem weight_any (s : BitVec 64) (r c : Nat) (hr : r ≤ 1000) (hc : c ≤ 1000) : Calls Try.prog 29 #[.int .u64 (U s), .int .i64 r, .int .i64 c] w fun e w' => e = .returned (.int .i64 (Wt s r c)) ∧ w = w' := by
  have h0 := Wt_lo s r c
  have h1 := Wt_hi s r c
  have HB := Lib.hid (below_any (w := w) s (BitVec.ofNat 64 (64 * r + c)) 131073#64)
  rw [top_U, nat_U _ (by omega)] at HB
  obtain ⟨q, HQ⟩ : ∃ q, Hid (below s (BitVec.ofNat 64 (64 * r + c)) 131073 = q) := ⟨_, rfl⟩
  have HW : Hid (Wt s r c = q - 65536) := Lib.hid (by unfold Wt; rw [HQ.out])
  rw [HQ.out] at HB
  rw [HW.out] at h0 h1 ⊢
  obtain ⟨u, HU⟩ : ∃ u, Hid (U s = u) := ⟨_, rfl⟩
  rw [HU.out] at HB ⊢
  have e : ((64 * r + c : Nat) : Int) = 64 * (r : Int) + (c : Int) := by omega
  rw [e] at HB
  clear e
  have a0 : (0 : Int) ≤ (r : Int) := by omega
  have a1 : (r : Int) ≤ 1000 := by omega
  have a2 : (0 : Int) ≤ (c : Int) := by omega
  have a3 : (c : Int) ≤ 1000 := by omega
  go_enter Try.func29, Try.ntmps29
  go_wp2_with fail
  refine HB.out.mono ?_
  rintro e w' ⟨rfl, rfl⟩
  go_wp2
  go_ret
  exact ⟨rfl, rfl⟩

/-- The seed that one label makes. -/
theorem derive_any (s l : BitVec 64) {b off : Nat} {c : Nat} (hc : w.cell? ⟨b, off, none⟩ = some (.int .u64 (U l))) : Calls Try.prog 28 #[.int .u64 (U s), .slice (some ⟨b, off, none⟩) 1 c] w fun e w' => e = .returned (.int .u64 (U (at_ s l))) ∧ w = w' := by
  have HA := Lib.hid (at_any (w := w) s l)
  obtain ⟨u, HU⟩ : ∃ u, Hid (U s = u) := ⟨_, rfl⟩
  obtain ⟨v, HV⟩ : ∃ v, Hid (U l = v) := ⟨_, rfl⟩
  obtain ⟨z, HZ⟩ : ∃ v, Hid (U (at_ s l) = v) := ⟨_, rfl⟩
  rw [HU.out, HV.out, HZ.out] at HA
  rw [HV.out] at hc
  rw [HU.out, HZ.out]
  go_enter Try.func28, Try.ntmps28
  go_wp2_with fail
  go_loop [9, 0] (fun i v => ∃ k : Nat, k ≤ 1 ∧ i = .int .i64 k ∧ v = .int .u64 (if k = 0 then u else z)) (fun i _ => 1 - (intOf i).toNat)
  case atStart => exact ⟨0, by omega, rfl, rfl⟩
  case round =>
    obtain ⟨k, hk, rfl, rfl⟩ := hrel
    rcases (show k = 0 ∨ k = 1 by omega) with rfl | rfl
    · simp only [if_true]
      go_wp2_with fail
      refine HA.out.mono ?_
      rintro e w' ⟨rfl, rfl⟩
      go_wp2
      go_round
      case rel => exact ⟨1, by omega, rfl, rfl⟩
      case measure => simp [intOf]
    · simp only [Nat.one_ne_zero, if_false]
      go_wp2
      go_ret
      exact ⟨rfl, rfl⟩
end
end Go.Proofs.Ytpcanolanhdfeaa.MdR
