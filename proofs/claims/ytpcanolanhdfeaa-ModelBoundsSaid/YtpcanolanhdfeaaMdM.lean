/-
  Walks: a quarter of a weight, and the document's draws, weights.
-/
import Derived.Test.YtpcanolanhdfeaaMdT
namespace Go.Proofs.Ytpcanolanhdfeaa.MdM
open Go.RowKit Go.Proofs.Ytpcanolanhdfeaa.Kit Go.Proofs.Ytpcanolanhdfeaa.Math Go.Proofs.Ytpcanolanhdfeaa.MdR Go.Proofs.Ytpcanolanhdfeaa.MdW Go.Proofs.Ytpcanolanhdfeaa.MdT
attribute [local go_sem high] max_imax min_imin
attribute [local go_sem ↓] Go.wp_at_zero Go.wp_at_succ
set_option linter.unusedVariables false
section
variable {w : World}

theorem imin_le {a b : Int} (h : a ≤ b) : imin a b = a := by unfold imin; split <;> omega
theorem imax_ge {a b : Int} (h : b ≤ a) : imax a b = a := by unfold imax; split <;> omega
theorem between_any {n l h : Int} (h1 : l ≤ n) (h2 : n ≤ h) : Calls Try.prog 36 #[.int .i64 n, .int .i64 l, .int .i64 h] w fun e w' => e = .returned (.int .i64 n) ∧ w = w' := by
  have H1 := Lib.hid (imin_le h2)
  have H2 := Lib.hid (imax_ge h1)
  go_enter Try.func36, Try.ntmps36
  go_wp2
  go_ret
  exact ⟨congrArg (fun v => Ending.returned (.int .i64 v)) (show imax (imin n h) l = n by rw [H1.out, H2.out]), rfl⟩
theorem within_any {n : Int} (h1 : -2147483648 ≤ n) (h2 : n ≤ 2147483647) : Calls Try.prog 30 #[.int .i64 n] w fun e w' => e = .returned (.int .i64 n) ∧ w = w' := by
  have H := Lib.hid (between_any (w := w) h1 h2)
  go_enter Try.func30, Try.ntmps30
  go_wp2_with fail
  refine H.out.mono ?_
  rintro e w' ⟨rfl, rfl⟩
  go_wp2
  go_ret
  exact ⟨rfl, rfl⟩
theorem rwithin_any {n : Int} (h1 : -2147483648 ≤ n) (h2 : n ≤ 2147483647) : Calls Try.prog 32 #[.int .i64 n] w fun e w' => e = .returned (.int .i64 n) ∧ w = w' := by
  go_enter Try.func32, Try.ntmps32
  go_wp2
  go_ret
  exact ⟨rfl, rfl⟩

/-- A quarter, rounded down. -/
def qtr (x : Int) : Int := x / 4
theorem mul_any {x : Int} (h1 : -65536 ≤ x) (h2 : x ≤ 65536) : Calls Try.prog 20 #[.int .i64 x, .int .i64 16384] w fun e w' => e = .returned (.int .i64 (qtr x)) ∧ w = w' := by
  have T1 := Lib.hid (within_any (w := w) (n := x) (by omega) (by omega))
  have T2 := Lib.hid (within_any (w := w) (n := 16384) (by omega) (by omega))
  have T3 := Lib.hid (within_any (w := w) (n := x * 16384 / 65536) (by omega) (by omega))
  have E := Lib.hid (show qtr x = x * 16384 / 65536 by unfold qtr; omega)
  rw [E.out]
  go_enter Try.func20, Try.ntmps20
  go_wp2_with (go_at_call 30; with_reducible (first | refine T1.out.mono ?_ | refine T2.out.mono ?_ | refine T3.out.mono ?_); rintro e w1 ⟨rfl, rfl⟩)
  go_ret
  exact ⟨rfl, rfl⟩
theorem by_any {x : Int} (h1 : -2147483648 ≤ x) (h2 : x ≤ 2147483648) : Calls Try.prog 33 #[.int .i64 x, .int .i64 65536] w fun e w' => e = .returned (.int .i64 (x / 65536)) ∧ w = w' := by
  have e1 : Hid (x / 65536 = if x.tmod 65536 < 0 then x.tdiv 65536 - 1 else x.tdiv 65536) := Lib.hid (by
    rcases Int.le_total 0 x with h | h
    · rw [Int.tmod_eq_emod_of_nonneg h, Int.tdiv_eq_ediv_of_nonneg h, if_neg (by omega)]
    · obtain ⟨y, rfl⟩ : ∃ y, x = -y := ⟨-x, by omega⟩
      rw [Int.neg_tmod, Int.neg_tdiv, Int.tmod_eq_emod_of_nonneg (by omega), Int.tdiv_eq_ediv_of_nonneg (by omega)]
      split <;> omega)
  rw [e1.out]
  have t1 : -32768 ≤ x.tdiv 65536 := by
    have := e1.out
    split at this <;> omega
  have t2 : x.tdiv 65536 ≤ 32769 := by
    have := e1.out
    split at this <;> omega
  by_cases hr : x.tmod 65536 < 0
  · rw [if_pos hr]
    go_enter Try.func33, Try.ntmps33
    go_wp2
    go_ret
    exact ⟨rfl, rfl⟩
  · rw [if_neg hr]
    go_enter Try.func33, Try.ntmps33
    go_wp2
    go_ret
    exact ⟨rfl, rfl⟩
theorem rmul_any {x : Int} (h1 : -65536 ≤ x) (h2 : x ≤ 65536) : Calls Try.prog 27 #[.int .i64 x, .int .i64 16384] w fun e w' => e = .returned (.int .i64 (qtr x)) ∧ w = w' := by
  have T1 := Lib.hid (rwithin_any (w := w) (n := x) (by omega) (by omega))
  have T2 := Lib.hid (rwithin_any (w := w) (n := 16384) (by omega) (by omega))
  have T3 := Lib.hid (rwithin_any (w := w) (n := x * 16384 / 65536) (by omega) (by omega))
  have T4 := Lib.hid (by_any (w := w) (x := x * 16384) (by omega) (by omega))
  have E := Lib.hid (show qtr x = x * 16384 / 65536 by unfold qtr; omega)
  rw [E.out]
  go_enter Try.func27, Try.ntmps27
  go_wp2_with ((first | go_at_call 32 | go_at_call 33); with_reducible (first | refine T1.out.mono ?_ | refine T2.out.mono ?_ | refine T3.out.mono ?_ | refine T4.out.mono ?_); rintro e w1 ⟨rfl, rfl⟩)
  go_ret
  exact ⟨rfl, rfl⟩

/-! The document's draws. -/
theorem rmix_any (x : BitVec 64) : Calls Try.prog 43 #[.int .u64 (U x)] w fun e w' => e = .returned (.int .u64 (U (mix x))) ∧ w = w' := by
  have h0 := U_lo x
  have h1 := U_hi x
  have HM := Lib.hid (mix_int x)
  obtain ⟨u, HU⟩ : ∃ u, Hid (U x = u) := ⟨_, rfl⟩
  rw [HU.out] at h0 h1 HM ⊢
  go_enter Try.func43, Try.ntmps43
  go_wp2
  go_ret
  exact ⟨by rw [← HM.out]; rfl, rfl⟩

theorem rat_any (a n : BitVec 64) : Calls Try.prog 42 #[.int .u64 (U a), .int .u64 (U n)] w fun e w' => e = .returned (.int .u64 (U (at_ a n))) ∧ w = w' := by
  have h0 := U_lo a
  have h1 := U_hi a
  have h2 := U_lo n
  have h3 := U_hi n
  have HA := Lib.hid (at_arg a n)
  have HM := Lib.hid (rmix_any (w := w) (a + (n + 1#64) * Math.step))
  rw [← HA.out] at HM
  obtain ⟨r, HR⟩ : ∃ r, Hid (U (mix (a + (n + 1#64) * Math.step)) = r) := ⟨_, rfl⟩
  rw [HR.out] at HM
  have HT : Hid (U (at_ a n) = r) := HR
  rw [HT.out]
  obtain ⟨u, HU⟩ : ∃ u, Hid (U a = u) := ⟨_, rfl⟩
  obtain ⟨v, HV⟩ : ∃ v, Hid (U n = v) := ⟨_, rfl⟩
  rw [HU.out] at h0 h1 HM ⊢
  rw [HV.out] at h2 h3 HM ⊢
  go_enter Try.func42, Try.ntmps42
  go_wp2_with fail
  refine HM.out.mono ?_
  rintro e w' ⟨rfl, rfl⟩
  go_wp2
  go_ret
  exact ⟨rfl, rfl⟩

set_option maxHeartbeats 1000000 in
theorem upper_any (x y : Int) (hx0 : 0 ≤ x) (hx : x < 18446744073709551616) (hy0 : 0 ≤ y) (hy : y < 18446744073709551616) :
    Calls Try.prog 41 #[.int .u64 x, .int .u64 y] w fun e w' => e = .returned (.int .u64 (x * y / 18446744073709551616)) ∧ ∃ m, w' = w.drewN m := by
  have HM := Lib.hid (upper x y hx0 hx hy0 hy)
  clear hx0 hx hy0 hy
  go_enter Try.func41, Try.ntmps41
  go_upto_region 2 with (fail)
  go_big_quiet (fail)
  go_upto_region 7 with (fail)
  go_big_quiet (fail)
  go_wp2
  go_ret
  exact ⟨by rw [← HM.out]; rfl, _, World.drewN_drewN w _ _⟩

theorem rbelow_any (a n t : BitVec 64) : Calls Try.prog 37 #[.int .u64 (U a), .int .u64 (U n), .int .u64 (U t)] w fun e w' => e = .returned (.int .u64 (below a n (U t))) ∧ ∃ m, w' = w.drewN m := by
  have HA := Lib.hid (rat_any (w := w) a n)
  have HM := Lib.hid (upper_any (w := w) (U (at_ a n)) (U t) (U_lo _) (U_hi _) (U_lo _) (U_hi _))
  have HB := Lib.hid (show below a n (U t) = U (at_ a n) * U t / 18446744073709551616 from rfl)
  obtain ⟨r, HR⟩ : ∃ r, Hid (U (at_ a n) * U t / 18446744073709551616 = r) := ⟨_, rfl⟩
  rw [HR.out] at HM HB
  rw [HB.out]
  obtain ⟨u, HU⟩ : ∃ u, Hid (U a = u) := ⟨_, rfl⟩
  obtain ⟨v, HV⟩ : ∃ v, Hid (U n = v) := ⟨_, rfl⟩
  obtain ⟨q, HQ⟩ : ∃ v, Hid (U t = v) := ⟨_, rfl⟩
  obtain ⟨z, HZ⟩ : ∃ v, Hid (U (at_ a n) = v) := ⟨_, rfl⟩
  rw [HU.out, HV.out] at HA ⊢
  rw [HZ.out] at HA HM
  rw [HQ.out] at HM ⊢
  go_enter Try.func37, Try.ntmps37
  go_wp2_with fail
  refine HA.out.mono ?_
  rintro e w' ⟨rfl, rfl⟩
  go_wp2_with fail
  refine HM.out.mono ?_
  rintro e w' ⟨rfl, m, rfl⟩
  go_wp2
  go_ret
  exact ⟨rfl, _, rfl⟩

theorem rderive_any (s l : BitVec 64) {b off : Nat} {c : Nat} (hc : w.cell? ⟨b, off, none⟩ = some (.int .u64 (U l))) : Calls Try.prog 38 #[.int .u64 (U s), .slice (some ⟨b, off, none⟩) 1 c] w fun e w' => e = .returned (.int .u64 (U (at_ s l))) ∧ w = w' := by
  have HA := Lib.hid (rat_any (w := w) s l)
  obtain ⟨u, HU⟩ : ∃ u, Hid (U s = u) := ⟨_, rfl⟩
  obtain ⟨v, HV⟩ : ∃ v, Hid (U l = v) := ⟨_, rfl⟩
  obtain ⟨z, HZ⟩ : ∃ v, Hid (U (at_ s l) = v) := ⟨_, rfl⟩
  rw [HU.out, HV.out, HZ.out] at HA
  rw [HV.out] at hc
  rw [HU.out, HZ.out]
  go_enter Try.func38, Try.ntmps38
  go_wp2_with fail
  go_loop [5, 0] (fun i v => ∃ k : Nat, k ≤ 1 ∧ i = .int .i64 k ∧ v = .int .u64 (if k = 0 then u else z)) (fun i _ => 1 - (intOf i).toNat)
  case atStart => exact ⟨0, by omega, rfl, rfl⟩
  case round =>
    obtain ⟨k, hk, rfl, rfl⟩ := hrel
    rcases (show k = 0 ∨ k = 1 by omega) with rfl | rfl
    · simp only [if_true]
      go_wp2_with fail
      refine HA.out.mono ?_
      rintro e w' ⟨rfl, rfl⟩
      go_wp2
      go_round
      case rel => exact ⟨1, by omega, rfl, rfl⟩
      case measure => simp [intOf]
    · simp only [Nat.one_ne_zero, if_false]
      go_wp2
      go_ret
      exact ⟨rfl, rfl⟩

theorem rweight_any (s : BitVec 64) (t r c : Nat) (ht : t ≤ 1000) (hr : r ≤ 1000) (hc : c ≤ 1000) :
    Calls Try.prog 31 #[.int .u64 (U s), .int .i64 t, .int .i64 r, .int .i64 c] w fun e w' => e = .returned (.int .i64 (Wt (at_ s (BitVec.ofNat 64 t)) r c)) ∧ ∃ m, w' = (w.alloc (.cells #[.int .u64 (t : Int)] 22)).drewN m := by
  obtain ⟨S, HS⟩ : ∃ S, Hid (at_ s (BitVec.ofNat 64 t) = S) := ⟨_, rfl⟩
  rw [HS.out]
  have h0 := Wt_lo S r c
  have h1 := Wt_hi S r c
  have htU := nat_U t (by omega)
  have HD : ∀ {w : World} {b off : Nat} {k : Nat} (hc : w.cell? ⟨b, off, none⟩ = some (.int .u64 (t : Int))), Hid (Calls Try.prog 38 #[.int .u64 (U s), .slice (some ⟨b, off, none⟩) 1 k] w fun e w' => e = .returned (.int .u64 (U S)) ∧ w = w') :=
    fun hc => Lib.hid (by rw [← HS.out]; exact rderive_any s (BitVec.ofNat 64 t) (by rw [htU]; exact hc))
  have HB : ∀ w : World, Hid (Calls Try.prog 37 #[.int .u64 (U S), .int .u64 (64 * (r : Int) + (c : Int)), .int .u64 131073] w fun e w' => e = .returned (.int .u64 (below S (BitVec.ofNat 64 (64 * r + c)) 131073)) ∧ ∃ m, w' = w.drewN m) := fun w => Lib.hid (by
    have := rbelow_any (w := w) S (BitVec.ofNat 64 (64 * r + c)) 131073#64
    rw [top_U, nat_U _ (by omega), show ((64 * r + c : Nat) : Int) = 64 * (r : Int) + (c : Int) by omega] at this
    exact this)
  obtain ⟨q, HQ⟩ : ∃ q, Hid (below S (BitVec.ofNat 64 (64 * r + c)) 131073 = q) := ⟨_, rfl⟩
  have HW : Hid (Wt S r c = q - 65536) := Lib.hid (by unfold Wt; rw [HQ.out])
  simp only [HQ.out] at HB
  rw [HW.out] at h0 h1 ⊢
  obtain ⟨u, HU⟩ : ∃ u, Hid (U s = u) := ⟨_, rfl⟩
  obtain ⟨v, HV⟩ : ∃ u, Hid (U S = u) := ⟨_, rfl⟩
  simp only [HU.out, HV.out] at HD
  simp only [HV.out] at HB
  rw [HU.out]
  clear htU
  have a0 : (0 : Int) ≤ (r : Int) := by omega
  have a1 : (r : Int) ≤ 1000 := by omega
  have a2 : (0 : Int) ≤ (c : Int) := by omega
  have a3 : (c : Int) ≤ 1000 := by omega
  have a4 : (0 : Int) ≤ (t : Int) := by omega
  have a5 : (t : Int) ≤ 1000 := by omega
  go_enter Try.func31, Try.ntmps31
  go_wp2_with fail
  refine (HD (by simp [go_sem])).out.mono ?_
  rintro e w1 ⟨rfl, rfl⟩
  go_wp2_with fail
  refine (HB _).out.mono ?_
  rintro e w1 ⟨rfl, m, rfl⟩
  go_wp2
  go_ret
  exact ⟨rfl, m, rfl⟩
end
end Go.Proofs.Ytpcanolanhdfeaa.MdM
