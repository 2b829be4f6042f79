/-
  Walks over the small functions of the scaler's laws.
-/
import Derived.Test.YtnefniinnjolbaaScN
import Derived.Test.YtnefniinnjolbaaSlices
namespace Go.Proofs.Ytnefniinnjolbaa.ScM
open Go.RowKit Go.Proofs.Ytnefniinnjolbaa.Kit Go.Proofs.Ytnefniinnjolbaa.ScP Go.Proofs.Ytnefniinnjolbaa.ScN
open Go.Proofs.Ytnefniinnjolbaa.ScW (sc)
attribute [local go_sem high] max_imax min_imin
set_option linter.unusedVariables false
section
variable {mn mx per sl uw dw : Int} {w : World}

/-- A setting as a value. -/
def sv (mn mx per sl uw dw : Int) : Value := .agg #[.int .i64 mn, .int .i64 mx, .int .i64 per, .int .i64 sl, .int .i64 uw, .int .i64 dw]

theorem theirs_any : Calls Try.prog 8 #[.agg #[.int .i64 mn, .int .i64 mx, .int .i64 per, .int .i64 sl, .int .i64 uw, .int .i64 dw]] w fun e w' =>
    e = .returned (.agg #[.int .i64 mn, .int .i64 mx, .int .i64 per, .int .i64 sl, .int .i64 uw, .int .i64 dw]) ∧ Below w.heap.size w w' := by
  go_enter Try.func8, Try.ntmps8
  go_wp2
  exact bodyPost_ret (v := .agg #[.int .i64 mn, .int .i64 mx, .int .i64 per, .int .i64 sl, .int .i64 uw, .int .i64 dw]) (by simp [results, Try.results8, go_sem]) rfl
    ⟨rfl, ((Below.refl _ _).alloc (Nat.le_refl _) _).alloc (by simp) _⟩

theorem ref_new_any : Calls Try.prog 14 #[.agg #[.int .i64 mn, .int .i64 mx, .int .i64 per, .int .i64 sl, .int .i64 uw, .int .i64 dw]] w fun e w' =>
    e = .returned (.agg #[.int .i64 mn, .int .i64 mx, .int .i64 per, .int .i64 sl, .int .i64 uw, .int .i64 dw, .int .i64 0, .int .i64 (-1), .int .i64 (-1)]) ∧ Below w.heap.size w w' := by
  go_enter Try.func14, Try.ntmps14
  go_wp2
  exact bodyPost_ret (v := (.agg #[.int .i64 mn, .int .i64 mx, .int .i64 per, .int .i64 sl, .int .i64 uw, .int .i64 dw, .int .i64 0, .int .i64 (-1), .int .i64 (-1)])) (by simp [results, Try.results14, go_sem]) rfl
    ⟨rfl, ((Below.refl _ _).alloc (Nat.le_refl _) _).alloc (by simp) _⟩

theorem short_any (a : Option Addr) (n c : Nat) (hn : n ≤ maxLen) (hc : n ≤ c) : Calls Try.prog 12 #[.slice a n c] w fun e w' =>
    e = .returned (.slice a (min n 300) c) ∧ ∃ m, w' = w.drewN m := by
  unfold maxLen at hn
  have h0 : 0 ≤ imin (n : Int) 300 := by unfold imin; split <;> omega
  have h1 : imin (n : Int) 300 ≤ (c : Int) := by unfold imin; split <;> omega
  have H2 : Hid ((imin (n : Int) 300).toNat = min n 300) := by show _ = _; unfold imin; split <;> omega
  go_enter Try.func12, Try.ntmps12
  go_wp2
  go_ret
  exact ⟨by rw [← H2.out]; rfl, 0, rfl⟩

theorem may_yes (h : May mn mx per sl uw dw) : Calls Try.prog 13 #[.agg #[.int .i64 mn, .int .i64 mx, .int .i64 per, .int .i64 sl, .int .i64 uw, .int .i64 dw]] w fun e w' =>
    e = .returned (.bool true) ∧ Below w.heap.size w w' := by
  obtain ⟨hb, h1, h2, h3, h4, h5, h6, h7, h8⟩ := h
  have HB := Lib.hid hb
  clear hb
  go_enter Try.func13, Try.ntmps13
  go_wp2_with fail
  refine (ScR.bounded_any mn mx _).mono ?_
  rintro e w1 ⟨rfl, nd, rfl⟩
  rw [decide_eq_true HB.out]
  go_wp2
  go_ret
  exact ⟨rfl, below_drewN ((Below.refl _ _).alloc (Nat.le_refl _) _) nd⟩

theorem may_no (h : ¬ May mn mx per sl uw dw) : Calls Try.prog 13 #[.agg #[.int .i64 mn, .int .i64 mx, .int .i64 per, .int .i64 sl, .int .i64 uw, .int .i64 dw]] w fun e w' =>
    e = .returned (.bool false) ∧ Below w.heap.size w w' := by
  have HN := Lib.hid h
  clear h
  go_enter Try.func13, Try.ntmps13
  go_wp2_with fail
  refine (ScR.bounded_any mn mx _).mono ?_
  rintro e w1 ⟨rfl, nd, rfl⟩
  obtain ⟨bb, HBB⟩ : ∃ bb, Hid (decide (0 ≤ mn ∧ mn ≤ mx ∧ 1 ≤ mx ∧ mx ≤ 8) = bb) := ⟨_, rfl⟩
  rw [HBB.out]
  cases bb with
  | false =>
    go_wp2
    go_ret
    exact ⟨rfl, below_drewN ((Below.refl _ _).alloc (Nat.le_refl _) _) nd⟩
  | true =>
    go_wp2
    all_goals
      go_ret
      refine ⟨?_, below_drewN ((Below.refl _ _).alloc (Nat.le_refl _) _) nd⟩
      first
        | rfl
        | (have h2 := of_decide_eq_true HBB.out
           refine congrArg (fun b => Ending.returned (Value.bool b)) (decide_eq_false fun h => HN.out ?_)
           unfold May
           omega)

theorem alive_any : Calls Try.prog 9 #[] w fun e w' => e = .returned (.bool true) ∧ Below w.heap.size w w' := by
  go_enter Try.func9, Try.ntmps9
  go_wp2_with fail
  refine (new_yes (by unfold May; omega)).mono ?_
  rintro e w1 ⟨g, rfl, hg, hb, hbe⟩
  have HB := Lib.hid hb
  have HBe := Lib.hid hbe
  clear hb hbe
  have hu := Try.underlying24
  go_wp2_with fail
  refine (ScW.want_any HB.out (by omega) (by omega) (by omega) (by omega) 25).mono ?_
  rintro e w2 ⟨rfl, nd, rfl⟩
  rw [show want 1 4 10 25 = 3 by decide]
  go_wp2_with fail
  refine (ScS.step_any (HB.out.drewN nd) (by omega) (by omega) (by omega) (by omega) (by omega) (by omega) (by omega) (by omega) (by omega) (by omega) (by omega) (by omega) (by omega) (by omega) 0 1 25).mono ?_
  rintro e w3 ⟨r, rfl, hr, hb3, hc3⟩
  rw [show dir 1 4 10 0 0 0 (nowOf 0 0) (-1) (-1) (imax 1 0) (imin (imax 25 0) 1099511627776) = 1 by decide] at hr
  subst hr
  rw [show nowOf 0 0 = 0 by decide, if_pos (by decide), if_neg (by decide)] at hb3
  have HB3 := Lib.hid hb3
  have HC3 := Lib.hid hc3
  clear hb3 hc3
  go_wp2_with fail
  refine (ScS.step_any HB3.out (by omega) (by omega) (by omega) (by omega) (by omega) (by omega) (by omega) (by omega) (by omega) (by omega) (by omega) (by omega) (by omega) (by omega) 0 5 25).mono ?_
  rintro e w4 ⟨r, rfl, hr, hb4, hc4⟩
  rw [show dir 1 4 10 0 0 0 (nowOf 0 0) 0 (-1) (imax 5 0) (imin (imax 25 0) 1099511627776) = -1 by decide] at hr
  subst hr
  have HC4 := Lib.hid hc4
  clear hb4 hc4
  go_wp2
  go_ret
  refine ⟨rfl, ?_⟩
  have h1 : Below w.heap.size w (w1.drewN nd) := below_drewN HBe.out nd
  have h2 := HC3.out.below h1 h1.size (fun k hk => by omega)
  exact HC4.out.below h2 h2.size (fun k hk => by omega)
end
end Go.Proofs.Ytnefniinnjolbaa.ScM
