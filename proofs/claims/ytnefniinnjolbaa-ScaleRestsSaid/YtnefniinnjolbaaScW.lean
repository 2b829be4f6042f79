/-
  Walks over the scaler's methods.
-/
import Derived.Test.YtnefniinnjolbaaProg
import Derived.Test.YtnefniinnjolbaaScP
import Derived.RegionTactic
import Derived.Deep.QuietTactic
import Derived.BigQuiet
import Derived.Deep.DeepCutAuto
import Derived.Outline
import Derived.KernelRfl
namespace Go.Proofs.Ytnefniinnjolbaa.ScW
open Go.RowKit Go.Proofs.Ytnefniinnjolbaa.Kit Go.Proofs.Ytnefniinnjolbaa.ScP
attribute [local go_sem high] max_imax min_imin
set_option linter.unusedVariables false

/-- The cells of a scaler. -/
def sc (mn mx per sl uw dw now up dn : Int) : Array Value := #[.int .i64 mn, .int .i64 mx, .int .i64 per, .int .i64 sl, .int .i64 uw, .int .i64 dw, .int .i64 now, .int .i64 up, .int .i64 dn]

section
variable {g : Nat} {mn mx per sl uw dw now up dn : Int} {w : World}

theorem cells (hb : Blk w g 49 (sc mn mx per sl uw dw now up dn)) : w.cell? ⟨g, 0, none⟩ = some (.int .i64 mn) ∧ w.cell? ⟨g, 1, none⟩ = some (.int .i64 mx) ∧ w.cell? ⟨g, 2, none⟩ = some (.int .i64 per) ∧
    w.cell? ⟨g, 3, none⟩ = some (.int .i64 sl) ∧ w.cell? ⟨g, 4, none⟩ = some (.int .i64 uw) ∧ w.cell? ⟨g, 5, none⟩ = some (.int .i64 dw) ∧ w.cell? ⟨g, 6, none⟩ = some (.int .i64 now) ∧
    w.cell? ⟨g, 7, none⟩ = some (.int .i64 up) ∧ w.cell? ⟨g, 8, none⟩ = some (.int .i64 dn) :=
  ⟨hb.cell 0 rfl, hb.cell 1 rfl, hb.cell 2 rfl, hb.cell 3 rfl, hb.cell 4 rfl, hb.cell 5 rfl, hb.cell 6 rfl, hb.cell 7 rfl, hb.cell 8 rfl⟩

theorem ok_any (hb : Blk w g 49 (sc mn mx per sl uw dw now up dn)) (h : 0 < mx) :
    Calls Try.prog 22 #[.pointer (some ⟨g, 0, none⟩)] w fun e w' => e = .returned (.bool true) ∧ ∃ m, w' = w.drewN m := by
  have hu := Try.underlying24
  obtain ⟨_, c1, _⟩ := cells hb
  clear hb
  go_enter Try.func22, Try.ntmps22
  go_wp2
  go_ret
  exact ⟨rfl, 0, rfl⟩

theorem ok_zero (hb : Blk w g 49 (sc mn 0 per sl uw dw now up dn)) :
    Calls Try.prog 22 #[.pointer (some ⟨g, 0, none⟩)] w fun e w' => e = .returned (.bool false) ∧ ∃ m, w' = w.drewN m := by
  have hu := Try.underlying24
  obtain ⟨_, c1, _⟩ := cells hb
  clear hb
  go_enter Try.func22, Try.ntmps22
  go_wp2
  go_ret
  exact ⟨rfl, 0, rfl⟩

theorem ok_nil : Calls Try.prog 22 #[.pointer none] w fun e w' => e = .returned (.bool false) ∧ ∃ m, w' = w.drewN m := by
  have hu := Try.underlying24
  go_enter Try.func22, Try.ntmps22
  go_wp2
  go_ret
  exact ⟨rfl, 0, rfl⟩

theorem rested_any (hb : Blk w g 49 (sc mn mx per sl uw dw now up dn)) (h0 : 0 ≤ now) (h1 : now ≤ 1099511627776) (a wt : Int) (a0 : -1 ≤ a) (a1 : a ≤ 1099511627776) :
    Calls Try.prog 23 #[.pointer (some ⟨g, 0, none⟩), .int .i64 a, .int .i64 wt] w fun e w' => e = .returned (.bool (rest now a wt)) ∧ ∃ m, w' = w.drewN m := by
  obtain ⟨_, _, _, _, _, _, c6, _⟩ := cells hb
  clear hb
  by_cases ha : a = -1
  · subst ha
    go_enter Try.func23, Try.ntmps23
    go_wp2
    go_ret
    exact ⟨rfl, 0, rfl⟩
  · have hb1 : (a == -1) = false := by simpa using ha
    have H := Lib.hid hb1
    by_cases hw : wt ≤ now - a
    all_goals
      go_enter Try.func23, Try.ntmps23
      go_wp2
      go_ret
      exact ⟨by simp [rest, H.out, hw], 0, rfl⟩

theorem spare_any (hb : Blk w g 49 (sc mn mx per sl uw dw now up dn)) (p0 : 1 ≤ per) (p1 : per ≤ 1000) (s0 : 0 ≤ sl) (s1 : sl ≤ 99) (lv ld : Int) (l0 : 0 ≤ lv) (l1 : lv ≤ 8) (d0 : 0 ≤ ld) (d1 : ld ≤ 1099511627776) :
    Calls Try.prog 24 #[.pointer (some ⟨g, 0, none⟩), .int .i64 lv, .int .i64 ld] w fun e w' => e = .returned (.bool (spare per sl lv ld)) ∧ ∃ m, w' = w.drewN m := by
  obtain ⟨_, _, c2, c3, _⟩ := cells hb
  clear hb
  have m1 : -1000 ≤ (lv - 1) * per ∧ (lv - 1) * per ≤ 7000 := by
    constructor
    · have := Int.mul_le_mul_of_nonneg_right (show (-1 : Int) ≤ lv - 1 by omega) (show (0 : Int) ≤ per by omega)
      omega
    · have := Int.mul_le_mul (show lv - 1 ≤ 7 by omega) p1 (by omega) (by omega : (0 : Int) ≤ 7)
      omega
  obtain ⟨q, HQ, q0, q1⟩ : ∃ q, Hid ((lv - 1) * per = q) ∧ -1000 ≤ q ∧ q ≤ 7000 := ⟨_, rfl, m1.1, m1.2⟩
  clear m1
  have m2 : -100000 ≤ q * (100 - sl) ∧ q * (100 - sl) ≤ 700000 := by
    rcases Int.le_total 0 q with h | h
    · have h1 := Int.mul_le_mul q1 (show 100 - sl ≤ 100 by omega) (by omega) (by omega : (0 : Int) ≤ 7000)
      have h2 := Int.mul_nonneg h (show (0 : Int) ≤ 100 - sl by omega)
      omega
    · have h1 := Int.mul_le_mul_of_nonneg_right q0 (show (0 : Int) ≤ 100 - sl by omega)
      have h2 := Int.mul_nonpos_of_nonpos_of_nonneg h (show (0 : Int) ≤ 100 - sl by omega)
      omega
  obtain ⟨r, HR, r0, r1⟩ : ∃ r, Hid (q * (100 - sl) = r) ∧ -100000 ≤ r ∧ r ≤ 700000 := ⟨_, rfl, m2.1, m2.2⟩
  clear m2
  go_enter Try.func24, Try.ntmps24
  go_wp2
  go_region
  go_wp2
  go_ret
  refine ⟨?_, 1, rfl⟩
  have e1 : wrap64 q = q := by unfold wrap64; omega
  have e2 : wrap64 r = r := by unfold wrap64; omega
  show Ending.returned (.bool (decide (100 * ld ≤ wrap64 (wrap64 ((lv - 1) * per) * (100 - sl))))) = _
  unfold spare
  rw [HQ.out, e1, HR.out, e2]

theorem bounded_any (a b : Int) (w : World) :
    Calls Try.prog 21 #[.int .i64 a, .int .i64 b] w fun e w' => e = .returned (.bool (decide (0 ≤ a ∧ a ≤ b ∧ 1 ≤ b ∧ b ≤ 8))) ∧ ∃ m, w' = w.drewN m := by
  by_cases h1 : 0 ≤ a <;> by_cases h2 : a ≤ b <;> by_cases h3 : 1 ≤ b <;> by_cases h4 : b ≤ 8
  all_goals
    go_enter Try.func21, Try.ntmps21
    go_wp2
    go_ret
    exact ⟨by simp [*], 0, rfl⟩

theorem want_any (hb : Blk w g 49 (sc mn mx per sl uw dw now up dn)) (x0 : 0 < mx) (x1 : mx ≤ 8) (p0 : 1 ≤ per) (p1 : per ≤ 1000) (ld : Int) :
    Calls Try.prog 11 #[.pointer (some ⟨g, 0, none⟩), .int .i64 ld] w fun e w' => e = .returned (.int .i64 (want mn mx per ld)) ∧ ∃ m, w' = w.drewN m := by
  have HB := Lib.hid hb
  obtain ⟨c0, c1, c2, _⟩ := cells hb
  clear hb
  obtain ⟨M, rfl⟩ := Int.eq_ofNat_of_zero_le (show 0 ≤ mx by omega)
  go_enter Try.func11, Try.ntmps11
  go_wp2_with fail
  refine (ok_any HB.out x0).mono ?_
  rintro e w1 ⟨rfl, nd, rfl⟩
  go_wp2_with fail
  go_loop [5, 20] (fun v i => ∃ k : Nat, k ≤ M ∧ i = .int .i64 k ∧ v = .int .i64 M ∧ Hid (need per ld (M - k) k = need per ld M 0)) (fun _ i => M - (intOf i).toNat)
  case atStart => exact ⟨0, Nat.zero_le _, rfl, rfl, rfl⟩
  case round =>
    obtain ⟨k, hk, rfl, rfl, HN⟩ := hrel
    have kp : 0 ≤ (k : Int) * per ∧ (k : Int) * per ≤ 8000 := by
      constructor
      · exact Int.mul_nonneg (by omega) (by omega)
      · have := Int.mul_le_mul (show (k : Int) ≤ 8 by omega) p1 (by omega) (by omega : (0 : Int) ≤ 8)
        omega
    obtain ⟨kp0, kp1⟩ := kp
    by_cases hlt : k < M
    · by_cases hl : ld ≤ (k : Int) * per
      · go_wp2
        go_ret
        refine ⟨?_, _, rfl⟩
        have hn := HN.out
        rw [show M - k = (M - k - 1) + 1 by omega, need, if_pos hl] at hn
        show Ending.returned (.int .i64 (imax (k : Int) mn)) = _
        unfold want
        rw [Int.toNat_natCast, ← hn]
      · go_wp2
        go_round
        case rel =>
          refine ⟨k + 1, by omega, by go_num, rfl, ?_⟩
          have hn := HN.out
          rw [show M - k = (M - k - 1) + 1 by omega, need, if_neg hl] at hn
          rw [show M - (k + 1) = M - k - 1 by omega]
          exact hn
        case measure => simp [intOf]; omega
    · obtain rfl : k = M := by omega
      go_wp2
      go_ret
      refine ⟨?_, _, rfl⟩
      have hn := HN.out
      rw [Nat.sub_self, need] at hn
      show Ending.returned (.int .i64 (imax (k : Int) mn)) = _
      unfold want
      rw [Int.toNat_natCast, ← hn]

theorem bounds_any (hb : Blk w g 49 (sc mn mx per sl uw dw now up dn)) (x0 : 0 < mx) :
    Calls Try.prog 18 #[.pointer (some ⟨g, 0, none⟩)] w fun e w' => e = .returned (.tuple #[.int .i64 mn, .int .i64 mx]) ∧ ∃ m, w' = w.drewN m := by
  have HB := Lib.hid hb
  obtain ⟨c0, c1, _⟩ := cells hb
  clear hb
  go_enter Try.func18, Try.ntmps18
  go_wp2_with fail
  refine (ok_any HB.out x0).mono ?_
  rintro e w1 ⟨rfl, nd, rfl⟩
  go_wp2
  go_quiet (fail)
  go_wp2
  go_ret2
  exact ⟨rfl, _, World.drewN_drewN _ _ _⟩

theorem now_any (hb : Blk w g 49 (sc mn mx per sl uw dw now up dn)) (x0 : 0 < mx) :
    Calls Try.prog 20 #[.pointer (some ⟨g, 0, none⟩)] w fun e w' => e = .returned (.int .i64 now) ∧ ∃ m, w' = w.drewN m := by
  have HB := Lib.hid hb
  obtain ⟨_, _, _, _, _, _, c6, _⟩ := cells hb
  clear hb
  go_enter Try.func20, Try.ntmps20
  go_wp2_with fail
  refine (ok_any HB.out x0).mono ?_
  rintro e w1 ⟨rfl, nd, rfl⟩
  go_wp2
  go_ret
  exact ⟨rfl, _, rfl⟩

theorem set_yes (hb : Blk w g 49 (sc mn mx per sl uw dw now up dn)) (x0 : 0 < mx) (a b : Int) (h : 0 ≤ a ∧ a ≤ b ∧ 1 ≤ b ∧ b ≤ 8) :
    Calls Try.prog 15 #[.pointer (some ⟨g, 0, none⟩), .int .i64 a, .int .i64 b] w fun e w' =>
      e = .returned (.int .i64 0) ∧ Blk w' g 49 (sc a b per sl uw dw now up dn) ∧ Chg (fun k => k = g) w w' := by
  have HB := Lib.hid hb
  obtain ⟨c0, c1, _⟩ := cells hb
  have f0 := hb.frozen 0
  have f1 := hb.frozen 1
  have H := Lib.hid h
  clear hb h
  go_enter Try.func15, Try.ntmps15
  go_wp2_with fail
  refine (ok_any HB.out x0).mono ?_
  rintro e w1 ⟨rfl, nd, rfl⟩
  go_wp2_with fail
  refine (bounded_any a b _).mono ?_
  rintro e w1 ⟨rfl, nd2, rfl⟩
  rw [decide_eq_true H.out]
  go_wp2
  go_ret
  exact ⟨rfl, ((HB.out.drewN _).set 0 _).set 1 _, (((Chg.refl (fun k => k = g) w).drewN _).set (.inl rfl) _).set (.inl rfl) _⟩

theorem set_no (hb : Blk w g 49 (sc mn mx per sl uw dw now up dn)) (x0 : 0 < mx) (a b : Int) (h : ¬ (0 ≤ a ∧ a ≤ b ∧ 1 ≤ b ∧ b ≤ 8)) :
    Calls Try.prog 15 #[.pointer (some ⟨g, 0, none⟩), .int .i64 a, .int .i64 b] w fun e w' =>
      e = .returned (.int .i64 1) ∧ ∃ m, w' = w.drewN m := by
  have HB := Lib.hid hb
  have H := Lib.hid h
  clear hb h
  go_enter Try.func15, Try.ntmps15
  go_wp2_with fail
  refine (ok_any HB.out x0).mono ?_
  rintro e w1 ⟨rfl, nd, rfl⟩
  go_wp2_with fail
  refine (bounded_any a b _).mono ?_
  rintro e w1 ⟨rfl, nd2, rfl⟩
  rw [decide_eq_false H.out]
  go_wp2
  go_ret
  exact ⟨rfl, _, rfl⟩

end
end Go.Proofs.Ytnefniinnjolbaa.ScW
