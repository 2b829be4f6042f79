/-
  Walks over the document's own scaler, and its step.
-/
import Derived.Test.YtnefniinnjolbaaScW
namespace Go.Proofs.Ytnefniinnjolbaa.ScR
open Go.RowKit Go.Proofs.Ytnefniinnjolbaa.Kit Go.Proofs.Ytnefniinnjolbaa.ScP
open Go.Proofs.Ytnefniinnjolbaa.ScW (sc)
attribute [local go_sem high] max_imax min_imin
set_option linter.unusedVariables false
section
variable {g : Nat} {mn mx per sl uw dw now up dn : Int} {w : World}

theorem cells (hb : Blk w g 41 (sc mn mx per sl uw dw now up dn)) : w.cell? ⟨g, 0, none⟩ = some (.int .i64 mn) ∧ w.cell? ⟨g, 1, none⟩ = some (.int .i64 mx) ∧ w.cell? ⟨g, 2, none⟩ = some (.int .i64 per) ∧
    w.cell? ⟨g, 3, none⟩ = some (.int .i64 sl) ∧ w.cell? ⟨g, 4, none⟩ = some (.int .i64 uw) ∧ w.cell? ⟨g, 5, none⟩ = some (.int .i64 dw) ∧ w.cell? ⟨g, 6, none⟩ = some (.int .i64 now) ∧
    w.cell? ⟨g, 7, none⟩ = some (.int .i64 up) ∧ w.cell? ⟨g, 8, none⟩ = some (.int .i64 dn) :=
  ⟨hb.cell 0 rfl, hb.cell 1 rfl, hb.cell 2 rfl, hb.cell 3 rfl, hb.cell 4 rfl, hb.cell 5 rfl, hb.cell 6 rfl, hb.cell 7 rfl, hb.cell 8 rfl⟩

theorem bounded_any (a b : Int) (w : World) :
    Calls Try.prog 25 #[.int .i64 a, .int .i64 b] w fun e w' => e = .returned (.bool (decide (0 ≤ a ∧ a ≤ b ∧ 1 ≤ b ∧ b ≤ 8))) ∧ ∃ m, w' = w.drewN m := by
  by_cases h1 : 0 ≤ a <;> by_cases h2 : a ≤ b <;> by_cases h3 : 1 ≤ b <;> by_cases h4 : b ≤ 8
  all_goals
    go_enter Try.func25, Try.ntmps25
    go_wp2
    go_ret
    exact ⟨by simp [*], 0, rfl⟩

theorem ago_any (hb : Blk w g 41 (sc mn mx per sl uw dw now up dn)) (h0 : 0 ≤ now) (h1 : now ≤ 1099511627776) (a wt : Int) (a0 : -1 ≤ a) (a1 : a ≤ 1099511627776) :
    Calls Try.prog 26 #[.pointer (some ⟨g, 0, none⟩), .int .i64 a, .int .i64 wt] w fun e w' => e = .returned (.bool (rest now a wt)) ∧ ∃ m, w' = w.drewN m := by
  obtain ⟨_, _, _, _, _, _, c6, _⟩ := cells hb
  clear hb
  by_cases ha : a < 0
  · have H := Lib.hid (show a = -1 by omega)
    go_enter Try.func26, Try.ntmps26
    go_wp2
    go_ret
    exact ⟨by simp [rest, H.out], 0, rfl⟩
  · have hb1 : (a == -1) = false := by simp; omega
    have H := Lib.hid hb1
    clear hb1
    by_cases hw : wt ≤ now - a
    all_goals
      have HW := Lib.hid hw
      go_enter Try.func26, Try.ntmps26
      go_wp2
      go_ret
      exact ⟨by simp [rest, H.out, hw], 0, rfl⟩

theorem want_any (hb : Blk w g 41 (sc mn mx per sl uw dw now up dn)) (x0 : 0 < mx) (x1 : mx ≤ 8) (n0 : 0 ≤ mn) (n1 : mn ≤ mx) (p0 : 1 ≤ per) (p1 : per ≤ 1000) (ld : Int) :
    Calls Try.prog 19 #[.pointer (some ⟨g, 0, none⟩), .int .i64 ld] w fun e w' => e = .returned (.int .i64 (want mn mx per ld)) ∧ ∃ m, w' = w.drewN m := by
  have HB := Lib.hid hb
  have HR := Lib.hid (want_ref mn mx per ld n0 n1 x1)
  obtain ⟨c0, c1, c2, _⟩ := cells hb
  clear hb
  go_enter Try.func19, Try.ntmps19
  go_wp2_with fail
  go_loop [5] (fun i => ∃ k : Nat, k ≤ 8 ∧ i = .int .i64 k ∧ Hid (need per ld (8 - k) k = need per ld 8 0)) (fun i => 8 - (intOf i).toNat)
  case atStart => exact ⟨0, Nat.zero_le _, rfl, rfl⟩
  case round =>
    obtain ⟨k, hk, rfl, HN⟩ := hrel
    have kp : 0 ≤ (k : Int) * per ∧ (k : Int) * per ≤ 8000 := by
      constructor
      · exact Int.mul_nonneg (by omega) (by omega)
      · have := Int.mul_le_mul (show (k : Int) ≤ 8 by omega) p1 (by omega) (by omega : (0 : Int) ≤ 8)
        omega
    obtain ⟨kp0, kp1⟩ := kp
    by_cases hlt : k < 8
    · have hlt' : (k : Int) < 8 := by omega
      by_cases hl : (k : Int) * per < ld
      · go_wp2
        go_round
        case rel =>
          refine ⟨k + 1, by omega, by go_num, ?_⟩
          have hn := HN.out
          rw [show 8 - k = (8 - k - 1) + 1 by omega, need, if_neg (by omega)] at hn
          rw [show 8 - (k + 1) = 8 - k - 1 by omega]
          exact hn
        case measure => simp [intOf]; omega
      · have hn := HN.out
        rw [show 8 - k = (8 - k - 1) + 1 by omega, need, if_pos (by omega)] at hn
        have HN2 := Lib.hid hn
        clear hn
        go_wp2
        go_quiet (fail)
        go_wp2
        go_ret
        refine ⟨?_, _, rfl⟩
        rw [← HR.out, ← HN2.out]
        rfl
    · have e8 : k = 8 := by omega
      have hn := HN.out
      rw [e8, Nat.sub_self, need] at hn
      have HN2 := Lib.hid hn
      clear hn
      subst e8
      go_wp2
      go_quiet (fail)
      go_wp2
      go_ret
      refine ⟨?_, _, rfl⟩
      rw [← HR.out, ← HN2.out]
      rfl

theorem set_yes (hb : Blk w g 41 (sc mn mx per sl uw dw now up dn)) (a b : Int) (h : 0 ≤ a ∧ a ≤ b ∧ 1 ≤ b ∧ b ≤ 8) :
    Calls Try.prog 16 #[.pointer (some ⟨g, 0, none⟩), .int .i64 a, .int .i64 b] w fun e w' =>
      e = .returned (.bool true) ∧ Blk w' g 41 (sc a b per sl uw dw now up dn) ∧ Chg (fun k => k = g) w w' := by
  have HB := Lib.hid hb
  obtain ⟨c0, c1, _⟩ := cells hb
  have f0 := hb.frozen 0
  have f1 := hb.frozen 1
  have H := Lib.hid h
  clear hb h
  go_enter Try.func16, Try.ntmps16
  go_wp2_with fail
  refine (bounded_any a b _).mono ?_
  rintro e w1 ⟨rfl, nd2, rfl⟩
  rw [decide_eq_true H.out]
  go_wp2
  go_ret
  exact ⟨rfl, ((HB.out.drewN _).set 0 _).set 1 _, (((Chg.refl (fun k => k = g) w).drewN _).set (.inl rfl) _).set (.inl rfl) _⟩

theorem set_no (a b : Int) (h : ¬ (0 ≤ a ∧ a ≤ b ∧ 1 ≤ b ∧ b ≤ 8)) :
    Calls Try.prog 16 #[.pointer (some ⟨g, 0, none⟩), .int .i64 a, .int .i64 b] w fun e w' =>
      e = .returned (.bool false) ∧ ∃ m, w' = w.drewN m := by
  have H := Lib.hid h
  clear h
  go_enter Try.func16, Try.ntmps16
  go_wp2_with fail
  refine (bounded_any a b _).mono ?_
  rintro e w1 ⟨rfl, nd2, rfl⟩
  rw [decide_eq_false H.out]
  go_wp2
  go_ret
  exact ⟨rfl, _, rfl⟩
end
end Go.Proofs.Ytnefniinnjolbaa.ScR
