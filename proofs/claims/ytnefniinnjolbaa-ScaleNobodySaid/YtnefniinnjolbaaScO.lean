/-
  ScaleNobody: a scaler that nobody made does nothing.
-/
import Derived.Test.YtnefniinnjolbaaScM
namespace Go.Proofs.Ytnefniinnjolbaa.ScO
open Go.RowKit Go.Proofs.Ytnefniinnjolbaa.Kit Go.Proofs.Ytnefniinnjolbaa.ScP
open Go.Proofs.Ytnefniinnjolbaa.ScW (sc)
set_option linter.unusedVariables false
section
variable {w : World}

theorem bounds_no (q : Option Addr) (hok : ∀ m, Calls Try.prog 22 #[.pointer q] (w.drewN m) fun e w' => e = .returned (.bool false) ∧ ∃ n, w' = (w.drewN m).drewN n) :
    Calls Try.prog 18 #[.pointer q] w fun e w' => e = .returned (.tuple #[.int .i64 0, .int .i64 0]) ∧ ∃ m, w' = w.drewN m := by
  have H := Lib.hid hok
  clear hok
  go_enter Try.func18, Try.ntmps18
  go_wp2_with fail
  refine (H.out 0).mono ?_
  rintro e w1 ⟨rfl, nd, rfl⟩
  go_wp2
  go_ret2
  exact ⟨rfl, _, rfl⟩

theorem want_no (q : Option Addr) (hok : ∀ m, Calls Try.prog 22 #[.pointer q] (w.drewN m) fun e w' => e = .returned (.bool false) ∧ ∃ n, w' = (w.drewN m).drewN n) (a : Int) :
    Calls Try.prog 11 #[.pointer q, .int .i64 a] w fun e w' => e = .returned (.int .i64 0) ∧ ∃ m, w' = w.drewN m := by
  have H := Lib.hid hok
  clear hok
  go_enter Try.func11, Try.ntmps11
  go_wp2_with fail
  refine (H.out 0).mono ?_
  rintro e w1 ⟨rfl, nd, rfl⟩
  go_wp2
  go_ret
  exact ⟨rfl, _, rfl⟩

theorem step_no (q : Option Addr) (hok : ∀ m, Calls Try.prog 22 #[.pointer q] (w.drewN m) fun e w' => e = .returned (.bool false) ∧ ∃ n, w' = (w.drewN m).drewN n) (a b c : Int) :
    Calls Try.prog 10 #[.pointer q, .int .i64 a, .int .i64 b, .int .i64 c] w fun e w' => e = .returned (.int .i64 0) ∧ ∃ m, w' = w.drewN m := by
  have H := Lib.hid hok
  clear hok
  go_enter Try.func10, Try.ntmps10
  go_wp2_with fail
  refine (H.out 0).mono ?_
  rintro e w1 ⟨rfl, nd, rfl⟩
  go_wp2
  go_ret
  exact ⟨rfl, _, rfl⟩

theorem set_no (q : Option Addr) (hok : ∀ m, Calls Try.prog 22 #[.pointer q] (w.drewN m) fun e w' => e = .returned (.bool false) ∧ ∃ n, w' = (w.drewN m).drewN n) (a b : Int) :
    Calls Try.prog 15 #[.pointer q, .int .i64 a, .int .i64 b] w fun e w' => e = .returned (.int .i64 1) ∧ ∃ m, w' = w.drewN m := by
  have H := Lib.hid hok
  clear hok
  go_enter Try.func15, Try.ntmps15
  go_wp2_with fail
  refine (H.out 0).mono ?_
  rintro e w1 ⟨rfl, nd, rfl⟩
  go_wp2
  go_ret
  exact ⟨rfl, _, rfl⟩

theorem now_no (q : Option Addr) (hok : ∀ m, Calls Try.prog 22 #[.pointer q] (w.drewN m) fun e w' => e = .returned (.bool false) ∧ ∃ n, w' = (w.drewN m).drewN n) :
    Calls Try.prog 20 #[.pointer q] w fun e w' => e = .returned (.int .i64 0) ∧ ∃ m, w' = w.drewN m := by
  have H := Lib.hid hok
  clear hok
  go_enter Try.func20, Try.ntmps20
  go_wp2_with fail
  refine (H.out 0).mono ?_
  rintro e w1 ⟨rfl, nd, rfl⟩
  go_wp2
  go_ret
  exact ⟨rfl, _, rfl⟩


theorem law (b : Bool) (x1 x2 x3 x4 x5 : Int) :
    Calls Try.prog 6 #[.agg #[.bool b, .int .i64 x1, .int .i64 x2, .int .i64 x3, .int .i64 x4, .int .i64 x5]] w fun e w' => e = .returned (.bool true) ∧ Below w.heap.size w w' := by
  go_enter Try.func6, Try.ntmps6
  go_wp2_with fail
  obtain ⟨B, HB⟩ : ∃ B, Hid (w.heap.size = B) := ⟨_, rfl⟩
  have b1 := ((Blk.new w #[.bool b, .int .i64 x1, .int .i64 x2, .int .i64 x3, .int .i64 x4, .int .i64 x5] 37).alloc (.cells (sc 0 0 0 0 0 0 0 0 0) 49)).alloc (.cells #[.pointer none, .pointer (some ⟨w.heap.size + 1, 0, none⟩)] 24)
  have b2 := (Blk.new (w.alloc (.cells #[.bool b, .int .i64 x1, .int .i64 x2, .int .i64 x3, .int .i64 x4, .int .i64 x5] 37)) (sc 0 0 0 0 0 0 0 0 0) 49).alloc (.cells #[.pointer none, .pointer (some ⟨w.heap.size + 1, 0, none⟩)] 24)
  have b3 := Blk.new ((w.alloc (.cells #[.bool b, .int .i64 x1, .int .i64 x2, .int .i64 x3, .int .i64 x4, .int .i64 x5] 37)).alloc (.cells (sc 0 0 0 0 0 0 0 0 0) 49)) #[.pointer none, .pointer (some ⟨w.heap.size + 1, 0, none⟩)] 24
  have hbe : Below w.heap.size w (((w.alloc (.cells #[.bool b, .int .i64 x1, .int .i64 x2, .int .i64 x3, .int .i64 x4, .int .i64 x5] 37)).alloc (.cells (sc 0 0 0 0 0 0 0 0 0) 49)).alloc (.cells #[.pointer none, .pointer (some ⟨w.heap.size + 1, 0, none⟩)] 24)) :=
    (((Below.refl _ w).alloc (Nat.le_refl _) _).alloc (by simp) _).alloc (by simp; omega) _
  have e1 : (w.alloc (.cells #[.bool b, .int .i64 x1, .int .i64 x2, .int .i64 x3, .int .i64 x4, .int .i64 x5] 37)).heap.size = w.heap.size + 1 := by simp
  have e2 : ((w.alloc (.cells #[.bool b, .int .i64 x1, .int .i64 x2, .int .i64 x3, .int .i64 x4, .int .i64 x5] 37)).alloc (.cells (sc 0 0 0 0 0 0 0 0 0) 49)).heap.size = w.heap.size + 1 + 1 := by simp
  rw [e1] at b2
  rw [e2] at b3
  clear e1 e2
  obtain ⟨W, HW⟩ : ∃ W, Hid ((((w.alloc (.cells #[.bool b, .int .i64 x1, .int .i64 x2, .int .i64 x3, .int .i64 x4, .int .i64 x5] 37)).alloc (.cells (sc 0 0 0 0 0 0 0 0 0) 49)).alloc (.cells #[.pointer none, .pointer (some ⟨w.heap.size + 1, 0, none⟩)] 24)) = W) := ⟨_, rfl⟩
  have HW' := HW.out
  unfold sc at HW'
  rw [HW'] at ⊢
  rw [HW.out] at b1 b2 b3 hbe
  clear HW HW'
  rw [HB.out] at b1 b2 b3 hbe ⊢
  have B2 := Lib.hid b2
  have HBe := Lib.hid hbe
  have c1 : W.cell? ⟨B, 1, none⟩ = some (.int .i64 x1) := b1.cell 1 rfl
  have c2 : W.cell? ⟨B, 2, none⟩ = some (.int .i64 x2) := b1.cell 2 rfl
  have c3 : W.cell? ⟨B, 3, none⟩ = some (.int .i64 x3) := b1.cell 3 rfl
  have c4 : W.cell? ⟨B, 4, none⟩ = some (.int .i64 x4) := b1.cell 4 rfl
  have c5 : W.cell? ⟨B, 5, none⟩ = some (.int .i64 x5) := b1.cell 5 rfl
  have p0 : W.cell? ⟨B + 1 + 1, 0, none⟩ = some (.pointer none) := b3.cell 0 rfl
  have p1 : W.cell? ⟨B + 1 + 1, 1, none⟩ = some (.pointer (some ⟨B + 1, 0, none⟩)) := b3.cell 1 rfl
  clear b1 b2 b3 hbe
  go_loopw [11] (fun i wr => ∃ k : Nat, k ≤ 2 ∧ i = .int .i64 k ∧ ∃ m, wr = W.drewN m) (fun i _ => 2 - (intOf i).toNat)
  case atStart => exact ⟨0, by omega, rfl, 0, rfl⟩
  case round =>
    obtain ⟨k, hk, rfl, m, rfl⟩ := hrel
    rcases (show k = 0 ∨ k = 1 ∨ k = 2 by omega) with rfl | rfl | rfl
    · have K : Hid (∀ a n, Calls Try.prog 22 #[.pointer none] ((W.drewN a).drewN n) fun e w' => e = .returned (.bool false) ∧ ∃ m, w' = ((W.drewN a).drewN n).drewN m) := fun a n => ScW.ok_nil
      go_wp2_with fail
      refine (bounds_no none (fun n => by exact K.out _ _)).mono ?_
      rintro e w1 ⟨rfl, n1, rfl⟩
      go_wp2_with fail
      refine (want_no none (fun n => by exact K.out _ _) _).mono ?_
      rintro e w1 ⟨rfl, n2, rfl⟩
      go_wp2_with fail
      refine (step_no none (fun n => by exact K.out _ _) _ _ _).mono ?_
      rintro e w1 ⟨rfl, n3, rfl⟩
      go_wp2_with fail
      refine (set_no none (fun n => by exact K.out _ _) _ _).mono ?_
      rintro e w1 ⟨rfl, n4, rfl⟩
      go_wp2_with fail
      refine (now_no none (fun n => by exact K.out _ _)).mono ?_
      rintro e w1 ⟨rfl, n5, rfl⟩
      go_wp2
      go_roundw
      case rel => exact ⟨1, by omega, rfl, _, rfl⟩
      case measure => simp [intOf]
    · have K : Hid (∀ a n, Calls Try.prog 22 #[.pointer (some ⟨B + 1, 0, none⟩)] ((W.drewN a).drewN n) fun e w' => e = .returned (.bool false) ∧ ∃ m, w' = ((W.drewN a).drewN n).drewN m) := fun a n => ScW.ok_zero (show Blk _ _ _ _ from B2.out)
      go_wp2_with fail
      refine (bounds_no (some ⟨B + 1, 0, none⟩) (fun n => by exact K.out _ _)).mono ?_
      rintro e w1 ⟨rfl, n1, rfl⟩
      go_wp2_with fail
      refine (want_no (some ⟨B + 1, 0, none⟩) (fun n => by exact K.out _ _) _).mono ?_
      rintro e w1 ⟨rfl, n2, rfl⟩
      go_wp2_with fail
      refine (step_no (some ⟨B + 1, 0, none⟩) (fun n => by exact K.out _ _) _ _ _).mono ?_
      rintro e w1 ⟨rfl, n3, rfl⟩
      go_wp2_with fail
      refine (set_no (some ⟨B + 1, 0, none⟩) (fun n => by exact K.out _ _) _ _).mono ?_
      rintro e w1 ⟨rfl, n4, rfl⟩
      go_wp2_with fail
      refine (now_no (some ⟨B + 1, 0, none⟩) (fun n => by exact K.out _ _)).mono ?_
      rintro e w1 ⟨rfl, n5, rfl⟩
      go_wp2
      go_roundw
      case rel => exact ⟨2, by omega, rfl, _, rfl⟩
      case measure => simp [intOf]
    · go_wp2_with fail
      refine ScM.alive_any.mono ?_
      rintro e w1 ⟨rfl, hb⟩
      go_wp2
      go_ret
      refine ⟨rfl, ?_⟩
      rw [HB.out]
      have hs := HBe.out.size
      rw [HB.out] at hs
      exact (below_drewN HBe.out m).trans (hb.mono hs)

theorem entry (W : World) (v0 : Value) (g0 : Arg W (.struct (.cons .bool (.cons (.int .i64) (.cons (.int .i64) (.cons (.int .i64) (.cons (.int .i64) (.cons (.int .i64) .none))))))) v0) :
    Calls Try.prog 6 #[v0] W fun e w' => e = .returned (.bool true) ∧ Below W.heap.size W w' := by
  obtain ⟨cs, rfl, hl, hr⟩ := g0
  simp only [Sh.size] at hl
  match cs, hl, hr with
  | [c0, c1, c2, c3, c4, c5], _, hr =>
    simp only [Reads, Sh.size, List.take_succ_cons, List.take_zero, List.drop_succ_cons, List.drop_zero, List.cons.injEq, and_true] at hr
    obtain ⟨⟨b, rfl⟩, ⟨x1, rfl, _⟩, ⟨x2, rfl, _⟩, ⟨x3, rfl, _⟩, ⟨x4, rfl, _⟩, ⟨x5, rfl, _⟩⟩ := hr
    exact law b x1 x2 x3 x4 x5
end
end Go.Proofs.Ytnefniinnjolbaa.ScO
