/-
  ProbeNobody: a prober that nobody made does nothing.
-/
import Derived.Test.YtandaanfdpedhaaPrA
import Derived.Test.YtandaanfdpedhaaOpen
namespace Go.Proofs.Ytandaanfdpedhaa.PrO
open Go.RowKit Go.Proofs.Ytandaanfdpedhaa.Kit Go.Proofs.Ytandaanfdpedhaa.PrP Go.Proofs.Ytandaanfdpedhaa.PrW Go.Proofs.Ytandaanfdpedhaa.PrN
attribute [local go_sem high] max_imax min_imin
set_option linter.unusedVariables false
section
variable {w : World}
def pz : Array Value := #[.int .i64 0, .int .i64 0, .int .i64 0, .int .i64 0, .int .i64 0, .int .i64 0, .int .u64 0, .int .i64 0, .int .i64 0, .int .i64 0, .bool false]

theorem tick_no (q : Option Addr) (hok : ∀ m, Calls Try.prog 23 #[.pointer q] (w.drewN m) fun e w' => e = .returned (.bool false) ∧ ∃ n, w' = (w.drewN m).drewN n) (a : Int) :
    Calls Try.prog 11 #[.pointer q, .int .i64 a] w fun e w' => e = .returned (.tuple #[.int .u64 0, .bool false]) ∧ ∃ m, w' = w.drewN m := by
  have H := Lib.hid hok
  clear hok
  go_enter Try.func11, Try.ntmps11
  go_wp2_with fail
  refine (H.out 0).mono ?_
  rintro e w1 ⟨rfl, nd, rfl⟩
  go_wp2
  go_ret2
  exact ⟨rfl, _, rfl⟩

theorem pong_no (q : Option Addr) (hok : ∀ m, Calls Try.prog 23 #[.pointer q] (w.drewN m) fun e w' => e = .returned (.bool false) ∧ ∃ n, w' = (w.drewN m).drewN n) (a b : Int) :
    Calls Try.prog 12 #[.pointer q, .int .i64 a, .int .u64 b] w fun e w' => e = .returned (.bool false) ∧ ∃ m, w' = w.drewN m := by
  have H := Lib.hid hok
  clear hok
  go_enter Try.func12, Try.ntmps12
  go_wp2_with fail
  refine (H.out 0).mono ?_
  rintro e w1 ⟨rfl, nd, rfl⟩
  go_wp2
  go_ret
  exact ⟨rfl, _, rfl⟩

theorem up_no (q : Option Addr) (hok : ∀ m, Calls Try.prog 23 #[.pointer q] (w.drewN m) fun e w' => e = .returned (.bool false) ∧ ∃ n, w' = (w.drewN m).drewN n) :
    Calls Try.prog 13 #[.pointer q] w fun e w' => e = .returned (.bool false) ∧ ∃ m, w' = w.drewN m := by
  have H := Lib.hid hok
  clear hok
  go_enter Try.func13, Try.ntmps13
  go_wp2_with fail
  refine (H.out 0).mono ?_
  rintro e w1 ⟨rfl, nd, rfl⟩
  go_wp2
  go_ret
  exact ⟨rfl, _, rfl⟩

theorem due_no (q : Option Addr) (hok : ∀ m, Calls Try.prog 23 #[.pointer q] (w.drewN m) fun e w' => e = .returned (.bool false) ∧ ∃ n, w' = (w.drewN m).drewN n) :
    Calls Try.prog 18 #[.pointer q] w fun e w' => e = .returned (.int .i64 1099511627776) ∧ ∃ m, w' = w.drewN m := by
  have H := Lib.hid hok
  clear hok
  go_enter Try.func18, Try.ntmps18
  go_wp2_with fail
  refine (H.out 0).mono ?_
  rintro e w1 ⟨rfl, nd, rfl⟩
  go_wp2
  go_ret
  exact ⟨rfl, _, rfl⟩

theorem now_no (q : Option Addr) (hok : ∀ m, Calls Try.prog 23 #[.pointer q] (w.drewN m) fun e w' => e = .returned (.bool false) ∧ ∃ n, w' = (w.drewN m).drewN n) :
    Calls Try.prog 20 #[.pointer q] w fun e w' => e = .returned (.int .i64 0) ∧ ∃ m, w' = w.drewN m := by
  have H := Lib.hid hok
  clear hok
  go_enter Try.func20, Try.ntmps20
  go_wp2_with fail
  refine (H.out 0).mono ?_
  rintro e w1 ⟨rfl, nd, rfl⟩
  go_wp2
  go_ret
  exact ⟨rfl, _, rfl⟩

theorem asked_no (q : Option Addr) (hok : ∀ m, Calls Try.prog 23 #[.pointer q] (w.drewN m) fun e w' => e = .returned (.bool false) ∧ ∃ n, w' = (w.drewN m).drewN n) :
    Calls Try.prog 14 #[.pointer q] w fun e w' => e = .returned (.int .u64 0) ∧ ∃ m, w' = w.drewN m := by
  have H := Lib.hid hok
  clear hok
  go_enter Try.func14, Try.ntmps14
  go_wp2_with fail
  refine (H.out 0).mono ?_
  rintro e w1 ⟨rfl, nd, rfl⟩
  go_wp2
  go_ret
  exact ⟨rfl, _, rfl⟩

theorem law (x0 x1 x2 : Int) :
    Calls Try.prog 6 #[.agg #[.int .u8 x0, .int .i64 x1, .int .u64 x2]] w fun e w' => e = .returned (.bool true) ∧ Below w.heap.size w w' := by
  go_enter Try.func6, Try.ntmps6
  go_wp2_with fail
  obtain ⟨B, HB⟩ : ∃ B, Hid (w.heap.size = B) := ⟨_, rfl⟩
  have b1 := ((Blk.new w #[.int .u8 x0, .int .i64 x1, .int .u64 x2] 36).alloc (.cells pz 48)).alloc (.cells #[.pointer none, .pointer (some ⟨w.heap.size + 1, 0, none⟩)] 25)
  have b2 := (Blk.new (w.alloc (.cells #[.int .u8 x0, .int .i64 x1, .int .u64 x2] 36)) pz 48).alloc (.cells #[.pointer none, .pointer (some ⟨w.heap.size + 1, 0, none⟩)] 25)
  have b3 := Blk.new ((w.alloc (.cells #[.int .u8 x0, .int .i64 x1, .int .u64 x2] 36)).alloc (.cells pz 48)) #[.pointer none, .pointer (some ⟨w.heap.size + 1, 0, none⟩)] 25
  have hbe : Below w.heap.size w (((w.alloc (.cells #[.int .u8 x0, .int .i64 x1, .int .u64 x2] 36)).alloc (.cells pz 48)).alloc (.cells #[.pointer none, .pointer (some ⟨w.heap.size + 1, 0, none⟩)] 25)) :=
    (((Below.refl _ w).alloc (Nat.le_refl _) _).alloc (by simp) _).alloc (by simp; omega) _
  have e1 : (w.alloc (.cells #[.int .u8 x0, .int .i64 x1, .int .u64 x2] 36)).heap.size = w.heap.size + 1 := by simp
  have e2 : ((w.alloc (.cells #[.int .u8 x0, .int .i64 x1, .int .u64 x2] 36)).alloc (.cells pz 48)).heap.size = w.heap.size + 1 + 1 := by simp
  rw [e1] at b2
  rw [e2] at b3
  clear e1 e2
  obtain ⟨W, HW⟩ : ∃ W, Hid ((((w.alloc (.cells #[.int .u8 x0, .int .i64 x1, .int .u64 x2] 36)).alloc (.cells pz 48)).alloc (.cells #[.pointer none, .pointer (some ⟨w.heap.size + 1, 0, none⟩)] 25)) = W) := ⟨_, rfl⟩
  have HW' := HW.out
  unfold pz at HW'
  rw [HW'] at ⊢
  rw [HW.out] at b1 b2 b3 hbe
  clear HW HW'
  rw [HB.out] at b1 b2 b3 hbe ⊢
  have B2 := Lib.hid b2
  have HBe := Lib.hid hbe
  have c1 : W.cell? ⟨B, 1, none⟩ = some (.int .i64 x1) := b1.cell 1 rfl
  have c2 : W.cell? ⟨B, 2, none⟩ = some (.int .u64 x2) := b1.cell 2 rfl
  have p0 : W.cell? ⟨B + 1 + 1, 0, none⟩ = some (.pointer none) := b3.cell 0 rfl
  have p1 : W.cell? ⟨B + 1 + 1, 1, none⟩ = some (.pointer (some ⟨B + 1, 0, none⟩)) := b3.cell 1 rfl
  clear b1 b2 b3 hbe
  go_loopw [11] (fun i wr => ∃ k : Nat, k ≤ 2 ∧ i = .int .i64 k ∧ ∃ m, wr = W.drewN m) (fun i _ => 2 - (intOf i).toNat)
  case atStart => exact ⟨0, by omega, rfl, 0, rfl⟩
  case round =>
    obtain ⟨k, hk, rfl, m, rfl⟩ := hrel
    rcases (show k = 0 ∨ k = 1 ∨ k = 2 by omega) with rfl | rfl | rfl
    · have K : Hid (∀ a n, Calls Try.prog 23 #[.pointer none] ((W.drewN a).drewN n) fun e w' => e = .returned (.bool false) ∧ ∃ m, w' = ((W.drewN a).drewN n).drewN m) := fun a n => ok_nil
      go_wp2_with fail
      refine (tick_no none (fun n => by exact K.out _ _) _).mono ?_
      rintro e w1 ⟨rfl, n0, rfl⟩
      go_wp2_with fail
      refine (pong_no none (fun n => by exact K.out _ _) _ _).mono ?_
      rintro e w1 ⟨rfl, n1, rfl⟩
      go_wp2_with fail
      refine (up_no none (fun n => by exact K.out _ _)).mono ?_
      rintro e w1 ⟨rfl, n2, rfl⟩
      go_wp2_with fail
      refine (due_no none (fun n => by exact K.out _ _)).mono ?_
      rintro e w1 ⟨rfl, n3, rfl⟩
      go_wp2_with fail
      refine (now_no none (fun n => by exact K.out _ _)).mono ?_
      rintro e w1 ⟨rfl, n4, rfl⟩
      go_wp2_with fail
      refine (asked_no none (fun n => by exact K.out _ _)).mono ?_
      rintro e w1 ⟨rfl, n5, rfl⟩
      go_wp2
      go_roundw
      case rel => exact ⟨1, by omega, rfl, _, rfl⟩
      case measure => simp [intOf]
    · have K : Hid (∀ a n, Calls Try.prog 23 #[.pointer (some ⟨B + 1, 0, none⟩)] ((W.drewN a).drewN n) fun e w' => e = .returned (.bool false) ∧ ∃ m, w' = ((W.drewN a).drewN n).drewN m) := fun a n => ok_zero (wt := 0) (ms := 0) (ht := 0) (p := ⟨0, 0, 0, 0, 0, 0, false⟩) (show Blk _ _ _ _ from B2.out)
      go_wp2_with fail
      refine (tick_no (some ⟨B + 1, 0, none⟩) (fun n => by exact K.out _ _) _).mono ?_
      rintro e w1 ⟨rfl, n0, rfl⟩
      go_wp2_with fail
      refine (pong_no (some ⟨B + 1, 0, none⟩) (fun n => by exact K.out _ _) _ _).mono ?_
      rintro e w1 ⟨rfl, n1, rfl⟩
      go_wp2_with fail
      refine (up_no (some ⟨B + 1, 0, none⟩) (fun n => by exact K.out _ _)).mono ?_
      rintro e w1 ⟨rfl, n2, rfl⟩
      go_wp2_with fail
      refine (due_no (some ⟨B + 1, 0, none⟩) (fun n => by exact K.out _ _)).mono ?_
      rintro e w1 ⟨rfl, n3, rfl⟩
      go_wp2_with fail
      refine (now_no (some ⟨B + 1, 0, none⟩) (fun n => by exact K.out _ _)).mono ?_
      rintro e w1 ⟨rfl, n4, rfl⟩
      go_wp2_with fail
      refine (asked_no (some ⟨B + 1, 0, none⟩) (fun n => by exact K.out _ _)).mono ?_
      rintro e w1 ⟨rfl, n5, rfl⟩
      go_wp2
      go_roundw
      case rel => exact ⟨2, by omega, rfl, _, rfl⟩
      case measure => simp [intOf]
    · go_wp2_with fail
      refine PrA.alive_any.mono ?_
      rintro e w1 ⟨rfl, hb⟩
      go_wp2
      go_ret
      refine ⟨rfl, ?_⟩
      rw [HB.out]
      have hs := HBe.out.size
      rw [HB.out] at hs
      exact (below_drewN HBe.out m).trans (hb.mono hs)

theorem entry (W : World) (v0 : Value) (g0 : Arg W (.struct (.cons (.int .u8) (.cons (.int .i64) (.cons (.int .u64) .none)))) v0) :
    Calls Try.prog 6 #[v0] W fun e w' => e = .returned (.bool true) ∧ Below W.heap.size W w' := by
  obtain ⟨cs, rfl, hl, hr⟩ := g0
  simp only [Sh.size] at hl
  match cs, hl, hr with
  | [c0, c1, c2], _, hr =>
    simp only [Reads, Sh.size, List.take_succ_cons, List.take_zero, List.drop_succ_cons, List.drop_zero, List.cons.injEq, and_true] at hr
    obtain ⟨⟨x0, rfl, _⟩, ⟨x1, rfl, _⟩, ⟨x2, rfl, _⟩⟩ := hr
    exact law x0 x1 x2
end
end Go.Proofs.Ytandaanfdpedhaa.PrO
