/-
  Walks over what makes a scaler, and the small functions of the laws.
-/
import Derived.Test.YtnefniinnjolbaaScS
import Derived.Test.YtnefniinnjolbaaScT
namespace Go.Proofs.Ytnefniinnjolbaa.ScN
open Go.RowKit Go.Proofs.Ytnefniinnjolbaa.Kit Go.Proofs.Ytnefniinnjolbaa.ScP
open Go.Proofs.Ytnefniinnjolbaa.ScW (sc)
attribute [local go_sem high] max_imax min_imin
set_option linter.unusedVariables false

/-- May a setting be? -/
def May (mn mx per sl uw dw : Int) : Prop :=
  (0 ≤ mn ∧ mn ≤ mx ∧ 1 ≤ mx ∧ mx ≤ 8) ∧ 1 ≤ per ∧ per ≤ 1000 ∧ 0 ≤ sl ∧ sl ≤ 99 ∧ 0 ≤ uw ∧ uw ≤ 4294967296 ∧ 0 ≤ dw ∧ dw ≤ 4294967296

/-- The cells of a setting. -/
def st (mn mx per sl uw dw : Int) : Array Value := #[.int .i64 mn, .int .i64 mx, .int .i64 per, .int .i64 sl, .int .i64 uw, .int .i64 dw]

section
variable {mn mx per sl uw dw : Int} {w : World}

set_option maxHeartbeats 4000000 in
theorem new_yes (h : May mn mx per sl uw dw) :
    Calls Try.prog 7 #[.agg #[.int .i64 mn, .int .i64 mx, .int .i64 per, .int .i64 sl, .int .i64 uw, .int .i64 dw]] w fun e w' =>
      ∃ g, e = .returned (.tuple #[.pointer (some ⟨g, 0, none⟩), .int .i64 0]) ∧ w.heap.size ≤ g ∧ Blk w' g 49 (sc mn mx per sl uw dw 0 (-1) (-1)) ∧ Below w.heap.size w w' := by
  obtain ⟨hb, h1, h2, h3, h4, h5, h6, h7, h8⟩ := h
  have HB := Lib.hid hb
  clear hb
  go_enter Try.func7, Try.ntmps7
  go_wp2_with fail
  refine (ScW.bounded_any mn mx _).mono ?_
  rintro e w1 ⟨rfl, nd, rfl⟩
  rw [decide_eq_true HB.out]
  go_wp2
  go_ret2
  refine ⟨w.heap.size + 1, rfl, by omega, ?_, ?_⟩
  · have h := Blk.new ((w.alloc (.cells (st mn mx per sl uw dw) 28)).drewN nd) (sc mn mx per sl uw dw 0 (-1) (-1)) 49
    have h2 : ((w.alloc (.cells (st mn mx per sl uw dw) 28)).drewN nd).heap.size = w.heap.size + 1 := by simp
    rw [h2] at h
    exact h
  · have h := (below_drewN ((Below.refl w.heap.size w).alloc (Nat.le_refl _) (.cells (st mn mx per sl uw dw) 28)) nd).alloc (by simp) (.cells (sc mn mx per sl uw dw 0 (-1) (-1)) 49)
    exact h

set_option maxHeartbeats 4000000 in
theorem new_no (h : ¬ May mn mx per sl uw dw) :
    Calls Try.prog 7 #[.agg #[.int .i64 mn, .int .i64 mx, .int .i64 per, .int .i64 sl, .int .i64 uw, .int .i64 dw]] w fun e w' =>
      e = .returned (.tuple #[.pointer none, .int .i64 1]) ∧ Below w.heap.size w w' := by
  have HN := Lib.hid h
  clear h
  go_enter Try.func7, Try.ntmps7
  go_upto_region 1 with (fail)
  go_cut [4] (fun v wx => v = .bool (decide (0 ≤ uw ∧ uw ≤ 4294967296 ∧ 0 ≤ dw ∧ dw ≤ 4294967296)) ∧ wx = w.alloc (.cells (st mn mx per sl uw dw) 28))
  case first =>
    go_wp2
    all_goals
      go_meet
      refine ⟨congrArg Value.bool ?_, rfl⟩
      first
        | (rw [decide_eq_decide]; omega)
        | (symm; rw [decide_eq_false_iff_not]; omega)
  case rest =>
    obtain ⟨rfl, rfl⟩ := hcut
    have hbel : Below w.heap.size w (w.alloc (.cells (st mn mx per sl uw dw) 28)) := (Below.refl _ w).alloc (Nat.le_refl _) _
    have HBe := Lib.hid hbel
    have hblk := Blk.new w (st mn mx per sl uw dw) 28
    obtain ⟨w1, HW1⟩ : ∃ w1, Hid (w.alloc (.cells (st mn mx per sl uw dw) 28) = w1) := ⟨_, rfl⟩
    rw [HW1.out] at HBe hblk ⊢
    clear hbel
    obtain ⟨g0, HG⟩ : ∃ g0, Hid (w.heap.size = g0) := ⟨_, rfl⟩
    rw [HG.out] at hblk HBe ⊢
    have c0 : w1.cell? ⟨g0, 0, none⟩ = some (.int .i64 mn) := hblk.cell 0 rfl
    have c1 : w1.cell? ⟨g0, 1, none⟩ = some (.int .i64 mx) := hblk.cell 1 rfl
    have c2 : w1.cell? ⟨g0, 2, none⟩ = some (.int .i64 per) := hblk.cell 2 rfl
    have c3 : w1.cell? ⟨g0, 3, none⟩ = some (.int .i64 sl) := hblk.cell 3 rfl
    clear hblk
    obtain ⟨wb, HWB⟩ : ∃ wb, Hid (decide (0 ≤ uw ∧ uw ≤ 4294967296 ∧ 0 ≤ dw ∧ dw ≤ 4294967296) = wb) := ⟨_, rfl⟩
    rw [HWB.out]
    go_wp2_with fail
    refine (ScW.bounded_any mn mx _).mono ?_
    rintro e w2 ⟨rfl, nd, rfl⟩
    obtain ⟨bb, HBB⟩ : ∃ bb, Hid (decide (0 ≤ mn ∧ mn ≤ mx ∧ 1 ≤ mx ∧ mx ≤ 8) = bb) := ⟨_, rfl⟩
    rw [HBB.out]
    cases wb <;> cases bb
    all_goals
      go_wp2
    all_goals first
      | (exfalso; refine HN.out ?_; unfold May; have h1 := of_decide_eq_true HWB.out; have h2 := of_decide_eq_true HBB.out; omega)
      | (go_ret2; exact ⟨rfl, by rw [HG.out]; exact below_drewN HBe.out nd⟩)
end
end Go.Proofs.Ytnefniinnjolbaa.ScN
