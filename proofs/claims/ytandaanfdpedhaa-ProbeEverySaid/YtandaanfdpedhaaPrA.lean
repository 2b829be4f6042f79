/-
  The walk over alive.
-/
import Derived.Test.YtandaanfdpedhaaPrN
namespace Go.Proofs.Ytandaanfdpedhaa.PrA
open Go.RowKit Go.Proofs.Ytandaanfdpedhaa.Kit Go.Proofs.Ytandaanfdpedhaa.PrP Go.Proofs.Ytandaanfdpedhaa.PrW Go.Proofs.Ytandaanfdpedhaa.PrT Go.Proofs.Ytandaanfdpedhaa.PrN
attribute [local go_sem high] max_imax min_imin
set_option linter.unusedVariables false
section
variable {w : World}

theorem e1 : later 1 p0 0 = p0 := rfl
theorem e2 : PrP.ask 10 5 1 p0 = ⟨0, 10, 1, 5, 0, 0, false⟩ := rfl
theorem e3 : later 1 ⟨0, 10, 1, 5, 0, 0, false⟩ 4 = ⟨4, 10, 1, 5, 0, 0, false⟩ := rfl
theorem e4 : came 1 ⟨4, 10, 1, 5, 0, 0, false⟩ = ⟨4, 10, 1, -1, 0, 0, true⟩ := rfl
theorem e5 : later 1 ⟨4, 10, 1, -1, 0, 0, true⟩ 4 = ⟨4, 10, 1, -1, 0, 0, true⟩ := rfl

theorem alive_any : Calls Try.prog 9 #[] w fun e w' => e = .returned (.bool true) ∧ Below w.heap.size w w' := by
  have hu := Try.underlying25
  go_enter Try.func9, Try.ntmps9
  go_wp2_with fail
  refine (new_yes (by unfold May; omega)).mono ?_
  rintro e w1 ⟨g, rfl, hg, hb, hbe⟩
  have HB := Lib.hid hb
  have HBe := Lib.hid hbe
  have HG := Lib.hid hg
  clear hb hbe hg
  go_wp2_with fail
  refine (tick_yes HB.out (by constructor <;> decide) (by omega) (by omega) (by omega) (by omega) (by omega) (by omega) (by omega) (by decide) 0 (by decide)).mono ?_
  rintro e w2 ⟨rfl, hb2, hc2⟩
  have HB2 := Lib.hid (show Blk w2 g 48 (pc 10 5 1 1 ⟨0, 10, 1, 5, 0, 0, false⟩) from hb2)
  have HC2 := Lib.hid hc2
  clear hb2 hc2
  rw [show p0.asked + 1 = 1 from rfl]
  go_wp2_with fail
  refine (pong_yes HB2.out (by constructor <;> decide) (by omega) (by omega) (by omega) (by omega) (by omega) 4 1 (by decide)).mono ?_
  rintro e w3 ⟨rfl, hb3, hc3⟩
  have HB3 := Lib.hid (show Blk w3 g 48 (pc 10 5 1 1 ⟨4, 10, 1, -1, 0, 0, true⟩) from hb3)
  have HC3 := Lib.hid (HC2.out.then hc3 (fun i _ hi => hi))
  clear hb3 hc3
  go_wp2_with fail
  refine (pong_no HB3.out (by constructor <;> decide) (by omega) (by omega) (by omega) (by omega) (by omega) 4 1 (.inl (by decide))).mono ?_
  rintro e w4 ⟨rfl, hb4, hc4⟩
  have HB4 := Lib.hid (show Blk w4 g 48 (pc 10 5 1 1 ⟨4, 10, 1, -1, 0, 0, true⟩) from hb4)
  have HC4 := Lib.hid (HC3.out.then hc4 (fun i _ hi => hi))
  clear hb4 hc4
  go_wp2_with fail
  refine (up_any HB4.out (by omega)).mono ?_
  rintro e w5 ⟨rfl, nd, rfl⟩
  go_wp2
  go_ret
  exact ⟨rfl, below_drewN (HC4.out.below HBe.out (by have := HBe.out.size; omega) (fun k hk => by have := HG.out; omega)) _⟩
end
end Go.Proofs.Ytandaanfdpedhaa.PrA
