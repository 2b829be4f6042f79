/-
  The walk over the document's May.
-/
import Derived.Test.YtandaanfdpedhaaPrN
namespace Go.Proofs.Ytandaanfdpedhaa.PrM
open Go.RowKit Go.Proofs.Ytandaanfdpedhaa.Kit Go.Proofs.Ytandaanfdpedhaa.PrN
attribute [local go_sem high] max_imax min_imin
set_option linter.unusedVariables false
section
variable {ev wt ms ht : Int} {w : World}

theorem may_yes (h : May ev wt ms ht) : Calls Try.prog 15 #[.agg #[.int .i64 ev, .int .i64 wt, .int .i64 ms, .int .i64 ht]] w fun e w' => e = .returned (.bool true) ∧ Below w.heap.size w w' := by
  obtain ⟨⟨h1, h2⟩, ⟨h3, h4⟩, ⟨h5, h6⟩, ⟨h7, h8⟩⟩ := h
  go_enter Try.func15, Try.ntmps15
  go_wp2
  go_ret
  exact ⟨rfl, (Below.refl _ w).alloc (Nat.le_refl _) _⟩

theorem may_no (h : ¬ May ev wt ms ht) : Calls Try.prog 15 #[.agg #[.int .i64 ev, .int .i64 wt, .int .i64 ms, .int .i64 ht]] w fun e w' => e = .returned (.bool false) ∧ Below w.heap.size w w' := by
  by_cases h1 : 1 ≤ ev
  case neg =>
    clear h
    go_enter Try.func15, Try.ntmps15
    go_wp2
    go_ret
    exact ⟨rfl, (Below.refl _ w).alloc (Nat.le_refl _) _⟩
  by_cases h2 : ev ≤ 4294967296
  case neg =>
    clear h
    go_enter Try.func15, Try.ntmps15
    go_wp2
    go_ret
    exact ⟨rfl, (Below.refl _ w).alloc (Nat.le_refl _) _⟩
  by_cases h3 : 1 ≤ wt
  case neg =>
    clear h
    go_enter Try.func15, Try.ntmps15
    go_wp2
    go_ret
    exact ⟨rfl, (Below.refl _ w).alloc (Nat.le_refl _) _⟩
  by_cases h4 : wt ≤ ev
  case neg =>
    clear h
    go_enter Try.func15, Try.ntmps15
    go_wp2
    go_ret
    exact ⟨rfl, (Below.refl _ w).alloc (Nat.le_refl _) _⟩
  by_cases h5 : 1 ≤ ms
  case neg =>
    clear h
    go_enter Try.func15, Try.ntmps15
    go_wp2
    go_ret
    exact ⟨rfl, (Below.refl _ w).alloc (Nat.le_refl _) _⟩
  by_cases h6 : ms ≤ 100
  case neg =>
    clear h
    go_enter Try.func15, Try.ntmps15
    go_wp2
    go_ret
    exact ⟨rfl, (Below.refl _ w).alloc (Nat.le_refl _) _⟩
  by_cases h7 : 1 ≤ ht
  case neg =>
    clear h
    go_enter Try.func15, Try.ntmps15
    go_wp2
    go_ret
    exact ⟨rfl, (Below.refl _ w).alloc (Nat.le_refl _) _⟩
  by_cases h8 : ht ≤ 100
  case neg =>
    clear h
    go_enter Try.func15, Try.ntmps15
    go_wp2
    go_ret
    exact ⟨rfl, (Below.refl _ w).alloc (Nat.le_refl _) _⟩
  exact absurd ⟨⟨h1, h2⟩, ⟨h3, h4⟩, ⟨h5, h6⟩, ⟨h7, h8⟩⟩ h
end
end Go.Proofs.Ytandaanfdpedhaa.PrM
