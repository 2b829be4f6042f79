/-
  Walks over New, and the small functions of the prober's laws.
-/
import Derived.Test.YtandaanfdpedhaaPrT
namespace Go.Proofs.Ytandaanfdpedhaa.PrN
open Go.RowKit Go.Proofs.Ytandaanfdpedhaa.Kit Go.Proofs.Ytandaanfdpedhaa.PrP Go.Proofs.Ytandaanfdpedhaa.PrW Go.Proofs.Ytandaanfdpedhaa.PrT
attribute [local go_sem high] max_imax min_imin
set_option linter.unusedVariables false

/-- May a setting be? -/
def May (ev wt ms ht : Int) : Prop := (1 ≤ ev ∧ ev ≤ 4294967296) ∧ (1 ≤ wt ∧ wt ≤ ev) ∧ (1 ≤ ms ∧ ms ≤ 100) ∧ (1 ≤ ht ∧ ht ≤ 100)
def st (ev wt ms ht : Int) : Array Value := #[.int .i64 ev, .int .i64 wt, .int .i64 ms, .int .i64 ht]
/-- A prober's beginning. -/
def p0 : Pb := ⟨0, 0, 0, -1, 0, 0, false⟩

section
variable {ev wt ms ht : Int} {w : World}

theorem theirs_any : Calls Try.prog 8 #[.agg #[.int .i64 ev, .int .i64 wt, .int .i64 ms, .int .i64 ht]] w fun e w' =>
    e = .returned (.agg #[.int .i64 ev, .int .i64 wt, .int .i64 ms, .int .i64 ht]) ∧ Below w.heap.size w w' := by
  go_enter Try.func8, Try.ntmps8
  go_wp2
  exact bodyPost_ret (v := .agg #[.int .i64 ev, .int .i64 wt, .int .i64 ms, .int .i64 ht]) (by simp [results, Try.results8, go_sem]) rfl
    ⟨rfl, ((Below.refl _ _).alloc (Nat.le_refl _) _).alloc (by simp) _⟩

theorem new_yes (h : May ev wt ms ht) :
    Calls Try.prog 7 #[.agg #[.int .i64 ev, .int .i64 wt, .int .i64 ms, .int .i64 ht]] w fun e w' =>
      ∃ g, e = .returned (.tuple #[.pointer (some ⟨g, 0, none⟩), .int .i64 0]) ∧ w.heap.size ≤ g ∧ Blk w' g 48 (pc ev wt ms ht p0) ∧ Below w.heap.size w w' := by
  have H1 := Lib.hid h.1
  have H2 := Lib.hid h.2.1
  have H3 := Lib.hid h.2.2.1
  have H4 := Lib.hid h.2.2.2
  clear h
  go_enter Try.func7, Try.ntmps7
  go_wp2_with fail
  refine (between_any ev 1 4294967296 _).mono ?_
  rintro e w1 ⟨rfl, n1, rfl⟩
  rw [decide_eq_true H1.out]
  go_wp2_with fail
  refine (between_any wt 1 ev _).mono ?_
  rintro e w1 ⟨rfl, n2, rfl⟩
  rw [decide_eq_true H2.out]
  go_wp2_with fail
  refine (betweeni_any ms 1 100 _).mono ?_
  rintro e w1 ⟨rfl, n3, rfl⟩
  rw [decide_eq_true H3.out]
  go_wp2_with fail
  refine (betweeni_any ht 1 100 _).mono ?_
  rintro e w1 ⟨rfl, n4, rfl⟩
  rw [decide_eq_true H4.out]
  go_wp2
  go_ret2
  refine ⟨w.heap.size + 1, rfl, by omega, ?_, ?_⟩
  · have h := Blk.new ((w.alloc (.cells (st ev wt ms ht) 29)).drewN (n1 + n2 + n3 + n4)) (pc ev wt ms ht p0) 48
    have h2 : ((w.alloc (.cells (st ev wt ms ht) 29)).drewN (n1 + n2 + n3 + n4)).heap.size = w.heap.size + 1 := by simp
    rw [h2] at h
    exact h
  · have h := (below_drewN ((Below.refl w.heap.size w).alloc (Nat.le_refl _) (.cells (st ev wt ms ht) 29)) (n1 + n2 + n3 + n4)).alloc (by simp) (.cells (pc ev wt ms ht p0) 48)
    exact h

theorem new_no (h : ¬ May ev wt ms ht) :
    Calls Try.prog 7 #[.agg #[.int .i64 ev, .int .i64 wt, .int .i64 ms, .int .i64 ht]] w fun e w' =>
      e = .returned (.tuple #[.pointer none, .int .i64 1]) ∧ Below w.heap.size w w' := by
  by_cases h1 : 1 ≤ ev ∧ ev ≤ 4294967296
  · have H1 := Lib.hid h1
    by_cases h2 : 1 ≤ wt ∧ wt ≤ ev
    · have H2 := Lib.hid h2
      by_cases h3 : 1 ≤ ms ∧ ms ≤ 100
      · have H3 := Lib.hid h3
        by_cases h4 : 1 ≤ ht ∧ ht ≤ 100
        · exact absurd ⟨h1, h2, h3, h4⟩ h
        · have H4 := Lib.hid h4
          clear h h1 h2 h3 h4
          go_enter Try.func7, Try.ntmps7
          go_wp2_with fail
          refine (between_any ev 1 4294967296 _).mono ?_
          rintro e w1 ⟨rfl, n1, rfl⟩
          rw [decide_eq_true H1.out]
          go_wp2_with fail
          refine (between_any wt 1 ev _).mono ?_
          rintro e w1 ⟨rfl, n2, rfl⟩
          rw [decide_eq_true H2.out]
          go_wp2_with fail
          refine (betweeni_any ms 1 100 _).mono ?_
          rintro e w1 ⟨rfl, n3, rfl⟩
          rw [decide_eq_true H3.out]
          go_wp2_with fail
          refine (betweeni_any ht 1 100 _).mono ?_
          rintro e w1 ⟨rfl, n4, rfl⟩
          rw [decide_eq_false H4.out]
          go_wp2
          go_ret2
          exact ⟨rfl, below_drewN ((Below.refl _ w).alloc (Nat.le_refl _) (.cells (st ev wt ms ht) 29)) _⟩
      · have H3 := Lib.hid h3
        clear h h1 h2 h3
        go_enter Try.func7, Try.ntmps7
        go_wp2_with fail
        refine (between_any ev 1 4294967296 _).mono ?_
        rintro e w1 ⟨rfl, n1, rfl⟩
        rw [decide_eq_true H1.out]
        go_wp2_with fail
        refine (between_any wt 1 ev _).mono ?_
        rintro e w1 ⟨rfl, n2, rfl⟩
        rw [decide_eq_true H2.out]
        go_wp2_with fail
        refine (betweeni_any ms 1 100 _).mono ?_
        rintro e w1 ⟨rfl, n3, rfl⟩
        rw [decide_eq_false H3.out]
        go_wp2
        go_ret2
        exact ⟨rfl, below_drewN ((Below.refl _ w).alloc (Nat.le_refl _) (.cells (st ev wt ms ht) 29)) _⟩
    · have H2 := Lib.hid h2
      clear h h1 h2
      go_enter Try.func7, Try.ntmps7
      go_wp2_with fail
      refine (between_any ev 1 4294967296 _).mono ?_
      rintro e w1 ⟨rfl, n1, rfl⟩
      rw [decide_eq_true H1.out]
      go_wp2_with fail
      refine (between_any wt 1 ev _).mono ?_
      rintro e w1 ⟨rfl, n2, rfl⟩
      rw [decide_eq_false H2.out]
      go_wp2
      go_ret2
      exact ⟨rfl, below_drewN ((Below.refl _ w).alloc (Nat.le_refl _) (.cells (st ev wt ms ht) 29)) _⟩
  · have H1 := Lib.hid h1
    clear h h1
    go_enter Try.func7, Try.ntmps7
    go_wp2_with fail
    refine (between_any ev 1 4294967296 _).mono ?_
    rintro e w1 ⟨rfl, n1, rfl⟩
    rw [decide_eq_false H1.out]
    go_wp2
    go_ret2
    exact ⟨rfl, below_drewN ((Below.refl _ w).alloc (Nat.le_refl _) (.cells (st ev wt ms ht) 29)) _⟩
end
end Go.Proofs.Ytandaanfdpedhaa.PrN
