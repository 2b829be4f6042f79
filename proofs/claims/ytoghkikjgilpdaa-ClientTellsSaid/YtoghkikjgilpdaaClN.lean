/-
  ClientTells, its first part: a client that nobody made does nothing.
-/
import Derived.Test.YtoghkikjgilpdaaClB
namespace Go.Proofs.Ytoghkikjgilpdaa.ClN
open Go.RowKit Go.Proofs.Ytoghkikjgilpdaa.Kit Go.Proofs.Ytoghkikjgilpdaa.ClW
attribute [local go_sem high] max_imax min_imin
set_option linter.unusedVariables false
section
variable {w : World}

def zc : Array Value := #[.int .u64 0, .int .u64 0, .int .u64 0, .slice none 0 0, .int .i64 0, .int .i64 0, .slice none 0 0, .int .i64 0, .bool false, .bool false, .int .i64 0, .int .i64 0]
theorem ok_zero {g : Nat} (hb : Blk w g 58 zc) : Calls Try.prog 26 #[.pointer (some ⟨g, 0, none⟩)] w fun e w' => e = .returned (.bool false) ∧ ∃ m, w' = w.drewN m := by
  have hu := Try.underlying24
  have c5 : w.cell? ⟨g, 5, none⟩ = some (.int .i64 0) := hb.cell 5 rfl
  clear hb
  go_enter Try.func26, Try.ntmps26
  go_wp2
  go_ret
  exact ⟨rfl, 0, rfl⟩

def NoOk (q : Option Addr) (w : World) : Prop := Calls Try.prog 26 #[.pointer q] w fun e w' => e = .returned (.bool false) ∧ ∃ m, w' = w.drewN m
theorem ended_nob (q : Option Addr) (hok : NoOk q w) :
    Calls Try.prog 14 #[.pointer q] w fun e w' => e = .returned (.tuple #[.int .i64 0, .bool false]) ∧ ∃ m, w' = w.drewN m := by
  have H := Lib.hid hok
  clear hok
  go_enter Try.func14, Try.ntmps14
  go_wp2_with fail
  refine H.out.mono ?_
  rintro e w1 ⟨rfl, nd, rfl⟩
  go_wp2
  go_ret2
  exact ⟨rfl, _, rfl⟩

theorem tick_nob (q : Option Addr) (hok : NoOk q w) (t : Int) :
    Calls Try.prog 16 #[.pointer q, .int .i64 t] w fun e w' => e = .returned (.slice none 0 0) ∧ ∃ m, w' = w.drewN m := by
  have H := Lib.hid hok
  clear hok
  go_enter Try.func16, Try.ntmps16
  go_wp2_with fail
  refine H.out.mono ?_
  rintro e w1 ⟨rfl, nd, rfl⟩
  go_wp2
  go_ret
  exact ⟨rfl, _, rfl⟩

theorem cancel_nob (q : Option Addr) (hok : NoOk q w) (t : Int) :
    Calls Try.prog 19 #[.pointer q, .int .i64 t] w fun e w' => e = .returned (.slice none 0 0) ∧ ∃ m, w' = w.drewN m := by
  have H := Lib.hid hok
  clear hok
  go_enter Try.func19, Try.ntmps19
  go_wp2_with fail
  refine H.out.mono ?_
  rintro e w1 ⟨rfl, nd, rfl⟩
  go_wp2
  go_ret
  exact ⟨rfl, _, rfl⟩

theorem tokens_nob (q : Option Addr) (hok : NoOk q w) :
    Calls Try.prog 11 #[.pointer q] w fun e w' => e = .returned (.slice none 0 0) ∧ ∃ m, w' = w.drewN m := by
  have H := Lib.hid hok
  clear hok
  go_enter Try.func11, Try.ntmps11
  go_wp2_with fail
  refine H.out.mono ?_
  rintro e w1 ⟨rfl, nd, rfl⟩
  go_wp2
  go_ret
  exact ⟨rfl, _, rfl⟩

theorem cancelled_nob (q : Option Addr) (hok : NoOk q w) :
    Calls Try.prog 22 #[.pointer q] w fun e w' => e = .returned (.bool false) ∧ ∃ m, w' = w.drewN m := by
  have H := Lib.hid hok
  clear hok
  go_enter Try.func22, Try.ntmps22
  go_wp2_with fail
  refine H.out.mono ?_
  rintro e w1 ⟨rfl, nd, rfl⟩
  go_wp2
  go_ret
  exact ⟨rfl, _, rfl⟩

theorem due_nob (q : Option Addr) (hok : NoOk q w) :
    Calls Try.prog 23 #[.pointer q] w fun e w' => e = .returned (.int .i64 1099511627776) ∧ ∃ m, w' = w.drewN m := by
  have H := Lib.hid hok
  clear hok
  go_enter Try.func23, Try.ntmps23
  go_wp2_with fail
  refine H.out.mono ?_
  rintro e w1 ⟨rfl, nd, rfl⟩
  go_wp2
  go_ret
  exact ⟨rfl, _, rfl⟩

theorem now_nob (q : Option Addr) (hok : NoOk q w) :
    Calls Try.prog 24 #[.pointer q] w fun e w' => e = .returned (.int .i64 0) ∧ ∃ m, w' = w.drewN m := by
  have H := Lib.hid hok
  clear hok
  go_enter Try.func24, Try.ntmps24
  go_wp2_with fail
  refine H.out.mono ?_
  rintro e w1 ⟨rfl, nd, rfl⟩
  go_wp2
  go_ret
  exact ⟨rfl, _, rfl⟩

theorem arrive_nob (q : Option Addr) (m : M) (hok : NoOk q (w.alloc (.cells (mc m) 39))) (t : Int) :
    Calls Try.prog 10 #[.pointer q, .int .i64 t, .agg (mc m)] w fun e w' => e = .returned (.slice none 0 0) ∧ Below w.heap.size w w' := by
  have H := Lib.hid hok
  have HB := Lib.hid ((Below.refl w.heap.size w).alloc (Nat.le_refl _) (.cells (mc m) 39))
  clear hok
  obtain ⟨kind, stream, session, attempt, inc, n, count, why, js, ja, jn, jc, jm, la, ln, lc⟩ := m
  unfold mc at H HB ⊢
  simp only at H HB ⊢
  go_enter Try.func10, Try.ntmps10
  go_wp2_with fail
  refine H.out.mono ?_
  rintro e w1 ⟨rfl, nd, rfl⟩
  go_wp2
  go_ret
  exact ⟨rfl, below_drewN HB.out nd⟩
end
end Go.Proofs.Ytoghkikjgilpdaa.ClN
