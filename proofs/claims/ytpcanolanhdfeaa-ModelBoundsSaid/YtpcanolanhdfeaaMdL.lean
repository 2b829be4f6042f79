/-
  Walks over the statements' own functions: same, rows, alive.
-/
import Derived.Test.YtpcanolanhdfeaaMdV
namespace Go.Proofs.Ytpcanolanhdfeaa.MdL
open Go.RowKit Go.Proofs.Ytpcanolanhdfeaa.Kit Go.Proofs.Ytpcanolanhdfeaa.Math Go.Proofs.Ytpcanolanhdfeaa.MdR Go.Proofs.Ytpcanolanhdfeaa.MdW Go.Proofs.Ytpcanolanhdfeaa.MdT Go.Proofs.Ytpcanolanhdfeaa.MdM Go.Proofs.Ytpcanolanhdfeaa.MdN Go.Proofs.Ytpcanolanhdfeaa.MdV
attribute [local go_sem high] max_imax min_imin
attribute [local go_sem ↓] Go.wp_at_zero Go.wp_at_succ
set_option linter.unusedVariables false

section
variable {w : World}
theorem rd_len {a : Option Addr} {n c : Nat} {ll : List Int} (h : Rd w 1 a n c (ints ll)) : n = ll.length := by
  have := h.len
  simpa [ints] using this.symm

def Yes (w : World) (e : Ending) (w' : World) : Prop := e = .returned (.bool true) ∧ ∃ m, w' = w.drewN m
theorem same_yes {a b : Option Addr} {n c m d : Nat} {l : List Int} (h1 : Rd w 1 a n c (ints l)) (h2 : Rd w 1 b m d (ints l)) :
    Calls Try.prog 8 #[.slice a n c, .slice b m d] w (Yes w) := by
  have e1 := rd_len h1
  have e2 := rd_len h2
  obtain rfl : n = m := by omega
  have hb1 : n ≤ maxLen := Nat.le_trans h1.cap h1.max
  unfold maxLen at hb1
  have R1 := Lib.hid h1
  have R2 := Lib.hid h2
  clear e1 e2 h1 h2
  go_enter Try.func8, Try.ntmps8
  go_wp2_with fail
  go_loopw [13] (fun i wr => ∃ k : Nat, k ≤ n ∧ i = .int .i64 k ∧ ∃ m, wr = w.drewN m) (fun i _ => n - (intOf i).toNat)
  case atStart => exact ⟨0, Nat.zero_le _, rfl, 0, rfl⟩
  case round =>
    obtain ⟨k, hk, rfl, mm, rfl⟩ := hrel
    by_cases hlt : k < n
    · obtain ⟨b1, o1, u1, rfl, hx1, hc1⟩ := R1.out.get hlt
      obtain ⟨b2, o2, u2, rfl, hx2, hc2⟩ := R2.out.get hlt
      obtain ⟨x1, hl1, rfl⟩ := ints_get hx1
      rw [hx1] at hx2
      injection hx2 with hx2
      subst hx2
      have q1 : (w.drewN mm).cell? ⟨b1, o1 + k, none⟩ = some (.int .i64 x1) := hc1
      have q2 : (w.drewN mm).cell? ⟨b2, o2 + k, none⟩ = some (.int .i64 x1) := hc2
      have i0 : (0 : Int) ≤ (k : Int) := by omega
      have i1 : (k : Int) < (n : Int) := by omega
      clear hx1 hl1
      go_upto_region 6 with (fail)
      go_big_quiet (fail)
      go_wp2
      go_roundw
      case rel => exact ⟨k + 1, by omega, by go_num, _, rfl⟩
      case measure => simp [intOf]; omega
    · go_wp2
      go_ret
      exact ⟨rfl, mm, rfl⟩

/-- A table that is told, at a later world. -/
def Tl (w : World) (n dim : Nat) (f : Nat → List Int) (a : Option Addr) (k : Nat) : Prop := ∃ B L, L.length = n ∧ Own w B 32 1 a n k (sl dim L) ∧ Tb w B dim L f
theorem Tl.below {w w' : World} {n dim : Nat} {f : Nat → List Int} {a : Option Addr} {k : Nat} (h : Tl w n dim f a k) (hb : Below w.heap.size w w') : Tl w' n dim f a k := by
  obtain ⟨B, L, h1, h2, h3⟩ := h
  exact ⟨B, L, h1, h2.chg (Chg.of_below hb (fun _ => False)) (fun _ _ => id), h3.chg (Chg.of_below hb (fun _ => False)) (fun _ _ _ _ => id)⟩
theorem Tl.row {n dim : Nat} {f : Nat → List Int} {a : Option Addr} {k : Nat} (h : Tl w n dim f a k) {r : Nat} (hr : r < n) : ∃ (g : Nat) (q : Option Addr × Nat), a = some ⟨g, 0, none⟩ ∧ w.cell? ⟨g, r, none⟩ = some (.slice q.1 dim q.2) ∧ Rd w 1 q.1 dim q.2 (ints (f r)) := by
  obtain ⟨B, L, h1, h2, h3⟩ := h
  obtain ⟨q, hq⟩ : ∃ q, L[r]? = some q := ⟨_, List.getElem?_eq_getElem (by omega)⟩
  obtain ⟨gT, e, hc⟩ := own_cell h2 (sl_get hq)
  exact ⟨gT, q, e, hc, (h3 r q hq).rd⟩
theorem Tl.max {n dim : Nat} {f : Nat → List Int} {a : Option Addr} {k : Nat} (h : Tl w n dim f a k) : n ≤ maxLen := by
  obtain ⟨B, L, h1, h2, h3⟩ := h
  exact Nat.le_trans h2.rd.cap h2.rd.max

theorem rows_same {a b : Option Addr} {n dim c d : Nat} {f : Nat → List Int} (h1 : Tl w n dim f a c) (h2 : Tl w n dim f b d) :
    Calls Try.prog 10 #[.slice a n c, .slice b n d] w (Yes w) := by
  have hb1 := h1.max
  unfold maxLen at hb1
  have R1 := Lib.hid h1
  have R2 := Lib.hid h2
  clear h1 h2
  go_enter Try.func10, Try.ntmps10
  go_wp2_with fail
  go_loopw [13] (fun i wr => ∃ k : Nat, k ≤ n ∧ i = .int .i64 k ∧ ∃ m, wr = w.drewN m) (fun i _ => n - (intOf i).toNat)
  case atStart => exact ⟨0, Nat.zero_le _, rfl, 0, rfl⟩
  case round =>
    obtain ⟨k, hk, rfl, mm, rfl⟩ := hrel
    by_cases hlt : k < n
    · obtain ⟨b1, p1, rfl, hc1, hr1⟩ := R1.out.row hlt
      obtain ⟨b2, p2, rfl, hc2, hr2⟩ := R2.out.row hlt
      have q1 : (w.drewN mm).cell? ⟨b1, k, none⟩ = some (.slice p1.1 dim p1.2) := hc1
      have q2 : (w.drewN mm).cell? ⟨b2, k, none⟩ = some (.slice p2.1 dim p2.2) := hc2
      have i0 : (0 : Int) ≤ (k : Int) := by omega
      have i1 : (k : Int) < (n : Int) := by omega
      have TS : ∀ j, Hid (Calls Try.prog 8 #[.slice p1.1 dim p1.2, .slice p2.1 dim p2.2] (w.drewN j) fun e w' => e = .returned (.bool true) ∧ ∃ m, w' = (w.drewN j).drewN m) := fun j => Lib.hid (same_yes (hr1.drewN j) (hr2.drewN j))
      clear hr1 hr2
      go_upto_region 6 with (fail)
      go_big_quiet ((go_at_call 8; first | exact Calls.quiet_of (TS _).out | exact quiet_add (TS _).out))
      go_wp2
      go_roundw
      case rel => exact ⟨k + 1, by omega, by go_num, _, rfl⟩
      case measure => simp [intOf]; omega
    · go_wp2
      go_ret
      exact ⟨rfl, mm, rfl⟩

theorem alive_any : Calls Try.prog 7 #[] w fun e w' => e = .returned (.bool true) ∧ Below w.heap.size w w' := by
  have hN : Nats ⟨0#64, 2, 1, 1, 1, 0⟩ 2 1 1 := ⟨rfl, rfl, rfl, by omega, by omega, by omega, by omega, by omega, by omega⟩
  have HN := fun w => Lib.hid (new_yes (w := w) ⟨0#64, 2, 1, 1, 1, 0⟩ (by decide) hN)
  have hc : cf ⟨0#64, 2, 1, 1, 1, 0⟩ = #[.int .u64 0, .int .i64 2, .int .i64 1, .int .i64 1, .int .i64 1, .int .i64 0] := rfl
  rw [hc] at HN
  go_enter Try.func7, Try.ntmps7
  go_wp2_with fail
  refine (HN _).out.mono ?_
  rintro e w1 ⟨g, a, n, k, T, rfl, hm, hb⟩
  have HM := Lib.hid hm
  have HB := Lib.hid hb
  clear hm hb HN
  go_wp2_with fail
  refine (token_any HM.out (by omega) (by omega) (by omega) (by omega) 1).mono ?_
  rintro e w2 ⟨a2, c2, rfl, ho2, hb2⟩
  have e2 : (want ⟨0#64, 2, 1, 1, 1, 0⟩ 1 2 0 1).length = 1 := rfl
  rw [e2]
  have HM2 := Lib.hid (HM.out.below hb2)
  have HB2 := Lib.hid (HB.out.trans (hb2.mono HB.out.size))
  clear ho2 hb2 e2
  go_wp2_with fail
  refine (token_any HM2.out (by omega) (by omega) (by omega) (by omega) 2).mono ?_
  rintro e w3 ⟨a3, c3, rfl, ho3, hb3⟩
  have e3 : (want ⟨0#64, 2, 1, 1, 1, 0⟩ 1 2 0 2).length = 0 := rfl
  rw [e3]
  have HM3 := Lib.hid (HM2.out.below hb3)
  have HB3 := Lib.hid (HB2.out.trans (hb3.mono HB2.out.size))
  clear ho3 hb3 e3
  go_wp2_with fail
  refine (rows_any HM3.out (layers := 1) rfl (by omega) (by omega) (by omega) (by omega) 0 5).mono ?_
  rintro e w4 ⟨a4, c4, L4, rfl, hl4, ho4, ht4, hb4⟩
  have e4 : rowsN 1 1 0 5 = 1 := rfl
  rw [e4]
  have HB4 := Lib.hid (HB3.out.trans (hb4.mono HB3.out.size))
  clear ho4 ht4 hl4 hb4 e4
  go_wp2
  go_ret
  exact ⟨rfl, HB4.out⟩
end
end Go.Proofs.Ytpcanolanhdfeaa.MdL
