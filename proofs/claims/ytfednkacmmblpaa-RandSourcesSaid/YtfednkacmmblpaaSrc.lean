/-
  Walks over a source of draws: its methods, for a source that was made and for none; and the law on sources.
-/
import Derived.Test.YtfednkacmmblpaaPRandSourcesx1
import Derived.Test.YtfednkacmmblpaaKit
import Derived.Test.YtfednkacmmblpaaMath
namespace Go.Proofs.Ytfednkacmmblpaa.Src
open Go.RowKit Go.Proofs.Ytfednkacmmblpaa.PRandSources Go.Proofs.Ytfednkacmmblpaa.Kit
open Go.Proofs.Ytfednkacmmblpaa.Math (U mix mix_int at_ at_arg below mul64 U_lo U_hi at_zero below_lt)

/-- The draw n of a seed, as the code reckons it. -/
def AtI (s n : Int) : Int := (rand_At.f s n).getD 0
theorem AtI_some (s n : Int) : rand_At.f s n = some (AtI s n) := rfl

theorem at_any (s n : Int) (w : World) : Calls Try.prog 11 #[.int .u64 s, .int .u64 n] w fun e w' => e = .returned (.int .u64 (AtI s n)) ∧ ∃ m, w' = w.drewN m :=
  (rand_At.calls s n (AtI s n) w (AtI_some s n)).mono fun _ _ ⟨he, hd⟩ => ⟨he, hd.out⟩

theorem alive_any (w : World) (h : garboardlaw06_alive.f = some true) : Calls Try.prog 15 #[] w fun e w' => e = .returned (.bool true) ∧ ∃ m, w' = w.drewN m :=
  (garboardlaw06_alive.calls true w h).mono fun _ _ ⟨he, hd⟩ => ⟨he, hd.out⟩

theorem next_nil (w : World) : Calls Try.prog 22 #[.pointer none] w fun e w' => e = .returned (.int .u64 0) ∧ w' = w := by
  have hu := Try.underlying37
  go_enter Try.func22, Try.ntmps22
  go_wp2
  go_ret
  exact ⟨rfl, rfl⟩

theorem count_nil (w : World) : Calls Try.prog 23 #[.pointer none] w fun e w' => e = .returned (.int .u64 0) ∧ w' = w := by
  have hu := Try.underlying37
  go_enter Try.func23, Try.ntmps23
  go_wp2
  go_ret
  exact ⟨rfl, rfl⟩

theorem next_any (g : Nat) (s n : Int) (w : World) (hb : Blk w g 49 #[.int .u64 s, .int .u64 n]) :
    Calls Try.prog 22 #[.pointer (some ⟨g, 0, none⟩)] w fun e w' => e = .returned (.int .u64 (AtI s n)) ∧ Blk w' g 49 #[.int .u64 s, .int .u64 (IntKind.u64.wrap (n + 1))] ∧ Chg (fun k => k = g) w w' := by
  have hu := Try.underlying37
  have c0 := hb.cell 0 rfl
  have c1 := hb.cell 1 rfl
  have f1 := hb.frozen 1
  have hB := Lib.hid hb
  clear hb
  go_enter Try.func22, Try.ntmps22
  go_wp2
  go_quiet ((go_at_call 11; exact Calls.quiet_of (at_any _ _ _)))
  go_wp2
  go_ret
  exact ⟨rfl, ((hB.out.drewN nq).set 1 _), ((Chg.refl (fun k => k = g) w).drewN _).set (.inl rfl) _⟩

theorem count_any (g : Nat) (s n : Int) (w : World) (hb : Blk w g 49 #[.int .u64 s, .int .u64 n]) :
    Calls Try.prog 23 #[.pointer (some ⟨g, 0, none⟩)] w fun e w' => e = .returned (.int .u64 n) ∧ w = w' := by
  have hu := Try.underlying37
  have c1 := hb.cell 1 rfl
  clear hb
  go_enter Try.func23, Try.ntmps23
  go_wp2
  go_ret
  exact ⟨rfl, rfl⟩

theorem new_any (s : Int) (w : World) :
    Calls Try.prog 21 #[.int .u64 s] w fun e w' => ∃ g, e = .returned (.pointer (some ⟨g, 0, none⟩)) ∧ Blk w' g 49 #[.int .u64 s, .int .u64 0] ∧ w.heap.size ≤ g ∧ Below w.heap.size w w' := by
  refine (rand_New.calls s s 0 w w (Below.refl _ _) rfl).mono ?_
  rintro e w' ⟨g, he, hI, hb, _⟩
  exact ⟨g, he, hI.1, hI.2, hb⟩

theorem law (seed many : Int) (hm0 : 0 ≤ many) (hm1 : many ≤ 255) (w : World) (hal : garboardlaw06_alive.f = some true) :
    Calls Try.prog 8 #[.int .u64 seed, .int .u8 many] w fun e w' => e = .returned (.bool true) ∧ Below w.heap.size w w' := by
  have HA := Lib.hid hal
  clear hal
  have hu := Try.underlying37
  go_enter Try.func8, Try.ntmps8
  go_wp2_with fail
  refine (new_any seed w).mono ?_
  rintro e w1 ⟨g, rfl, hb, hg, hbel⟩
  have HB := Lib.hid hb
  have HL := Lib.hid hbel
  clear hb hbel
  go_wp2_with fail
  refine (next_nil _).mono ?_
  rintro e w2 ⟨rfl, rfl⟩
  go_wp2_with fail
  refine (count_nil _).mono ?_
  rintro e w2 ⟨rfl, rfl⟩
  go_wp2_with fail
  obtain ⟨m, rfl⟩ := Int.eq_ofNat_of_zero_le hm0
  go_loopw [24] (fun i wr => ∃ k : Nat, k ≤ m ∧ i = .int .u64 k ∧ Hid (Blk wr g 49 #[.int .u64 seed, .int .u64 k]) ∧ Hid (Below w.heap.size w wr)) (fun i _ => m - (intOf i).toNat)
  case atStart => exact ⟨0, by omega, rfl, HB, HL⟩
  case round =>
    obtain ⟨k, hk, rfl, HB, HL⟩ := hrel
    by_cases hlt : k < m
    · have hwr : IntKind.u64.wrap ((k : Int) + 1) = ((k + 1 : Nat) : Int) := by rw [IntKind.wrap_u64]; omega
      have HW := Lib.hid hwr
      clear hwr
      go_wp2_with fail
      refine (count_any g _ _ _ HB.out).mono ?_
      rintro e w3 ⟨rfl, rfl⟩
      go_wp2_with fail
      refine (next_any g _ _ _ HB.out).mono ?_
      rintro e w4 ⟨rfl, hb4, hc4⟩
      have HB4 := Lib.hid hb4
      have HL4 := Lib.hid (hc4.below HL.out HL.out.size (fun i hi => by omega))
      clear hb4 hc4
      go_wp2_with fail
      refine (at_any _ _ _).mono ?_
      rintro e w5 ⟨rfl, nd, rfl⟩
      go_wp2
      go_roundw
      case rel => exact ⟨k + 1, by omega, by go_num, by rw [HW.out] at HB4; exact HB4, (HL4.out.trans ⟨rfl, rfl, rfl, Nat.le_refl _, fun _ _ => rfl⟩)⟩
      case measure => simp [intOf]; omega
    · obtain rfl : k = m := by omega
      go_wp2_with fail
      refine (count_any g _ _ _ HB.out).mono ?_
      rintro e w3 ⟨rfl, rfl⟩
      go_wp2_with fail
      refine (alive_any _ HA.out).mono ?_
      rintro e w5 ⟨rfl, nd, rfl⟩
      go_wp2
      go_ret
      exact ⟨rfl, (HL.out.trans ⟨rfl, rfl, rfl, Nat.le_refl _, fun _ _ => rfl⟩)⟩
end Go.Proofs.Ytfednkacmmblpaa.Src
