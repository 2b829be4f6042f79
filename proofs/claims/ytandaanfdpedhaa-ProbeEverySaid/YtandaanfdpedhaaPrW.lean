/-
  Walks over the prober.
-/
import Derived.Test.YtandaanfdpedhaaProg
import Derived.Test.YtandaanfdpedhaaPrP
import Derived.RegionTactic
import Derived.Deep.QuietTactic
import Derived.BigQuiet
import Derived.Deep.DeepCutAuto
import Derived.Outline
import Derived.KernelRfl
namespace Go.Proofs.Ytandaanfdpedhaa.PrW
open Go.RowKit Go.Proofs.Ytandaanfdpedhaa.Kit Go.Proofs.Ytandaanfdpedhaa.PrP
attribute [local go_sem high] max_imax min_imin
set_option linter.unusedVariables false

/-- A prober's cells. -/
def pc (ev wt ms ht : Int) (p : Pb) : Array Value := #[.int .i64 ev, .int .i64 wt, .int .i64 ms, .int .i64 ht, .int .i64 p.now, .int .i64 p.next, .int .u64 p.asked, .int .i64 p.ends, .int .i64 p.miss, .int .i64 p.hit, .bool p.up]
section
variable {g : Nat} {ev wt ms ht : Int} {p : Pb} {w : World}

theorem cells (hb : Blk w g 48 (pc ev wt ms ht p)) : w.cell? ⟨g, 0, none⟩ = some (.int .i64 ev) ∧ w.cell? ⟨g, 1, none⟩ = some (.int .i64 wt) ∧ w.cell? ⟨g, 2, none⟩ = some (.int .i64 ms) ∧
    w.cell? ⟨g, 3, none⟩ = some (.int .i64 ht) ∧ w.cell? ⟨g, 4, none⟩ = some (.int .i64 p.now) ∧ w.cell? ⟨g, 5, none⟩ = some (.int .i64 p.next) ∧ w.cell? ⟨g, 6, none⟩ = some (.int .u64 p.asked) ∧
    w.cell? ⟨g, 7, none⟩ = some (.int .i64 p.ends) ∧ w.cell? ⟨g, 8, none⟩ = some (.int .i64 p.miss) ∧ w.cell? ⟨g, 9, none⟩ = some (.int .i64 p.hit) ∧ w.cell? ⟨g, 10, none⟩ = some (.bool p.up) :=
  ⟨hb.cell 0 rfl, hb.cell 1 rfl, hb.cell 2 rfl, hb.cell 3 rfl, hb.cell 4 rfl, hb.cell 5 rfl, hb.cell 6 rfl, hb.cell 7 rfl, hb.cell 8 rfl, hb.cell 9 rfl, hb.cell 10 rfl⟩

theorem ok_any (hb : Blk w g 48 (pc ev wt ms ht p)) (h : 0 < ev) :
    Calls Try.prog 23 #[.pointer (some ⟨g, 0, none⟩)] w fun e w' => e = .returned (.bool true) ∧ ∃ m, w' = w.drewN m := by
  have hu := Try.underlying25
  obtain ⟨c0, _⟩ := cells hb
  clear hb
  go_enter Try.func23, Try.ntmps23
  go_wp2
  go_ret
  exact ⟨rfl, 0, rfl⟩

theorem ok_zero (hb : Blk w g 48 (pc 0 wt ms ht p)) :
    Calls Try.prog 23 #[.pointer (some ⟨g, 0, none⟩)] w fun e w' => e = .returned (.bool false) ∧ ∃ m, w' = w.drewN m := by
  have hu := Try.underlying25
  obtain ⟨c0, _⟩ := cells hb
  clear hb
  go_enter Try.func23, Try.ntmps23
  go_wp2
  go_ret
  exact ⟨rfl, 0, rfl⟩

theorem ok_nil : Calls Try.prog 23 #[.pointer none] w fun e w' => e = .returned (.bool false) ∧ ∃ m, w' = w.drewN m := by
  have hu := Try.underlying25
  go_enter Try.func23, Try.ntmps23
  go_wp2
  go_ret
  exact ⟨rfl, 0, rfl⟩

theorem between_any (a b c : Int) (w : World) : Calls Try.prog 21 #[.int .i64 a, .int .i64 b, .int .i64 c] w fun e w' => e = .returned (.bool (decide (b ≤ a ∧ a ≤ c))) ∧ ∃ m, w' = w.drewN m := by
  by_cases h1 : b ≤ a <;> by_cases h2 : a ≤ c
  all_goals
    go_enter Try.func21, Try.ntmps21
    go_wp2
    go_ret
    exact ⟨by simp [*], 0, rfl⟩

theorem betweeni_any (a b c : Int) (w : World) : Calls Try.prog 22 #[.int .i64 a, .int .i64 b, .int .i64 c] w fun e w' => e = .returned (.bool (decide (b ≤ a ∧ a ≤ c))) ∧ ∃ m, w' = w.drewN m := by
  by_cases h1 : b ≤ a <;> by_cases h2 : a ≤ c
  all_goals
    go_enter Try.func22, Try.ntmps22
    go_wp2
    go_ret
    exact ⟨by simp [*], 0, rfl⟩

theorem missed_any (hb : Blk w g 48 (pc ev wt ms ht p)) (m0 : 0 ≤ p.miss) (m1 : p.miss ≤ 100) :
    Calls Try.prog 25 #[.pointer (some ⟨g, 0, none⟩)] w fun e w' => e = .returned (.tuple #[]) ∧ Blk w' g 48 (pc ev wt ms ht (missed ms p)) ∧ Chg (fun k => k = g) w w' := by
  obtain ⟨now, next, asked, ends, miss, hit, up⟩ := p
  have HB := Lib.hid hb
  obtain ⟨c0, c1, c2, c3, c4, c5, c6, c7, c8, c9, c10⟩ := cells hb
  simp only at m0 m1 c4 c5 c6 c7 c8 c9 c10
  have f7 := hb.frozen 7
  have f8 := hb.frozen 8
  have f9 := hb.frozen 9
  have f10 := hb.frozen 10
  clear hb c0 c1 c3 c4 c5 c6
  by_cases he : miss + 1 = ms
  · have hm : missed ms ⟨now, next, asked, ends, miss, hit, up⟩ = ⟨now, next, asked, -1, 0, 0, false⟩ := if_pos he
    rw [hm]
    clear hm
    have HE := Lib.hid he
    have heb : (miss + 1 == ms) = true := by simpa using he
    clear he
    go_enter Try.func25, Try.ntmps25
    go_wp2
    have b1 : Blk (((w.setCell ⟨g, 7, none⟩ (.int .i64 (-1))).setCell ⟨g, 9, none⟩ (.int .i64 0)).setCell ⟨g, 8, none⟩ (.int .i64 (miss + 1))) g 48 (pc ev wt ms ht ⟨now, next, asked, -1, miss + 1, 0, up⟩) := ((HB.out.set 7 _).set 9 _).set 8 _
    have k1 : Chg (fun k => k = g) w (((w.setCell ⟨g, 7, none⟩ (.int .i64 (-1))).setCell ⟨g, 9, none⟩ (.int .i64 0)).setCell ⟨g, 8, none⟩ (.int .i64 (miss + 1))) := (((Chg.refl (fun k => k = g) w).set (.inl rfl) _).set (.inl rfl) _).set (.inl rfl) _
    obtain ⟨W1, HW1⟩ : ∃ W1, Hid (((w.setCell ⟨g, 7, none⟩ (.int .i64 (-1))).setCell ⟨g, 9, none⟩ (.int .i64 0)).setCell ⟨g, 8, none⟩ (.int .i64 (miss + 1)) = W1) := ⟨_, rfl⟩
    rw [HW1.out] at b1 k1 ⊢
    clear HW1 c2 c7 c8 c9 c10 f7 f8 f9 f10
    have c2 : W1.cell? ⟨g, 2, none⟩ = some (.int .i64 ms) := b1.cell 2 rfl
    have c8 : W1.cell? ⟨g, 8, none⟩ = some (.int .i64 (miss + 1)) := b1.cell 8 rfl
    have c10 : W1.cell? ⟨g, 10, none⟩ = some (.bool up) := b1.cell 10 rfl
    have f8 := b1.frozen 8
    have f10 := b1.frozen 10
    have HB1 := Lib.hid b1
    have HK1 := Lib.hid k1
    clear b1 k1
    go_big_quiet (fail)
    go_wp2
    exact bodyPost_end (v := .tuple #[]) (by simp [results, Try.results25, go_sem]) rfl ⟨rfl, ((HB1.out.drewN _).set 10 _).set 8 _, (((HK1.out).drewN _).set (.inl rfl) _).set (.inl rfl) _⟩
  · have hm : missed ms ⟨now, next, asked, ends, miss, hit, up⟩ = ⟨now, next, asked, -1, miss + 1, 0, up⟩ := if_neg he
    rw [hm]
    clear hm
    have heb : (miss + 1 == ms) = false := by simpa using he
    clear he
    go_enter Try.func25, Try.ntmps25
    go_wp2
    have b1 : Blk (((w.setCell ⟨g, 7, none⟩ (.int .i64 (-1))).setCell ⟨g, 9, none⟩ (.int .i64 0)).setCell ⟨g, 8, none⟩ (.int .i64 (miss + 1))) g 48 (pc ev wt ms ht ⟨now, next, asked, -1, miss + 1, 0, up⟩) := ((HB.out.set 7 _).set 9 _).set 8 _
    have k1 : Chg (fun k => k = g) w (((w.setCell ⟨g, 7, none⟩ (.int .i64 (-1))).setCell ⟨g, 9, none⟩ (.int .i64 0)).setCell ⟨g, 8, none⟩ (.int .i64 (miss + 1))) := (((Chg.refl (fun k => k = g) w).set (.inl rfl) _).set (.inl rfl) _).set (.inl rfl) _
    obtain ⟨W1, HW1⟩ : ∃ W1, Hid (((w.setCell ⟨g, 7, none⟩ (.int .i64 (-1))).setCell ⟨g, 9, none⟩ (.int .i64 0)).setCell ⟨g, 8, none⟩ (.int .i64 (miss + 1)) = W1) := ⟨_, rfl⟩
    rw [HW1.out] at b1 k1 ⊢
    clear HW1 c2 c7 c8 c9 c10 f7 f8 f9 f10
    have c2 : W1.cell? ⟨g, 2, none⟩ = some (.int .i64 ms) := b1.cell 2 rfl
    have c8 : W1.cell? ⟨g, 8, none⟩ = some (.int .i64 (miss + 1)) := b1.cell 8 rfl
    have c10 : W1.cell? ⟨g, 10, none⟩ = some (.bool up) := b1.cell 10 rfl
    have f8 := b1.frozen 8
    have f10 := b1.frozen 10
    have HB1 := Lib.hid b1
    have HK1 := Lib.hid k1
    clear b1 k1
    go_big_quiet (fail)
    go_wp2
    exact bodyPost_end (v := .tuple #[]) (by simp [results, Try.results25, go_sem]) rfl ⟨rfl, HB1.out.drewN _, HK1.out.drewN _⟩

theorem later_any (hb : Blk w g 48 (pc ev wt ms ht p)) (m0 : 0 ≤ p.miss) (m1 : p.miss ≤ 100) (t : Int) :
    Calls Try.prog 24 #[.pointer (some ⟨g, 0, none⟩), .int .i64 t] w fun e w' => e = .returned (.tuple #[]) ∧ Blk w' g 48 (pc ev wt ms ht (later ms p t)) ∧ Chg (fun k => k = g) w w' := by
  obtain ⟨now, next, asked, ends, miss, hit, up⟩ := p
  have HB := Lib.hid hb
  have hc4 : w.cell? ⟨g, 4, none⟩ = some (.int .i64 now) := hb.cell 4 rfl
  have f4 := hb.frozen 4
  clear hb
  go_enter Try.func24, Try.ntmps24
  go_upto_if 5 with (fail)
  go_cut [] (fun wx => Hid (Blk wx g 48 (pc ev wt ms ht ⟨nowOf now t, next, asked, ends, miss, hit, up⟩)) ∧ Hid (Chg (fun k => k = g) w wx))
  case first =>
    by_cases ht : t ≤ 1099511627776
    · have HN := Lib.hid (show nowOf now t = imax now t from if_pos ht)
      go_wp2
      go_meet
      exact ⟨by rw [HN.out]; exact HB.out.set 4 _, (Chg.refl (fun k => k = g) w).set (.inl rfl) _⟩
    · have HN := Lib.hid (show nowOf now t = now from if_neg ht)
      go_wp2
      go_meet
      exact ⟨by rw [HN.out]; exact HB, Chg.refl (fun k => k = g) w⟩
  case rest =>
    obtain ⟨HB1, HC1⟩ := hcut
    clear hc4 f4
    have c4 : wc.cell? ⟨g, 4, none⟩ = some (.int .i64 (nowOf now t)) := HB1.out.cell 4 rfl
    have c7 : wc.cell? ⟨g, 7, none⟩ = some (.int .i64 ends) := HB1.out.cell 7 rfl
    obtain ⟨q, HQ⟩ : ∃ q, Hid (decide (0 ≤ ends ∧ ends ≤ nowOf now t) = q) := ⟨_, rfl⟩
    have hbt : ∀ w : World, Calls Try.prog 21 #[.int .i64 ends, .int .i64 0, .int .i64 (nowOf now t)] w fun e w' => e = .returned (.bool q) ∧ ∃ m, w' = w.drewN m := fun w => by
      have := between_any ends 0 (nowOf now t) w
      rw [HQ.out] at this
      exact this
    have HBT := Lib.hid hbt
    clear hbt
    go_upto_region 2 with (fail)
    go_big_quiet ((go_at_call 21; first | exact Calls.quiet_of (HBT.out _) | exact quiet_add (HBT.out _)))
    cases q with
    | true =>
      have HL : Hid (later ms ⟨now, next, asked, ends, miss, hit, up⟩ t = missed ms ⟨nowOf now t, next, asked, ends, miss, hit, up⟩) := if_pos (of_decide_eq_true HQ.out)
      go_wp2_with fail
      refine (missed_any (HB1.out.drewN _) m0 m1).mono ?_
      rintro e w3 ⟨rfl, hb3, hc3⟩
      go_wp2
      exact bodyPost_end (v := .tuple #[]) (by simp [results, Try.results24, go_sem]) rfl ⟨rfl, by rw [HL.out]; exact hb3, (HC1.out.drewN _).then hc3 (fun i _ hi => hi)⟩
    | false =>
      have HL : Hid (later ms ⟨now, next, asked, ends, miss, hit, up⟩ t = ⟨nowOf now t, next, asked, ends, miss, hit, up⟩) := if_neg (of_decide_eq_false HQ.out)
      go_wp2
      exact bodyPost_end (v := .tuple #[]) (by simp [results, Try.results24, go_sem]) rfl ⟨rfl, by rw [HL.out]; exact HB1.out.drewN _, HC1.out.drewN _⟩

theorem up_any (hb : Blk w g 48 (pc ev wt ms ht p)) (h : 0 < ev) :
    Calls Try.prog 13 #[.pointer (some ⟨g, 0, none⟩)] w fun e w' => e = .returned (.bool p.up) ∧ ∃ m, w' = w.drewN m := by
  have HB := Lib.hid hb
  have c10 : w.cell? ⟨g, 10, none⟩ = some (.bool p.up) := hb.cell 10 rfl
  clear hb
  obtain ⟨u, HU⟩ : ∃ u, Hid (p.up = u) := ⟨_, rfl⟩
  rw [HU.out] at c10 ⊢
  go_enter Try.func13, Try.ntmps13
  go_wp2_with fail
  refine (ok_any (HB.out) h).mono ?_
  rintro e w1 ⟨rfl, nd, rfl⟩
  go_wp2
  go_ret
  exact ⟨rfl, _, rfl⟩

theorem now_any (hb : Blk w g 48 (pc ev wt ms ht p)) (h : 0 < ev) :
    Calls Try.prog 20 #[.pointer (some ⟨g, 0, none⟩)] w fun e w' => e = .returned (.int .i64 p.now) ∧ ∃ m, w' = w.drewN m := by
  have HB := Lib.hid hb
  have c4 : w.cell? ⟨g, 4, none⟩ = some (.int .i64 p.now) := hb.cell 4 rfl
  clear hb
  go_enter Try.func20, Try.ntmps20
  go_wp2_with fail
  refine (ok_any (HB.out) h).mono ?_
  rintro e w1 ⟨rfl, nd, rfl⟩
  go_wp2
  go_ret
  exact ⟨rfl, _, rfl⟩

theorem asked_any (hb : Blk w g 48 (pc ev wt ms ht p)) (h : 0 < ev) :
    Calls Try.prog 14 #[.pointer (some ⟨g, 0, none⟩)] w fun e w' => e = .returned (.int .u64 p.asked) ∧ ∃ m, w' = w.drewN m := by
  have HB := Lib.hid hb
  have c6 : w.cell? ⟨g, 6, none⟩ = some (.int .u64 p.asked) := hb.cell 6 rfl
  clear hb
  go_enter Try.func14, Try.ntmps14
  go_wp2_with fail
  refine (ok_any (HB.out) h).mono ?_
  rintro e w1 ⟨rfl, nd, rfl⟩
  go_wp2
  go_ret
  exact ⟨rfl, _, rfl⟩

theorem due_any (hb : Blk w g 48 (pc ev wt ms ht p)) (h : 0 < ev) :
    Calls Try.prog 18 #[.pointer (some ⟨g, 0, none⟩)] w fun e w' => e = .returned (.int .i64 (if 0 ≤ p.ends then imin p.next p.ends else p.next)) ∧ ∃ m, w' = w.drewN m := by
  have HB := Lib.hid hb
  have c5 : w.cell? ⟨g, 5, none⟩ = some (.int .i64 p.next) := hb.cell 5 rfl
  have c7 : w.cell? ⟨g, 7, none⟩ = some (.int .i64 p.ends) := hb.cell 7 rfl
  clear hb
  obtain ⟨nx, HX⟩ : ∃ nx, Hid (p.next = nx) := ⟨_, rfl⟩
  obtain ⟨en, HE⟩ : ∃ en, Hid (p.ends = en) := ⟨_, rfl⟩
  rw [HX.out] at c5
  rw [HE.out] at c7
  rw [HX.out, HE.out]
  by_cases he : 0 ≤ en
  · rw [if_pos he]
    go_enter Try.func18, Try.ntmps18
    go_wp2_with fail
    refine (ok_any (HB.out) h).mono ?_
    rintro e w1 ⟨rfl, nd, rfl⟩
    go_upto_region 4 with (fail)
    go_big_quiet (fail)
    go_wp2
    go_ret
    exact ⟨rfl, _, (World.drewN_drewN w nd nq)⟩
  · rw [if_neg he]
    go_enter Try.func18, Try.ntmps18
    go_wp2_with fail
    refine (ok_any (HB.out) h).mono ?_
    rintro e w1 ⟨rfl, nd, rfl⟩
    go_wp2
    go_ret
    exact ⟨rfl, _, rfl⟩
end
end Go.Proofs.Ytandaanfdpedhaa.PrW
