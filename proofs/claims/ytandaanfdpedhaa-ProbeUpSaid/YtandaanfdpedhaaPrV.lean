/-
  The walk over ProbeUp.
-/
import Derived.Test.YtandaanfdpedhaaPrU
import Derived.IntWalk
namespace Go.Proofs.Ytandaanfdpedhaa.PrV
open Go.RowKit Go.Proofs.Ytandaanfdpedhaa.Kit Go.Proofs.Ytandaanfdpedhaa.PrP Go.Proofs.Ytandaanfdpedhaa.PrN Go.Proofs.Ytandaanfdpedhaa.PrU
open Go.Proofs.Ytandaanfdpedhaa.PrW (pc)
attribute [local go_sem high] max_imax min_imin
set_option linter.unusedVariables false
section
variable {ev wt ms ht : Int} {w : World}

theorem law_no (h : ¬ May ev wt ms ht) (v : Value) :
    Calls Try.prog 4 #[.agg #[.int .i64 ev, .int .i64 wt, .int .i64 ms, .int .i64 ht], v] w fun e w' => e = .returned (.bool true) ∧ Below w.heap.size w w' := by
  have HN := Lib.hid h
  clear h
  have hu := Try.underlying25
  have hbe : Below w.heap.size w (w.alloc (.cells (st ev wt ms ht) 23)) := (Below.refl _ w).alloc (Nat.le_refl _) _
  go_enter Try.func4, Try.ntmps4
  go_wp2_with fail
  have b0 := Blk.new w (st ev wt ms ht) 23
  obtain ⟨W, HW⟩ : ∃ W, Hid (w.alloc (.cells (st ev wt ms ht) 23) = W) := ⟨_, rfl⟩
  have HW' := HW.out
  unfold st at HW'
  rw [HW'] at ⊢
  rw [HW.out] at b0 hbe
  clear HW HW'
  obtain ⟨B, HB⟩ : ∃ B, Hid (w.heap.size = B) := ⟨_, rfl⟩
  rw [HB.out] at b0 hbe ⊢
  have B0 := Lib.hid b0
  have HBe := Lib.hid hbe
  clear hbe
  refine theirs_any.mono ?_
  rintro e w1 ⟨rfl, hb1⟩
  have HB1 := Lib.hid hb1
  clear hb1
  go_wp2_with fail
  refine (new_no HN.out).mono ?_
  rintro e w2 ⟨rfl, hb2⟩
  have HB2 := Lib.hid hb2
  clear hb2
  have hbb : Blk w2 B 23 (st ev wt ms ht) := by
    have h1 : Blk w1 B 23 (st ev wt ms ht) := (HB1.out.block B B0.out.lt).trans B0.out
    exact (HB2.out.block B h1.lt).trans h1
  have hsz : B ≤ w2.heap.size := by have := hbb.lt; omega
  have HBe2 := Lib.hid ((HBe.out.trans (HB1.out.mono (by have := B0.out.lt; omega))).trans (HB2.out.mono (by have := HB1.out.size; have := B0.out.lt; omega)))
  clear hbb
  go_wp2_with fail
  refine PrA.alive_any.mono ?_
  rintro e w5 ⟨rfl, hb5⟩
  go_wp2
  go_ret
  exact ⟨rfl, by rw [HB.out]; exact HBe2.out.trans (hb5.mono hsz)⟩

set_option maxRecDepth 100000 in
set_option maxHeartbeats 800000 in
theorem law_yes (h : May ev wt ms ht) (x : Int) (x0 : 0 ≤ x) (x1 : x ≤ 255) :
    Calls Try.prog 4 #[.agg #[.int .i64 ev, .int .i64 wt, .int .i64 ms, .int .i64 ht], .int .u8 x] w fun e w' => e = .returned (.bool true) ∧ Below w.heap.size w w' := by
  have HM := Lib.hid h
  clear h
  have hu := Try.underlying25
  have hbe : Below w.heap.size w (w.alloc (.cells (st ev wt ms ht) 23)) := (Below.refl _ w).alloc (Nat.le_refl _) _
  go_enter Try.func4, Try.ntmps4
  go_wp2_with fail
  have b0 := Blk.new w (st ev wt ms ht) 23
  obtain ⟨W, HW⟩ : ∃ W, Hid (w.alloc (.cells (st ev wt ms ht) 23) = W) := ⟨_, rfl⟩
  have HW' := HW.out
  unfold st at HW'
  rw [HW'] at ⊢
  rw [HW.out] at b0 hbe
  clear HW HW'
  obtain ⟨B, HB⟩ : ∃ B, Hid (w.heap.size = B) := ⟨_, rfl⟩
  rw [HB.out] at b0 hbe ⊢
  have B0 := Lib.hid b0
  have HBe := Lib.hid hbe
  clear hbe
  refine theirs_any.mono ?_
  rintro e w1 ⟨rfl, hb1⟩
  have HB1 := Lib.hid hb1
  clear hb1
  go_wp2_with fail
  refine (new_yes HM.out).mono ?_
  rintro e w2 ⟨g, rfl, hg, hbg, hb2⟩
  have HB2 := Lib.hid hb2
  clear hb2
  have hbb : Blk w2 B 23 (st ev wt ms ht) := by
    have h1 : Blk w1 B 23 (st ev wt ms ht) := (HB1.out.block B B0.out.lt).trans B0.out
    exact (HB2.out.block B h1.lt).trans h1
  have hsz : B ≤ w2.heap.size := by have := hbb.lt; omega
  have HBe2 := Lib.hid ((HBe.out.trans (HB1.out.mono (by have := B0.out.lt; omega))).trans (HB2.out.mono (by have := HB1.out.size; have := B0.out.lt; omega)))
  have hgB : B < g := by have := HB1.out.size; have := B0.out.lt; omega
  have HG := Lib.hid hbg
  clear hbg hg
  have c3 : w2.cell? ⟨B, 3, none⟩ = some (.int .i64 ht) := hbb.cell 3 rfl
  have B2 := Lib.hid hbb
  clear hbb
  have ht0 := HM.out.2.2.2.1
  have ht1 := HM.out.2.2.2.2
  have ms0 := HM.out.2.2.1.1
  have ms1 := HM.out.2.2.1.2
  have y0 : 0 ≤ x % 20 := by omega
  have y1 : x % 20 ≤ 19 := by omega
  have HO : Hid (One ev ms ht ((0 : Nat) : Int) 0 p0) := by
    exact ⟨by constructor <;> simp only [p0] <;> omega, by omega, by omega, by omega, by simp [p0], by simp [p0], rfl, by simp [p0], rfl, fun _ => ⟨rfl, rfl⟩, fun h => by simp at h; omega⟩
  clear HB1 HB2 HBe B0
  have e1 := HM.out.1.2
  have e0 := HM.out.1.1
  have w0 := HM.out.2.1.1
  have w1 := HM.out.2.1.2
  go_wp2_with fail
  go_loopw [33, 7] (fun i n wr => ∃ (k : Nat) (t : Int) (p : Pb), (k : Int) ≤ ht + x % 20 ∧ i = .int .i64 k ∧ n = .int .i64 t ∧ Hid (One ev ms ht k t p) ∧ Hid (Blk wr g 48 (pc ev wt ms ht p)) ∧ Hid (Blk wr B 23 (st ev wt ms ht)) ∧ Hid (Below B w wr)) (fun i _ _ => (ht + x % 20).toNat - (intOf i).toNat)
  case atStart => exact ⟨0, 0, p0, by omega, rfl, rfl, HO, HG, B2, HBe2⟩
  case round =>
    obtain ⟨k, t, p, hk, rfl, rfl, HO, HG, HB2, HBe⟩ := hrel
    by_cases hlt : (k : Int) < ht + x % 20
    · have hk1 : (k : Int) ≤ 119 := by omega
      have t0 := HO.out.t0
      have t1 := HO.out.t1
      have c0 : wr.cell? ⟨B, 0, none⟩ = some (.int .i64 ev) := HB2.out.cell 0 rfl
      have c1 : wr.cell? ⟨B, 1, none⟩ = some (.int .i64 wt) := HB2.out.cell 1 rfl
      have c3 : wr.cell? ⟨B, 3, none⟩ = some (.int .i64 ht) := HB2.out.cell 3 rfl
      obtain ⟨pa, HPA⟩ : ∃ z, Hid (p.asked = z) := ⟨_, rfl⟩
      have hask := HO.out.asked
      rw [HPA.out] at hask
      have T1 : Hid (Calls Try.prog 11 #[.pointer (some ⟨g, 0, none⟩), .int .i64 t] wr fun e w' =>
          e = .returned (.tuple #[.int .u64 (pa + 1), .bool true]) ∧ Blk w' g 48 (pc ev wt ms ht (oneA ev wt t p)) ∧ Chg (fun k => k = g) wr w') := by
        have h1 := PrT.tick_yes HG.out HO.out.inv e0 e1 w0 w1 ms0 ms1 ht0 (by rw [HPA.out]; omega) t (by rw [one_q HO.out HM.out hk1]; exact HO.out.next)
        rw [one_ask HO.out HM.out hk1, HPA.out] at h1
        exact h1
      have T2 : Hid (∀ w', Blk w' g 48 (pc ev wt ms ht (oneA ev wt t p)) → Calls Try.prog 12 #[.pointer (some ⟨g, 0, none⟩), .int .i64 (t + wt - 1), .int .u64 (pa + 1)] w' fun e w'' =>
          e = .returned (.bool true) ∧ Blk w'' g 48 (pc ev wt ms ht (oneC ev wt ht t p)) ∧ Chg (fun k => k = g) w' w'') := by
        intro w' hb
        have h1 := PrT.pong_yes hb (one_inv HO.out HM.out hk1) e0 ms0 ms1 ht0 ht1 (t + wt - 1) (pa + 1) (by rw [one_later HO.out HM.out hk1]; exact ⟨by show 0 ≤ t + wt; omega, by show pa + 1 = p.asked + 1; rw [HPA.out]⟩)
        rw [one_later HO.out HM.out hk1] at h1
        exact h1
      obtain ⟨hn1, hn2⟩ := one_next HO.out HM.out hk1
      have HN1 := Lib.hid hn1
      have T3 : Hid (∀ w', Blk w' g 48 (pc ev wt ms ht (oneC ev wt ht t p)) → Calls Try.prog 13 #[.pointer (some ⟨g, 0, none⟩)] w' fun e w'' => e = .returned (.bool (decide (ht ≤ (k : Int) + 1))) ∧ ∃ m, w'' = w'.drewN m) := by
        intro w' hb
        have h1 := PrW.up_any hb (show 0 < ev by omega)
        rw [hn2] at h1
        exact h1
      clear hn1 hn2
      go_wp2_with fail
      refine T1.out.mono ?_
      rintro e w8 ⟨rfl, hb8, hc8⟩
      have HB8 := Lib.hid hb8
      have HC8 := Lib.hid hc8
      have d1 : w8.cell? ⟨B, 1, none⟩ = some (.int .i64 wt) := hc8.cell c1 (by show ¬ B = g; omega)
      have d3 : w8.cell? ⟨B, 3, none⟩ = some (.int .i64 ht) := hc8.cell c3 (by show ¬ B = g; omega)
      clear hb8 hc8 c0 c1 c3
      go_upto_region 9 with (fail)
      have s1 : IntKind.i64.wrap (t + wt) = t + wt := IntWalk.i64_in _ (by omega)
      have s2 : IntKind.i64.wrap (t + wt - 1) = t + wt - 1 := IntWalk.i64_in _ (by omega)
      have s3 : IntKind.i64.wrap ((k : Int) + 1) = (k : Int) + 1 := IntWalk.i64_in _ (by omega)
      go_region_held3 (fun w' => w'.cell? ⟨B, 1, none⟩ = some (.int .i64 wt) ∧ w'.cell? ⟨B, 3, none⟩ = some (.int .i64 ht)) (first | go_keep | exact ⟨by assumption, by assumption⟩) (first | (go_at_call 12; (with_reducible refine (T2.out _ (by first | exact HB8.out.drew | exact HB8.out)).mono ?_); rintro e w9 ⟨rfl, hb9, hc9⟩; have p1 := hc9.cell (p := ⟨B, 1, none⟩) (v := .int .i64 wt) (by first | exact d1 | simpa using d1) (by show ¬ B = g; omega); have p3 := hc9.cell (p := ⟨B, 3, none⟩) (v := .int .i64 ht) (by first | exact d3 | simpa using d3) (by show ¬ B = g; omega); have HB9 := Lib.hid hb9; have HC9 := Lib.hid hc9; clear hb9 hc9) | (go_at_call 13; (with_reducible refine (T3.out _ (by first | exact HB9.out | exact HB9.out.drew)).mono ?_); rintro e w10 ⟨rfl, n10, rfl⟩))
      clear s1 s2 s3
      have HC10 := Lib.hid (((Chg.refl (fun k => k = g) wr).then HC8.out (fun i _ hi => hi)).drew.then HC9.out (fun i _ hi => hi))
      have HBB := Lib.hid ((HC10.out.blk HB2.out (by show ¬ B = g; omega)).drewN n10)
      have c0 : (w9.drewN n10).cell? ⟨B, 0, none⟩ = some (.int .i64 ev) := HBB.out.cell 0 rfl
      have HBe9 := Lib.hid (below_drewN (HC10.out.below HBe.out (by have := HB2.out.lt; omega) (fun k hk => by omega)) n10)
      clear p1 p3 d1 d3
      go_wp2
      go_roundw
      case rel => exact ⟨k + 1, t + ev, _, by omega, by go_num, rfl, HN1, Lib.hid (HB9.out.drewN _), HBB, HBe9⟩
      case measure => simp [intOf]; omega
    · have hk : ht ≤ (k : Int) := by omega
      have hk2 : (k : Int) ≤ 119 := by omega
      have HT2 : Hid (Two ev ms ht ((0 : Nat) : Int) k t p) := one_two HO.out ms0 hk
      have c2 : wr.cell? ⟨B, 2, none⟩ = some (.int .i64 ms) := HB2.out.cell 2 rfl
      go_wp2_with fail
      clear hk hlt c2
      obtain ⟨M, HMk⟩ : ∃ M, Hid (k = M) := ⟨_, rfl⟩
      have hM119 : (M : Int) ≤ 119 := by have := HMk.out; omega
      rw [HMk.out] at HT2
      clear hk2
      go_loopw [72, 7] (fun i n wr => ∃ (k : Nat) (t : Int) (p : Pb), (k : Int) ≤ ms ∧ i = .int .i64 k ∧ n = .int .i64 t ∧ Hid (Two ev ms ht k M t p) ∧ Hid (Blk wr g 48 (pc ev wt ms ht p)) ∧ Hid (Blk wr B 23 (st ev wt ms ht)) ∧ Hid (Below B w wr)) (fun i _ _ => ms.toNat - (intOf i).toNat)
      case atStart => exact ⟨0, t, p, by omega, rfl, rfl, HT2, HG, HB2, HBe⟩
      case round =>
        clear HO HG HB2 HBe HT2 HMk
        obtain ⟨k, t, p, hk, rfl, rfl, HO, HG, HB2, HBe⟩ := hrel
        by_cases hlt : (k : Int) < ms
        · have hk1 : (M : Int) + k ≤ 230 := by omega
          have t0 := HO.out.t0
          have t1 := HO.out.t1
          have c0 : wr.cell? ⟨B, 0, none⟩ = some (.int .i64 ev) := HB2.out.cell 0 rfl
          have c1 : wr.cell? ⟨B, 1, none⟩ = some (.int .i64 wt) := HB2.out.cell 1 rfl
          have c2 : wr.cell? ⟨B, 2, none⟩ = some (.int .i64 ms) := HB2.out.cell 2 rfl
          obtain ⟨pa, HPA⟩ : ∃ z, Hid (p.asked = z) := ⟨_, rfl⟩
          have hask := HO.out.asked
          rw [HPA.out] at hask
          have T1 : Hid (Calls Try.prog 11 #[.pointer (some ⟨g, 0, none⟩), .int .i64 t] wr fun e w' =>
              e = .returned (.tuple #[.int .u64 (pa + 1), .bool true]) ∧ Blk w' g 48 (pc ev wt ms ht (twoA ev wt t p)) ∧ Chg (fun k => k = g) wr w') := by
            have h1 := PrT.tick_yes HG.out HO.out.inv e0 e1 w0 w1 ms0 ms1 ht0 (by rw [HPA.out]; omega) t (by rw [two_q HO.out HM.out hk1]; exact HO.out.next)
            rw [two_ask HO.out HM.out hk1, HPA.out] at h1
            exact h1
          have T4 : Hid (∀ w', Blk w' g 48 (pc ev wt ms ht (twoA ev wt t p)) → Calls Try.prog 13 #[.pointer (some ⟨g, 0, none⟩)] w' fun e w'' => e = .returned (.bool true) ∧ ∃ m, w'' = w'.drewN m) := by
            intro w' hb
            have h1 := PrW.up_any hb (show 0 < ev by omega)
            rw [show (twoA ev wt t p).up = true from (HO.out.miss hlt).2] at h1
            exact h1
          have T5 : Hid (∀ w', Blk w' g 48 (pc ev wt ms ht (twoA ev wt t p)) → Calls Try.prog 14 #[.pointer (some ⟨g, 0, none⟩)] w' fun e w'' => e = .returned (.int .u64 (pa + 1)) ∧ ∃ m, w'' = w'.drewN m) := by
            intro w' hb
            have h1 := PrW.asked_any hb (show 0 < ev by omega)
            rw [show (twoA ev wt t p).asked = pa + 1 from by rw [← HPA.out]; rfl] at h1
            exact h1
          obtain ⟨hn1, hn2, hn3⟩ := two_next HO.out HM.out hk1 hlt
          have HN1 := Lib.hid hn1
          have T2 : Hid (∀ w', Blk w' g 48 (pc ev wt ms ht (twoA ev wt t p)) → Calls Try.prog 12 #[.pointer (some ⟨g, 0, none⟩), .int .i64 (t + wt), .int .u64 (pa + 1)] w' fun e w'' =>
              e = .returned (.bool false) ∧ Blk w'' g 48 (pc ev wt ms ht (twoL ev wt ms t p)) ∧ Chg (fun k => k = g) w' w'') := by
            intro w' hb
            have h1 := PrT.pong_no hb (two_inv HO.out HM.out hk1) e0 ms0 ms1 ht0 ht1 (t + wt) (pa + 1) (by rw [two_later HO.out HM.out hk1]; exact .inl hn3)
            rw [two_later HO.out HM.out hk1] at h1
            exact h1
          have T3 : Hid (∀ w', Blk w' g 48 (pc ev wt ms ht (twoL ev wt ms t p)) → Calls Try.prog 13 #[.pointer (some ⟨g, 0, none⟩)] w' fun e w'' => e = .returned (.bool (decide ((k : Int) + 1 < ms))) ∧ ∃ m, w'' = w'.drewN m) := by
            intro w' hb
            have h1 := PrW.up_any hb (show 0 < ev by omega)
            rw [hn2] at h1
            exact h1
          clear hn1 hn2 hn3
          go_wp2_with fail
          refine T1.out.mono ?_
          rintro e w8 ⟨rfl, hb8, hc8⟩
          have HB8 := Lib.hid hb8
          have HC8 := Lib.hid hc8
          have d1 : w8.cell? ⟨B, 1, none⟩ = some (.int .i64 wt) := hc8.cell c1 (by show ¬ B = g; omega)
          have d2 : w8.cell? ⟨B, 2, none⟩ = some (.int .i64 ms) := hc8.cell c2 (by show ¬ B = g; omega)
          clear hb8 hc8 c0 c1 c2
          go_wp2_with fail
          refine (T4.out _ HB8.out).mono ?_
          rintro e w7 ⟨rfl, n7, rfl⟩
          go_upto_region 19 with (fail)
          have s1 : IntKind.i64.wrap (t + wt) = t + wt := IntWalk.i64_in _ (by omega)
          go_region_held3 (fun w' => w'.cell? ⟨B, 1, none⟩ = some (.int .i64 wt)) (first | go_keep | assumption) (first | (go_at_call 14; (with_reducible refine (T5.out _ (by first | exact (HB8.out.drewN _) | exact (HB8.out.drewN _).drew)).mono ?_); rintro e w10 ⟨rfl, n10, rfl⟩) | (go_at_call 12; (with_reducible refine (T2.out _ (by first | exact HB8.out.drewN _ | exact (HB8.out.drewN _).drewN _ | exact (HB8.out.drewN _).drew.drewN _)).mono ?_); rintro e w9 ⟨rfl, hb9, hc9⟩; have p1 := hc9.cell (p := ⟨B, 1, none⟩) (v := .int .i64 wt) (by first | exact d1 | simpa using d1) (by show ¬ B = g; omega); have HB9 := Lib.hid hb9; have HC9 := Lib.hid hc9; clear hb9 hc9))
          clear s1
          have HC9' := Lib.hid ((((Chg.refl (fun k => k = g) wr).then HC8.out (fun i _ hi => hi)).drewN _).then HC9.out (fun i _ hi => hi))
          have HBB := Lib.hid (HC9'.out.blk HB2.out (by show ¬ B = g; omega))
          have HBe9 := Lib.hid (HC9'.out.below HBe.out (by have := HB2.out.lt; omega) (fun k hk => by omega))
          have p2 : w9.cell? ⟨B, 2, none⟩ = some (.int .i64 ms) := HBB.out.cell 2 rfl
          have p0 : w9.cell? ⟨B, 0, none⟩ = some (.int .i64 ev) := HBB.out.cell 0 rfl
          clear d1 d2
          go_upto_region 20 with (fail)
          have s3 : IntKind.i64.wrap ((k : Int) + 1) = (k : Int) + 1 := IntWalk.i64_in _ (by omega)
          go_big_quiet ((go_at_call 13; first | exact Calls.quiet_of (T3.out _ (by exact HB9.out)) | exact quiet_add (T3.out _ (by exact HB9.out))))
          clear s3
          go_wp2
          go_roundw
          case rel => exact ⟨k + 1, t + ev, _, by omega, by go_num, rfl, HN1, Lib.hid (HB9.out.drewN _), Lib.hid (HBB.out.drewN _), Lib.hid (below_drewN HBe9.out _)⟩
          case measure => simp [intOf]; omega
        · go_wp2_with fail
          refine PrA.alive_any.mono ?_
          rintro e w7 ⟨rfl, hb7⟩
          go_wp2
          go_ret
          refine ⟨rfl, ?_⟩
          rw [HB.out]
          exact HBe.out.trans (hb7.mono (by have := HG.out.lt; omega))

theorem entry (W : World) (v0 : Value) (v1 : Value) (g0 : Arg W (.struct (.cons (.int .i64) (.cons (.int .i64) (.cons (.int .i64) (.cons (.int .i64) .none))))) v0)
    (g1 : Arg W (.int .u8) v1) :
    Calls Try.prog 4 #[v0, v1] W fun e w' => e = .returned (.bool true) ∧ Below W.heap.size W w' := by
  obtain ⟨cs, rfl, hl, hr⟩ := g0
  simp only [Sh.size] at hl
  match cs, hl, hr with
  | [c0, c1, c2, c3], _, hr =>
    simp only [Reads, Sh.size, List.take_succ_cons, List.take_zero, List.drop_succ_cons, List.drop_zero, List.cons.injEq, and_true] at hr
    obtain ⟨⟨x0, rfl, _⟩, ⟨x1, rfl, _⟩, ⟨x2, rfl, _⟩, ⟨x3, rfl, _⟩⟩ := hr
    simp only [Arg, Reads, List.cons.injEq, and_true] at g1
    obtain ⟨y0, rfl, l0⟩ := g1
    have l3 : 0 ≤ y0 ∧ y0 ≤ 255 := by
      simp [Lit.wf, IntKind.min, IntKind.max, IntKind.signed, IntKind.bits] at l0
      omega
    by_cases hM : May x0 x1 x2 x3
    · exact law_yes hM y0 l3.1 l3.2
    · exact law_no hM _
end
end Go.Proofs.Ytandaanfdpedhaa.PrV
