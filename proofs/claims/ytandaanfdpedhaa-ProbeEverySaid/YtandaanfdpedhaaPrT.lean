/-
  Walks over the prober's Tick and Pong.
-/
import Derived.Test.YtandaanfdpedhaaPrW
import Derived.StillTailTactics
namespace Go.Proofs.Ytandaanfdpedhaa.PrT
open Go.RowKit Go.Proofs.Ytandaanfdpedhaa.Kit Go.Proofs.Ytandaanfdpedhaa.PrP Go.Proofs.Ytandaanfdpedhaa.PrW
attribute [local go_sem high] max_imax min_imin
set_option linter.unusedVariables false
section
variable {g : Nat} {ev wt ms ht : Int} {p : Pb} {w : World}

theorem later_asked (ms : Int) (p : Pb) (t : Int) : (later ms p t).asked = p.asked := by
  unfold later missed
  (repeat' split) <;> rfl

theorem tick_no (hb : Blk w g 48 (pc ev wt ms ht p)) (hi : Inv ms ht p) (e0 : 1 ≤ ev) (e1 : ev ≤ 4294967296) (w0 : 1 ≤ wt) (w1 : wt ≤ ev) (m0 : 1 ≤ ms) (m1 : ms ≤ 100) (h0 : 1 ≤ ht) (ha : p.asked ≤ 1000000) (t : Int) (hlt : (later ms p t).now < (later ms p t).next) :
    Calls Try.prog 11 #[.pointer (some ⟨g, 0, none⟩), .int .i64 t] w fun e w' =>
      e = .returned (.tuple #[.int .u64 0, .bool false]) ∧ Blk w' g 48 (pc ev wt ms ht (later ms p t)) ∧ Chg (fun k => k = g) w w' := by
  have HB := Lib.hid hb
  have hq := hi.later m0 h0 t
  have hqa := later_asked ms p t
  have k0 := hi.miss0
  have k1 := hi.miss1
  clear hb hi
  obtain ⟨q, HQ⟩ : ∃ q, Hid (later ms p t = q) := ⟨_, rfl⟩
  rw [HQ.out] at hq hqa hlt ⊢
  obtain ⟨now, next, asked, ends, miss, hit, up⟩ := q
  obtain ⟨q1, q2, q3, q4, q5, q6, q7, q8, q9, q10, q11⟩ := hq
  simp only at q1 q2 q3 q4 q5 q6 q7 q8 q9 q10 q11 hqa hlt ⊢
  go_enter Try.func11, Try.ntmps11
  go_wp2_with fail
  refine (ok_any HB.out (by omega)).mono ?_
  rintro e wa ⟨rfl, nd, rfl⟩
  go_wp2_with fail
  refine (later_any (HB.out.drewN nd) k0 (by omega) t).mono ?_
  rintro e wb ⟨rfl, hb2, hc2⟩
  rw [HQ.out] at hb2
  have HB2 := Lib.hid hb2
  have HC2 := Lib.hid (((Chg.refl (fun k => k = g) w).drewN nd).then hc2 (fun i _ hi => hi))
  have c4 : wb.cell? ⟨g, 4, none⟩ = some (.int .i64 now) := hb2.cell 4 rfl
  have c5 : wb.cell? ⟨g, 5, none⟩ = some (.int .i64 next) := hb2.cell 5 rfl
  have c7 : wb.cell? ⟨g, 7, none⟩ = some (.int .i64 ends) := hb2.cell 7 rfl
  clear hb2 hc2
  go_upto_region 4 with (fail)
  go_big_quiet (fail)
  go_wp2
  go_ret2
  exact ⟨rfl, HB2.out.drewN _, HC2.out.drewN _⟩

theorem tick_yes (hb : Blk w g 48 (pc ev wt ms ht p)) (hi : Inv ms ht p) (e0 : 1 ≤ ev) (e1 : ev ≤ 4294967296) (w0 : 1 ≤ wt) (w1 : wt ≤ ev) (m0 : 1 ≤ ms) (m1 : ms ≤ 100) (h0 : 1 ≤ ht) (ha : p.asked ≤ 1000000) (t : Int) (hlt : (later ms p t).next ≤ (later ms p t).now) :
    Calls Try.prog 11 #[.pointer (some ⟨g, 0, none⟩), .int .i64 t] w fun e w' =>
      e = .returned (.tuple #[.int .u64 (p.asked + 1), .bool true]) ∧ Blk w' g 48 (pc ev wt ms ht (PrP.ask ev wt ms (later ms p t))) ∧ Chg (fun k => k = g) w w' := by
  have HB := Lib.hid hb
  have hq := hi.later m0 h0 t
  have hqa := later_asked ms p t
  have k0 := hi.miss0
  have k1 := hi.miss1
  clear hb hi
  obtain ⟨q, HQ⟩ : ∃ q, Hid (later ms p t = q) := ⟨_, rfl⟩
  rw [HQ.out] at hq hqa hlt ⊢
  obtain ⟨now, next, asked, ends, miss, hit, up⟩ := q
  obtain ⟨q1, q2, q3, q4, q5, q6, q7, q8, q9, q10, q11⟩ := hq
  simp only at q1 q2 q3 q4 q5 q6 q7 q8 q9 q10 q11 hqa hlt ⊢
  go_enter Try.func11, Try.ntmps11
  go_wp2_with fail
  refine (ok_any HB.out (by omega)).mono ?_
  rintro e wa ⟨rfl, nd, rfl⟩
  go_wp2_with fail
  refine (later_any (HB.out.drewN nd) k0 (by omega) t).mono ?_
  rintro e wb ⟨rfl, hb2, hc2⟩
  rw [HQ.out] at hb2
  have HB2 := Lib.hid hb2
  have HC2 := Lib.hid (((Chg.refl (fun k => k = g) w).drewN nd).then hc2 (fun i _ hi => hi))
  have c4 : wb.cell? ⟨g, 4, none⟩ = some (.int .i64 now) := hb2.cell 4 rfl
  have c5 : wb.cell? ⟨g, 5, none⟩ = some (.int .i64 next) := hb2.cell 5 rfl
  have c7 : wb.cell? ⟨g, 7, none⟩ = some (.int .i64 ends) := hb2.cell 7 rfl
  clear hb2 hc2
  go_upto_region 4 with (fail)
  go_big_quiet (fail)
  go_upto_if 25 with (fail)
  go_cut [] (fun wx => Hid (Blk wx g 48 (pc ev wt ms ht (if 0 ≤ ends then missed ms ⟨now, next, asked, ends, miss, hit, up⟩ else ⟨now, next, asked, ends, miss, hit, up⟩))) ∧ Hid (Chg (fun k => k = g) w wx))
  case first =>
    by_cases he : 0 ≤ ends
    · have HM := Lib.hid (show (if 0 ≤ ends then missed ms ⟨now, next, asked, ends, miss, hit, up⟩ else ⟨now, next, asked, ends, miss, hit, up⟩) = missed ms ⟨now, next, asked, ends, miss, hit, up⟩ from if_pos he)
      go_wp2_with fail
      refine (missed_any (HB2.out.drewN _) q8 (by show miss ≤ 100; omega)).mono ?_
      rintro e wx ⟨rfl, hb3, hc3⟩
      go_wp2
      go_meet
      exact ⟨by rw [HM.out]; exact hb3, (HC2.out.drewN _).then hc3 (fun i _ hi => hi)⟩
    · have HM := Lib.hid (show (if 0 ≤ ends then missed ms ⟨now, next, asked, ends, miss, hit, up⟩ else ⟨now, next, asked, ends, miss, hit, up⟩) = ⟨now, next, asked, ends, miss, hit, up⟩ from if_neg he)
      go_wp2
      go_meet
      exact ⟨by rw [HM.out]; exact HB2.out.drewN _, HC2.out.drewN _⟩
  case rest =>
    obtain ⟨HB3, HC3⟩ := hcut
    clear c4 c5 c7
    obtain ⟨r, HR⟩ : ∃ r, Hid ((if 0 ≤ ends then missed ms ⟨now, next, asked, ends, miss, hit, up⟩ else ⟨now, next, asked, ends, miss, hit, up⟩) = r) := ⟨_, rfl⟩
    have hrn : r.now = now ∧ r.asked = asked := by
      rw [← HR.out]
      unfold missed
      (repeat' split) <;> exact ⟨rfl, rfl⟩
    rw [HR.out] at HB3
    obtain ⟨now', next', asked', ends', miss', hit', up'⟩ := r
    simp only at hrn
    obtain ⟨rfl, rfl⟩ := hrn
    have HA := Lib.hid (show PrP.ask ev wt ms ⟨now', next, asked', ends, miss, hit, up⟩ = ⟨now', now' + ev, asked' + 1, now' + wt, miss', hit', up'⟩ from by
      show (⟨_, _, _, _, _, _, _⟩ : Pb) = _
      rw [HR.out])
    have c0 : wc.cell? ⟨g, 0, none⟩ = some (.int .i64 ev) := HB3.out.cell 0 rfl
    have c1 : wc.cell? ⟨g, 1, none⟩ = some (.int .i64 wt) := HB3.out.cell 1 rfl
    have c4 : wc.cell? ⟨g, 4, none⟩ = some (.int .i64 now') := HB3.out.cell 4 rfl
    have c6 : wc.cell? ⟨g, 6, none⟩ = some (.int .u64 asked') := HB3.out.cell 6 rfl
    have c5 : wc.cell? ⟨g, 5, none⟩ = some (.int .i64 next') := HB3.out.cell 5 rfl
    have c7 : wc.cell? ⟨g, 7, none⟩ = some (.int .i64 ends') := HB3.out.cell 7 rfl
    have f5 := HB3.out.frozen 5
    have f6 := HB3.out.frozen 6
    have f7 := HB3.out.frozen 7
    go_upto_region 9 with (fail)
    go_region
    have b9 : Blk (((wc.setCell ⟨g, 6, none⟩ (.int .u64 (p.asked + 1))).setCell ⟨g, 5, none⟩ (.int .i64 (now' + ev))).setCell ⟨g, 7, none⟩ (.int .i64 (now' + wt))).drew g 48 (pc ev wt ms ht ⟨now', now' + ev, p.asked + 1, now' + wt, miss', hit', up'⟩) := (((HB3.out.set 6 _).set 5 _).set 7 _).drew
    have k9 : Chg (fun k => k = g) w (((wc.setCell ⟨g, 6, none⟩ (.int .u64 (p.asked + 1))).setCell ⟨g, 5, none⟩ (.int .i64 (now' + ev))).setCell ⟨g, 7, none⟩ (.int .i64 (now' + wt))).drew := (((HC3.out.set (.inl rfl) _).set (.inl rfl) _).set (.inl rfl) _).drew
    obtain ⟨W9, HW9⟩ : ∃ W, Hid ((((wc.setCell ⟨g, 6, none⟩ (.int .u64 (p.asked + 1))).setCell ⟨g, 5, none⟩ (.int .i64 (now' + ev))).setCell ⟨g, 7, none⟩ (.int .i64 (now' + wt))).drew = W) := ⟨_, rfl⟩
    rw [HW9.out] at b9 k9 ⊢
    clear HW9 c0 c1 c4 c5 c6 c7 f5 f6 f7
    have c6 : W9.cell? ⟨g, 6, none⟩ = some (.int .u64 (p.asked + 1)) := b9.cell 6 rfl
    have HB9 := Lib.hid b9
    have HC9 := Lib.hid k9
    clear b9 k9
    go_wp2
    go_ret2
    exact ⟨rfl, (by have e : asked' = p.asked := hqa; rw [HA.out, e]; exact HB9.out), HC9.out⟩

theorem pong_no (hb : Blk w g 48 (pc ev wt ms ht p)) (hi : Inv ms ht p) (e0 : 1 ≤ ev) (m0 : 1 ≤ ms) (m1 : ms ≤ 100) (h0 : 1 ≤ ht) (h1 : ht ≤ 100) (t n : Int) (hlt : (later ms p t).ends < 0 ∨ ¬ n = (later ms p t).asked) :
    Calls Try.prog 12 #[.pointer (some ⟨g, 0, none⟩), .int .i64 t, .int .u64 n] w fun e w' =>
      e = .returned (.bool false) ∧ Blk w' g 48 (pc ev wt ms ht (later ms p t)) ∧ Chg (fun k => k = g) w w' := by
  have HB := Lib.hid hb
  have hq := hi.later m0 h0 t
  have hqa := later_asked ms p t
  have k0 := hi.miss0
  have k1 := hi.miss1
  clear hb hi
  obtain ⟨q, HQ⟩ : ∃ q, Hid (later ms p t = q) := ⟨_, rfl⟩
  rw [HQ.out] at hq hqa hlt ⊢
  obtain ⟨now, next, asked, ends, miss, hit, up⟩ := q
  obtain ⟨q1, q2, q3, q4, q5, q6, q7, q8, q9, q10, q11⟩ := hq
  simp only at q1 q2 q3 q4 q5 q6 q7 q8 q9 q10 q11 hqa hlt ⊢
  go_enter Try.func12, Try.ntmps12
  go_wp2_with fail
  refine (ok_any HB.out (by omega)).mono ?_
  rintro e wa ⟨rfl, nd, rfl⟩
  go_wp2_with fail
  refine (later_any (HB.out.drewN nd) k0 (by omega) t).mono ?_
  rintro e wb ⟨rfl, hb2, hc2⟩
  rw [HQ.out] at hb2
  have HB2 := Lib.hid hb2
  have HC2 := Lib.hid (((Chg.refl (fun k => k = g) w).drewN nd).then hc2 (fun i _ hi => hi))
  have c6 : wb.cell? ⟨g, 6, none⟩ = some (.int .u64 asked) := hb2.cell 6 rfl
  have c9 : wb.cell? ⟨g, 9, none⟩ = some (.int .i64 hit) := hb2.cell 9 rfl
  have f7 := hb2.frozen 7
  have f8 := hb2.frozen 8
  have f9 := hb2.frozen 9
  have c8 : wb.cell? ⟨g, 8, none⟩ = some (.int .i64 miss) := hb2.cell 8 rfl
  have c4 : wb.cell? ⟨g, 4, none⟩ = some (.int .i64 now) := hb2.cell 4 rfl
  have c5 : wb.cell? ⟨g, 5, none⟩ = some (.int .i64 next) := hb2.cell 5 rfl
  have c7 : wb.cell? ⟨g, 7, none⟩ = some (.int .i64 ends) := hb2.cell 7 rfl
  clear hb2 hc2
  by_cases he : ends < 0
  · go_wp2
    go_ret
    exact ⟨rfl, HB2.out, HC2.out⟩
  · have hn : (n == p.asked) = false := by
      rcases hlt with h | h
      · exact absurd h he
      · rw [hqa] at h
        simpa using h
    have hn2 : ¬ n = p.asked := by simpa using hn
    have hn3 : (n != p.asked) = true := by simpa using hn2
    have he2 : 0 ≤ ends := by omega
    clear hlt
    go_wp2
    go_ret
    exact ⟨rfl, HB2.out, HC2.out⟩

theorem pong_yes (hb : Blk w g 48 (pc ev wt ms ht p)) (hi : Inv ms ht p) (e0 : 1 ≤ ev) (m0 : 1 ≤ ms) (m1 : ms ≤ 100) (h0 : 1 ≤ ht) (h1 : ht ≤ 100) (t n : Int) (hlt : 0 ≤ (later ms p t).ends ∧ n = (later ms p t).asked) :
    Calls Try.prog 12 #[.pointer (some ⟨g, 0, none⟩), .int .i64 t, .int .u64 n] w fun e w' =>
      e = .returned (.bool true) ∧ Blk w' g 48 (pc ev wt ms ht (came ht (later ms p t))) ∧ Chg (fun k => k = g) w w' := by
  have HB := Lib.hid hb
  have hq := hi.later m0 h0 t
  have hqa := later_asked ms p t
  have k0 := hi.miss0
  have k1 := hi.miss1
  clear hb hi
  obtain ⟨q, HQ⟩ : ∃ q, Hid (later ms p t = q) := ⟨_, rfl⟩
  rw [HQ.out] at hq hqa hlt ⊢
  obtain ⟨now, next, asked, ends, miss, hit, up⟩ := q
  obtain ⟨q1, q2, q3, q4, q5, q6, q7, q8, q9, q10, q11⟩ := hq
  simp only at q1 q2 q3 q4 q5 q6 q7 q8 q9 q10 q11 hqa hlt ⊢
  go_enter Try.func12, Try.ntmps12
  go_wp2_with fail
  refine (ok_any HB.out (by omega)).mono ?_
  rintro e wa ⟨rfl, nd, rfl⟩
  go_wp2_with fail
  refine (later_any (HB.out.drewN nd) k0 (by omega) t).mono ?_
  rintro e wb ⟨rfl, hb2, hc2⟩
  rw [HQ.out] at hb2
  have HB2 := Lib.hid hb2
  have HC2 := Lib.hid (((Chg.refl (fun k => k = g) w).drewN nd).then hc2 (fun i _ hi => hi))
  have c6 : wb.cell? ⟨g, 6, none⟩ = some (.int .u64 asked) := hb2.cell 6 rfl
  have c9 : wb.cell? ⟨g, 9, none⟩ = some (.int .i64 hit) := hb2.cell 9 rfl
  have f7 := hb2.frozen 7
  have f8 := hb2.frozen 8
  have f9 := hb2.frozen 9
  have c8 : wb.cell? ⟨g, 8, none⟩ = some (.int .i64 miss) := hb2.cell 8 rfl
  have c4 : wb.cell? ⟨g, 4, none⟩ = some (.int .i64 now) := hb2.cell 4 rfl
  have c5 : wb.cell? ⟨g, 5, none⟩ = some (.int .i64 next) := hb2.cell 5 rfl
  have c7 : wb.cell? ⟨g, 7, none⟩ = some (.int .i64 ends) := hb2.cell 7 rfl
  clear hb2 hc2
  obtain ⟨he, hn⟩ := hlt
  rw [hqa] at hn
  subst hn
  by_cases hh : hit + 1 = ht
  · have HM := Lib.hid (show came ht ⟨now, next, asked, ends, miss, hit, up⟩ = ⟨now, next, asked, -1, 0, 0, true⟩ from if_pos hh)
    have heb : (hit + 1 == ht) = true := by simpa using hh
    clear hh
    go_wp2
    have b1 : Blk (((wb.setCell ⟨g, 7, none⟩ (.int .i64 (-1))).setCell ⟨g, 8, none⟩ (.int .i64 0)).setCell ⟨g, 9, none⟩ (.int .i64 (hit + 1))) g 48 (pc ev wt ms ht ⟨now, next, asked, -1, 0, hit + 1, up⟩) := ((HB2.out.set 7 _).set 8 _).set 9 _
    have k1 : Chg (fun k => k = g) w (((wb.setCell ⟨g, 7, none⟩ (.int .i64 (-1))).setCell ⟨g, 8, none⟩ (.int .i64 0)).setCell ⟨g, 9, none⟩ (.int .i64 (hit + 1))) := ((HC2.out.set (.inl rfl) _).set (.inl rfl) _).set (.inl rfl) _
    obtain ⟨W1, HW1⟩ : ∃ W1, Hid (((wb.setCell ⟨g, 7, none⟩ (.int .i64 (-1))).setCell ⟨g, 8, none⟩ (.int .i64 0)).setCell ⟨g, 9, none⟩ (.int .i64 (hit + 1)) = W1) := ⟨_, rfl⟩
    rw [HW1.out] at b1 k1 ⊢
    clear HW1 c4 c5 c6 c7 c8 c9 f7 f8 f9
    have c3 : W1.cell? ⟨g, 3, none⟩ = some (.int .i64 ht) := b1.cell 3 rfl
    have c9 : W1.cell? ⟨g, 9, none⟩ = some (.int .i64 (hit + 1)) := b1.cell 9 rfl
    have c10 : W1.cell? ⟨g, 10, none⟩ = some (.bool up) := b1.cell 10 rfl
    have f9 := b1.frozen 9
    have f10 := b1.frozen 10
    have HB1 := Lib.hid b1
    have HK1 := Lib.hid k1
    clear b1 k1
    go_big_quiet (fail)
    go_wp2
    go_ret
    exact ⟨rfl, by rw [HM.out]; exact ((HB1.out.drewN _).set 10 _).set 9 _, ((HK1.out.drewN _).set (.inl rfl) _).set (.inl rfl) _⟩
  · have HM := Lib.hid (show came ht ⟨now, next, asked, ends, miss, hit, up⟩ = ⟨now, next, asked, -1, 0, hit + 1, up⟩ from if_neg hh)
    have heb : (hit + 1 == ht) = false := by simpa using hh
    clear hh
    go_wp2
    have b1 : Blk (((wb.setCell ⟨g, 7, none⟩ (.int .i64 (-1))).setCell ⟨g, 8, none⟩ (.int .i64 0)).setCell ⟨g, 9, none⟩ (.int .i64 (hit + 1))) g 48 (pc ev wt ms ht ⟨now, next, asked, -1, 0, hit + 1, up⟩) := ((HB2.out.set 7 _).set 8 _).set 9 _
    have k1 : Chg (fun k => k = g) w (((wb.setCell ⟨g, 7, none⟩ (.int .i64 (-1))).setCell ⟨g, 8, none⟩ (.int .i64 0)).setCell ⟨g, 9, none⟩ (.int .i64 (hit + 1))) := ((HC2.out.set (.inl rfl) _).set (.inl rfl) _).set (.inl rfl) _
    obtain ⟨W1, HW1⟩ : ∃ W1, Hid (((wb.setCell ⟨g, 7, none⟩ (.int .i64 (-1))).setCell ⟨g, 8, none⟩ (.int .i64 0)).setCell ⟨g, 9, none⟩ (.int .i64 (hit + 1)) = W1) := ⟨_, rfl⟩
    rw [HW1.out] at b1 k1 ⊢
    clear HW1 c4 c5 c6 c7 c8 c9 f7 f8 f9
    have c3 : W1.cell? ⟨g, 3, none⟩ = some (.int .i64 ht) := b1.cell 3 rfl
    have c9 : W1.cell? ⟨g, 9, none⟩ = some (.int .i64 (hit + 1)) := b1.cell 9 rfl
    have c10 : W1.cell? ⟨g, 10, none⟩ = some (.bool up) := b1.cell 10 rfl
    have f9 := b1.frozen 9
    have f10 := b1.frozen 10
    have HB1 := Lib.hid b1
    have HK1 := Lib.hid k1
    clear b1 k1
    go_big_quiet (fail)
    go_wp2
    go_ret
    exact ⟨rfl, by rw [HM.out]; exact HB1.out.drewN _, HK1.out.drewN _⟩
end
end Go.Proofs.Ytandaanfdpedhaa.PrT
