/-
  Walks over Tick and Pong of the document's own prober.
-/
import Derived.Test.YtandaanfdpedhaaPrR
namespace Go.Proofs.Ytandaanfdpedhaa.PrS
open Go.RowKit Go.Proofs.Ytandaanfdpedhaa.Kit Go.Proofs.Ytandaanfdpedhaa.PrP Go.Proofs.Ytandaanfdpedhaa.PrR
attribute [local go_sem high] max_imax min_imin
set_option linter.unusedVariables false
section
variable {g : Nat} {ev wt ms ht a : Int} {p : Pb} {w : World}

theorem later_asked (ms : Int) (p : Pb) (t : Int) : (later ms p t).asked = p.asked := by
  unfold later missed
  (repeat' split) <;> rfl
theorem later_ends (ms : Int) (p : Pb) (t : Int) (h : 0 ≤ (later ms p t).ends) : (later ms p t).ends = p.ends := by
  unfold later missed at *
  by_cases h1 : 0 ≤ p.ends ∧ p.ends ≤ nowOf p.now t
  · rw [if_pos h1] at *
    by_cases h2 : p.miss + 1 = ms
    · rw [if_pos h2] at h; simp at h
    · rw [if_neg h2] at h; simp at h
  · rw [if_neg h1] at *

theorem tick_no (hb : Blk w g 45 (rc ev wt ms ht p a)) (hi : Inv ms ht p) (ha : 0 ≤ p.ends → a + wt = p.ends) (e0 : 1 ≤ ev) (e1 : ev ≤ 4294967296) (w0 : 1 ≤ wt) (w1 : wt ≤ ev) (m0 : 1 ≤ ms) (m1 : ms ≤ 100) (h0 : 1 ≤ ht) (t : Int) (hlt : (later ms p t).now < (later ms p t).next) :
    Calls Try.prog 16 #[.pointer (some ⟨g, 0, none⟩), .int .i64 t] w fun e w' =>
      e = .returned (.tuple #[.int .u64 0, .bool false]) ∧ Blk w' g 45 (rc ev wt ms ht (later ms p t) a) ∧ Chg (fun k => k = g) w w' := by
  have HB := Lib.hid hb
  have HI := Lib.hid hi
  have HA := Lib.hid ha
  clear hb hi ha
  obtain ⟨q, HQ⟩ : ∃ q, Hid (later ms p t = q) := ⟨_, rfl⟩
  rw [HQ.out] at hlt ⊢
  obtain ⟨now, next, asked, ends, miss, hit, up⟩ := q
  simp only at hlt ⊢
  go_enter Try.func16, Try.ntmps16
  go_wp2_with fail
  refine (PrR.later_any HB.out HI.out m0 m1 h0 HA.out w0 (by omega) t).mono ?_
  rintro e wb ⟨rfl, hb2, hc2⟩
  rw [HQ.out] at hb2
  have HB2 := Lib.hid hb2
  have HC2 := Lib.hid hc2
  have c4 : wb.cell? ⟨g, 4, none⟩ = some (.int .i64 now) := hb2.cell 4 rfl
  have c5 : wb.cell? ⟨g, 5, none⟩ = some (.int .i64 next) := hb2.cell 5 rfl
  clear hb2 hc2
  go_upto_region 2 with (fail)
  go_big_quiet (fail)
  go_wp2
  go_ret2
  exact ⟨rfl, HB2.out.drewN _, HC2.out.drewN _⟩

theorem pong_no (hb : Blk w g 45 (rc ev wt ms ht p a)) (hi : Inv ms ht p) (ha : 0 ≤ p.ends → a + wt = p.ends) (e0 : 1 ≤ ev) (e1 : ev ≤ 4294967296) (w0 : 1 ≤ wt) (w1 : wt ≤ ev) (m0 : 1 ≤ ms) (m1 : ms ≤ 100) (h0 : 1 ≤ ht) (t n : Int) (hlt : (later ms p t).ends < 0 ∨ ¬ n = (later ms p t).asked) :
    Calls Try.prog 17 #[.pointer (some ⟨g, 0, none⟩), .int .i64 t, .int .u64 n] w fun e w' =>
      e = .returned (.bool false) ∧ Blk w' g 45 (rc ev wt ms ht (later ms p t) a) ∧ Chg (fun k => k = g) w w' := by
  have HB := Lib.hid hb
  have HI := Lib.hid hi
  have HA := Lib.hid ha
  clear hb hi ha
  obtain ⟨q, HQ⟩ : ∃ q, Hid (later ms p t = q) := ⟨_, rfl⟩
  rw [HQ.out] at hlt ⊢
  obtain ⟨now, next, asked, ends, miss, hit, up⟩ := q
  simp only at hlt ⊢
  go_enter Try.func17, Try.ntmps17
  go_wp2_with fail
  refine (PrR.later_any HB.out HI.out m0 m1 h0 HA.out w0 (by omega) t).mono ?_
  rintro e wb ⟨rfl, hb2, hc2⟩
  rw [HQ.out] at hb2
  have HB2 := Lib.hid hb2
  have HC2 := Lib.hid hc2
  have c6 : wb.cell? ⟨g, 6, none⟩ = some (.int .u64 asked) := hb2.cell 6 rfl
  by_cases he : ends < 0
  · have c7 : wb.cell? ⟨g, 7, none⟩ = some (.bool false) := hb2.cell 7 (by simp [rc]; omega)
    clear hb2 hc2 hlt
    go_wp2
    go_ret
    exact ⟨rfl, HB2.out, HC2.out⟩
  · have c7 : wb.cell? ⟨g, 7, none⟩ = some (.bool true) := hb2.cell 7 (by simp [rc]; omega)
    have hn : ¬ n = asked := by
      rcases hlt with h | h
      · exact absurd h he
      · exact h
    have hn3 : (n != asked) = true := by simpa using hn
    clear hb2 hc2 hlt
    go_wp2
    go_ret
    exact ⟨rfl, HB2.out, HC2.out⟩

theorem pong_yes (hb : Blk w g 45 (rc ev wt ms ht p a)) (hi : Inv ms ht p) (ha : 0 ≤ p.ends → a + wt = p.ends) (e0 : 1 ≤ ev) (e1 : ev ≤ 4294967296) (w0 : 1 ≤ wt) (w1 : wt ≤ ev) (m0 : 1 ≤ ms) (m1 : ms ≤ 100) (h0 : 1 ≤ ht) (h1 : ht ≤ 100) (t n : Int) (hlt : 0 ≤ (later ms p t).ends ∧ n = (later ms p t).asked) :
    Calls Try.prog 17 #[.pointer (some ⟨g, 0, none⟩), .int .i64 t, .int .u64 n] w fun e w' =>
      e = .returned (.bool true) ∧ Blk w' g 45 (rc ev wt ms ht (came ht (later ms p t)) a) ∧ Chg (fun k => k = g) w w' := by
  have HB := Lib.hid hb
  have HI := Lib.hid hi
  have HA := Lib.hid ha
  clear hb hi ha
  obtain ⟨q, HQ⟩ : ∃ q, Hid (later ms p t = q) := ⟨_, rfl⟩
  have hq := HI.out.later m0 h0 t
  rw [HQ.out] at hlt hq ⊢
  obtain ⟨now, next, asked, ends, miss, hit, up⟩ := q
  obtain ⟨q1, q2, q3, q4, q5, q6, q7, q8, q9, q10, q11⟩ := hq
  simp only at hlt q10 q11 ⊢
  clear q1 q2 q3 q4 q5 q6 q7 q8 q9
  go_enter Try.func17, Try.ntmps17
  go_wp2_with fail
  refine (PrR.later_any HB.out HI.out m0 m1 h0 HA.out w0 (by omega) t).mono ?_
  rintro e wb ⟨rfl, hb2, hc2⟩
  rw [HQ.out] at hb2
  have HB2 := Lib.hid hb2
  have HC2 := Lib.hid hc2
  have c6 : wb.cell? ⟨g, 6, none⟩ = some (.int .u64 asked) := hb2.cell 6 rfl
  obtain ⟨he, hn⟩ := hlt
  subst hn
  have c7 : wb.cell? ⟨g, 7, none⟩ = some (.bool true) := hb2.cell 7 (by simp [rc]; omega)
  have c9 : wb.cell? ⟨g, 9, none⟩ = some (.int .i64 miss) := hb2.cell 9 rfl
  have c10 : wb.cell? ⟨g, 10, none⟩ = some (.int .i64 hit) := hb2.cell 10 rfl
  have f7 := hb2.frozen 7
  have f9 := hb2.frozen 9
  have f10 := hb2.frozen 10
  clear hb2 hc2
  by_cases hh : ht ≤ hit + 1
  · have HM := Lib.hid (show came ht ⟨now, next, n, ends, miss, hit, up⟩ = ⟨now, next, n, -1, 0, 0, true⟩ from if_pos (show hit + 1 = ht by omega))
    go_wp2
    have b1 : Blk (((wb.setCell ⟨g, 7, none⟩ (.bool false)).setCell ⟨g, 9, none⟩ (.int .i64 0)).setCell ⟨g, 10, none⟩ (.int .i64 (hit + 1))) g 45 (rc ev wt ms ht ⟨now, next, n, -1, 0, hit + 1, up⟩ a) := ((HB2.out.set 7 _).set 9 _).set 10 _
    have k1 : Chg (fun k => k = g) w (((wb.setCell ⟨g, 7, none⟩ (.bool false)).setCell ⟨g, 9, none⟩ (.int .i64 0)).setCell ⟨g, 10, none⟩ (.int .i64 (hit + 1))) := ((HC2.out.set (.inl rfl) _).set (.inl rfl) _).set (.inl rfl) _
    obtain ⟨W1, HW1⟩ : ∃ W1, Hid (((wb.setCell ⟨g, 7, none⟩ (.bool false)).setCell ⟨g, 9, none⟩ (.int .i64 0)).setCell ⟨g, 10, none⟩ (.int .i64 (hit + 1)) = W1) := ⟨_, rfl⟩
    rw [HW1.out] at b1 k1 ⊢
    clear HW1 c6 c7 c9 c10 f7 f9 f10
    have c3 : W1.cell? ⟨g, 3, none⟩ = some (.int .i64 ht) := b1.cell 3 rfl
    have c10 : W1.cell? ⟨g, 10, none⟩ = some (.int .i64 (hit + 1)) := b1.cell 10 rfl
    have c11 : W1.cell? ⟨g, 11, none⟩ = some (.bool up) := b1.cell 11 rfl
    have f10 := b1.frozen 10
    have f11 := b1.frozen 11
    have HB1 := Lib.hid b1
    have HK1 := Lib.hid k1
    clear b1 k1
    go_big_quiet (fail)
    go_wp2
    go_ret
    exact ⟨rfl, by rw [HM.out]; exact ((HB1.out.drewN _).set 11 _).set 10 _, ((HK1.out.drewN _).set (.inl rfl) _).set (.inl rfl) _⟩
  · have HM := Lib.hid (show came ht ⟨now, next, n, ends, miss, hit, up⟩ = ⟨now, next, n, -1, 0, hit + 1, up⟩ from if_neg (show ¬ hit + 1 = ht by omega))
    go_wp2
    have b1 : Blk (((wb.setCell ⟨g, 7, none⟩ (.bool false)).setCell ⟨g, 9, none⟩ (.int .i64 0)).setCell ⟨g, 10, none⟩ (.int .i64 (hit + 1))) g 45 (rc ev wt ms ht ⟨now, next, n, -1, 0, hit + 1, up⟩ a) := ((HB2.out.set 7 _).set 9 _).set 10 _
    have k1 : Chg (fun k => k = g) w (((wb.setCell ⟨g, 7, none⟩ (.bool false)).setCell ⟨g, 9, none⟩ (.int .i64 0)).setCell ⟨g, 10, none⟩ (.int .i64 (hit + 1))) := ((HC2.out.set (.inl rfl) _).set (.inl rfl) _).set (.inl rfl) _
    obtain ⟨W1, HW1⟩ : ∃ W1, Hid (((wb.setCell ⟨g, 7, none⟩ (.bool false)).setCell ⟨g, 9, none⟩ (.int .i64 0)).setCell ⟨g, 10, none⟩ (.int .i64 (hit + 1)) = W1) := ⟨_, rfl⟩
    rw [HW1.out] at b1 k1 ⊢
    clear HW1 c6 c7 c9 c10 f7 f9 f10
    have c3 : W1.cell? ⟨g, 3, none⟩ = some (.int .i64 ht) := b1.cell 3 rfl
    have c10 : W1.cell? ⟨g, 10, none⟩ = some (.int .i64 (hit + 1)) := b1.cell 10 rfl
    have c11 : W1.cell? ⟨g, 11, none⟩ = some (.bool up) := b1.cell 11 rfl
    have f10 := b1.frozen 10
    have f11 := b1.frozen 11
    have HB1 := Lib.hid b1
    have HK1 := Lib.hid k1
    clear b1 k1
    go_big_quiet (fail)
    go_wp2
    go_ret
    exact ⟨rfl, by rw [HM.out]; exact HB1.out.drewN _, HK1.out.drewN _⟩

theorem tick_yes (hb : Blk w g 45 (rc ev wt ms ht p a)) (hi : Inv ms ht p) (ha : 0 ≤ p.ends → a + wt = p.ends) (e0 : 1 ≤ ev) (e1 : ev ≤ 4294967296) (w0 : 1 ≤ wt) (w1 : wt ≤ ev) (m0 : 1 ≤ ms) (m1 : ms ≤ 100) (h0 : 1 ≤ ht) (hq3 : p.asked ≤ 1000000) (t : Int) (hlt : (later ms p t).next ≤ (later ms p t).now) :
    Calls Try.prog 16 #[.pointer (some ⟨g, 0, none⟩), .int .i64 t] w fun e w' =>
      e = .returned (.tuple #[.int .u64 ((later ms p t).asked + 1), .bool true]) ∧ Blk w' g 45 (rc ev wt ms ht (PrP.ask ev wt ms (later ms p t)) (later ms p t).now) ∧ Chg (fun k => k = g) w w' := by
  have HB := Lib.hid hb
  have HI := Lib.hid hi
  have HA := Lib.hid ha
  clear hb hi ha
  obtain ⟨q, HQ⟩ : ∃ q, Hid (later ms p t = q) := ⟨_, rfl⟩
  have hq := HI.out.later m0 h0 t
  have hqa := later_asked ms p t
  rw [HQ.out] at hlt hq hqa ⊢
  obtain ⟨now, next, asked, ends, miss, hit, up⟩ := q
  obtain ⟨q1, q2, q3, q4, q5, q6, q7, q8, q9, q10, q11⟩ := hq
  simp only at hlt hqa q1 q2 q3 q4 q5 q6 q7 q8 q9 q10 q11 ⊢
  have hqb : asked ≤ 1000000 := by omega
  clear hqa
  go_enter Try.func16, Try.ntmps16
  go_wp2_with fail
  refine (PrR.later_any HB.out HI.out m0 m1 h0 HA.out w0 (by omega) t).mono ?_
  rintro e wb ⟨rfl, hb2, hc2⟩
  rw [HQ.out] at hb2
  have HB2 := Lib.hid hb2
  have HC2 := Lib.hid hc2
  obtain ⟨ob, HO⟩ : ∃ ob, Hid (decide (0 ≤ ends) = ob) := ⟨_, rfl⟩
  have c4 : wb.cell? ⟨g, 4, none⟩ = some (.int .i64 now) := hb2.cell 4 rfl
  have c5 : wb.cell? ⟨g, 5, none⟩ = some (.int .i64 next) := hb2.cell 5 rfl
  have c7 : wb.cell? ⟨g, 7, none⟩ = some (.bool ob) := by rw [← HO.out]; exact hb2.cell 7 rfl
  clear hb2 hc2
  go_upto_region 2 with (fail)
  go_big_quiet (fail)
  go_upto_if 21 with (fail)
  go_cut [] (fun wx => Hid (Blk wx g 45 (rc ev wt ms ht (if 0 ≤ ends then missed ms ⟨now, next, asked, ends, miss, hit, up⟩ else ⟨now, next, asked, ends, miss, hit, up⟩) a)) ∧ Hid (Chg (fun k => k = g) w wx))
  case first =>
    cases ob with
    | true =>
      have HM := Lib.hid (show (if 0 ≤ ends then missed ms ⟨now, next, asked, ends, miss, hit, up⟩ else ⟨now, next, asked, ends, miss, hit, up⟩) = missed ms ⟨now, next, asked, ends, miss, hit, up⟩ from if_pos (of_decide_eq_true HO.out))
      go_wp2_with fail
      refine (PrR.missed_any (HB2.out.drewN _) q8 q9 m1).mono ?_
      rintro e wx ⟨rfl, hb3, hc3⟩
      go_wp2
      go_meet
      exact ⟨by rw [HM.out]; exact hb3, (HC2.out.drewN _).then hc3 (fun i _ hi => hi)⟩
    | false =>
      have HM := Lib.hid (show (if 0 ≤ ends then missed ms ⟨now, next, asked, ends, miss, hit, up⟩ else ⟨now, next, asked, ends, miss, hit, up⟩) = ⟨now, next, asked, ends, miss, hit, up⟩ from if_neg (of_decide_eq_false HO.out))
      go_wp2
      go_meet
      exact ⟨by rw [HM.out]; exact HB2.out.drewN _, HC2.out.drewN _⟩
  case rest =>
    obtain ⟨HB3, HC3⟩ := hcut
    clear c4 c5 c7
    obtain ⟨r, HR⟩ : ∃ r, Hid ((if 0 ≤ ends then missed ms ⟨now, next, asked, ends, miss, hit, up⟩ else ⟨now, next, asked, ends, miss, hit, up⟩) = r) := ⟨_, rfl⟩
    have hrn : r.now = now ∧ r.asked = asked := by
      rw [← HR.out]
      unfold missed
      (repeat' split) <;> exact ⟨rfl, rfl⟩
    rw [HR.out] at HB3
    obtain ⟨now', next', asked', ends', miss', hit', up'⟩ := r
    simp only at hrn
    obtain ⟨rfl, rfl⟩ := hrn
    have HA2 := Lib.hid (show PrP.ask ev wt ms ⟨now', next, asked', ends, miss, hit, up⟩ = ⟨now', now' + ev, asked' + 1, now' + wt, miss', hit', up'⟩ from by
      show (⟨_, _, _, _, _, _, _⟩ : Pb) = _
      rw [HR.out])
    obtain ⟨o2, HO2⟩ : ∃ ob, Hid (decide (0 ≤ ends') = ob) := ⟨_, rfl⟩
    have c0 : wc.cell? ⟨g, 0, none⟩ = some (.int .i64 ev) := HB3.out.cell 0 rfl
    have c4 : wc.cell? ⟨g, 4, none⟩ = some (.int .i64 now') := HB3.out.cell 4 rfl
    have c5 : wc.cell? ⟨g, 5, none⟩ = some (.int .i64 next') := HB3.out.cell 5 rfl
    have c6 : wc.cell? ⟨g, 6, none⟩ = some (.int .u64 asked') := HB3.out.cell 6 rfl
    have c7 : wc.cell? ⟨g, 7, none⟩ = some (.bool o2) := by rw [← HO2.out]; exact HB3.out.cell 7 rfl
    have c8 : wc.cell? ⟨g, 8, none⟩ = some (.int .i64 a) := HB3.out.cell 8 rfl
    have f5 := HB3.out.frozen 5
    have f6 := HB3.out.frozen 6
    have f7 := HB3.out.frozen 7
    have f8 := HB3.out.frozen 8
    go_upto_region 8 with (fail)
    go_region
    have hd : decide (0 ≤ now' + wt) = true := by simp; omega
    have b9 : Blk (((((wc.setCell ⟨g, 6, none⟩ (.int .u64 (asked' + 1))).setCell ⟨g, 7, none⟩ (.bool true)).setCell ⟨g, 8, none⟩ (.int .i64 now')).setCell ⟨g, 5, none⟩ (.int .i64 (now' + ev))).drew) g 45 (rc ev wt ms ht ⟨now', now' + ev, asked' + 1, now' + wt, miss', hit', up'⟩ now') := by
      unfold rc
      simp only
      rw [hd]
      exact ((((HB3.out.set 6 _).set 7 _).set 8 _).set 5 _).drew
    have k9 : Chg (fun k => k = g) w (((((wc.setCell ⟨g, 6, none⟩ (.int .u64 (asked' + 1))).setCell ⟨g, 7, none⟩ (.bool true)).setCell ⟨g, 8, none⟩ (.int .i64 now')).setCell ⟨g, 5, none⟩ (.int .i64 (now' + ev))).drew) := ((((HC3.out.set (.inl rfl) _).set (.inl rfl) _).set (.inl rfl) _).set (.inl rfl) _).drew
    obtain ⟨W9, HW9⟩ : ∃ W, Hid ((((((wc.setCell ⟨g, 6, none⟩ (.int .u64 (asked' + 1))).setCell ⟨g, 7, none⟩ (.bool true)).setCell ⟨g, 8, none⟩ (.int .i64 now')).setCell ⟨g, 5, none⟩ (.int .i64 (now' + ev))).drew) = W) := ⟨_, rfl⟩
    rw [HW9.out] at b9 k9 ⊢
    clear HW9 hd c0 c4 c5 c6 c7 c8 f5 f6 f7 f8
    have c6 : W9.cell? ⟨g, 6, none⟩ = some (.int .u64 (asked' + 1)) := b9.cell 6 rfl
    have HB9 := Lib.hid b9
    have HC9 := Lib.hid k9
    clear b9 k9
    go_wp2
    go_ret2
    exact ⟨rfl, (by rw [HA2.out]; exact HB9.out), HC9.out⟩
end
end Go.Proofs.Ytandaanfdpedhaa.PrS
