/-
  Walks over the document's own prober.
-/
import Derived.Test.YtandaanfdpedhaaPrW
namespace Go.Proofs.Ytandaanfdpedhaa.PrR
open Go.RowKit Go.Proofs.Ytandaanfdpedhaa.Kit Go.Proofs.Ytandaanfdpedhaa.PrP
attribute [local go_sem high] max_imax min_imin
set_option linter.unusedVariables false

/-- The cells of the document's prober: whether one is open, and when it was asked, in the place of the end. -/
def rc (ev wt ms ht : Int) (p : Pb) (a : Int) : Array Value := #[.int .i64 ev, .int .i64 wt, .int .i64 ms, .int .i64 ht, .int .i64 p.now, .int .i64 p.next, .int .u64 p.asked, .bool (decide (0 ≤ p.ends)), .int .i64 a, .int .i64 p.miss, .int .i64 p.hit, .bool p.up]
section
variable {g : Nat} {ev wt ms ht a : Int} {p : Pb} {w : World}

theorem missed_any (hb : Blk w g 45 (rc ev wt ms ht p a)) (m0 : 0 ≤ p.miss) (m1 : p.miss < ms) (m2 : ms ≤ 100) :
    Calls Try.prog 27 #[.pointer (some ⟨g, 0, none⟩)] w fun e w' => e = .returned (.tuple #[]) ∧ Blk w' g 45 (rc ev wt ms ht (missed ms p) a) ∧ Chg (fun k => k = g) w w' := by
  obtain ⟨now, next, asked, ends, miss, hit, up⟩ := p
  simp only at m0 m1
  have HB := Lib.hid hb
  obtain ⟨ob, HO⟩ : ∃ ob, Hid (decide (0 ≤ ends) = ob) := ⟨_, rfl⟩
  have c7 : w.cell? ⟨g, 7, none⟩ = some (.bool ob) := by rw [← HO.out]; exact hb.cell 7 rfl
  have c9 : w.cell? ⟨g, 9, none⟩ = some (.int .i64 miss) := hb.cell 9 rfl
  have c10 : w.cell? ⟨g, 10, none⟩ = some (.int .i64 hit) := hb.cell 10 rfl
  have f7 := hb.frozen 7
  have f9 := hb.frozen 9
  have f10 := hb.frozen 10
  clear hb
  by_cases he : ms ≤ miss + 1
  · have HM := Lib.hid (show missed ms ⟨now, next, asked, ends, miss, hit, up⟩ = ⟨now, next, asked, -1, 0, 0, false⟩ from if_pos (show miss + 1 = ms by omega))
    go_enter Try.func27, Try.ntmps27
    go_wp2
    have b1 : Blk (((w.setCell ⟨g, 7, none⟩ (.bool false)).setCell ⟨g, 10, none⟩ (.int .i64 0)).setCell ⟨g, 9, none⟩ (.int .i64 (miss + 1))) g 45 (rc ev wt ms ht ⟨now, next, asked, -1, miss + 1, 0, up⟩ a) := ((HB.out.set 7 _).set 10 _).set 9 _
    have k1 : Chg (fun k => k = g) w (((w.setCell ⟨g, 7, none⟩ (.bool false)).setCell ⟨g, 10, none⟩ (.int .i64 0)).setCell ⟨g, 9, none⟩ (.int .i64 (miss + 1))) := (((Chg.refl (fun k => k = g) w).set (.inl rfl) _).set (.inl rfl) _).set (.inl rfl) _
    obtain ⟨W1, HW1⟩ : ∃ W1, Hid (((w.setCell ⟨g, 7, none⟩ (.bool false)).setCell ⟨g, 10, none⟩ (.int .i64 0)).setCell ⟨g, 9, none⟩ (.int .i64 (miss + 1)) = W1) := ⟨_, rfl⟩
    rw [HW1.out] at b1 k1 ⊢
    clear HW1 c7 c9 c10 f7 f9 f10
    have c2 : W1.cell? ⟨g, 2, none⟩ = some (.int .i64 ms) := b1.cell 2 rfl
    have c9 : W1.cell? ⟨g, 9, none⟩ = some (.int .i64 (miss + 1)) := b1.cell 9 rfl
    have c11 : W1.cell? ⟨g, 11, none⟩ = some (.bool up) := b1.cell 11 rfl
    have f9 := b1.frozen 9
    have f11 := b1.frozen 11
    have HB1 := Lib.hid b1
    have HK1 := Lib.hid k1
    clear b1 k1
    go_big_quiet (fail)
    go_wp2
    exact bodyPost_end (v := .tuple #[]) (by simp [results, Try.results27, go_sem]) rfl ⟨rfl, by rw [HM.out]; exact ((HB1.out.drewN _).set 11 _).set 9 _, ((HK1.out.drewN _).set (.inl rfl) _).set (.inl rfl) _⟩
  · have HM := Lib.hid (show missed ms ⟨now, next, asked, ends, miss, hit, up⟩ = ⟨now, next, asked, -1, miss + 1, 0, up⟩ from if_neg (show ¬ miss + 1 = ms by omega))
    go_enter Try.func27, Try.ntmps27
    go_wp2
    have b1 : Blk (((w.setCell ⟨g, 7, none⟩ (.bool false)).setCell ⟨g, 10, none⟩ (.int .i64 0)).setCell ⟨g, 9, none⟩ (.int .i64 (miss + 1))) g 45 (rc ev wt ms ht ⟨now, next, asked, -1, miss + 1, 0, up⟩ a) := ((HB.out.set 7 _).set 10 _).set 9 _
    have k1 : Chg (fun k => k = g) w (((w.setCell ⟨g, 7, none⟩ (.bool false)).setCell ⟨g, 10, none⟩ (.int .i64 0)).setCell ⟨g, 9, none⟩ (.int .i64 (miss + 1))) := (((Chg.refl (fun k => k = g) w).set (.inl rfl) _).set (.inl rfl) _).set (.inl rfl) _
    obtain ⟨W1, HW1⟩ : ∃ W1, Hid (((w.setCell ⟨g, 7, none⟩ (.bool false)).setCell ⟨g, 10, none⟩ (.int .i64 0)).setCell ⟨g, 9, none⟩ (.int .i64 (miss + 1)) = W1) := ⟨_, rfl⟩
    rw [HW1.out] at b1 k1 ⊢
    clear HW1 c7 c9 c10 f7 f9 f10
    have c2 : W1.cell? ⟨g, 2, none⟩ = some (.int .i64 ms) := b1.cell 2 rfl
    have c9 : W1.cell? ⟨g, 9, none⟩ = some (.int .i64 (miss + 1)) := b1.cell 9 rfl
    have c11 : W1.cell? ⟨g, 11, none⟩ = some (.bool up) := b1.cell 11 rfl
    have f9 := b1.frozen 9
    have f11 := b1.frozen 11
    have HB1 := Lib.hid b1
    have HK1 := Lib.hid k1
    clear b1 k1
    go_big_quiet (fail)
    go_wp2
    exact bodyPost_end (v := .tuple #[]) (by simp [results, Try.results27, go_sem]) rfl ⟨rfl, by rw [HM.out]; exact HB1.out.drewN _, HK1.out.drewN _⟩

theorem later_any (hb : Blk w g 45 (rc ev wt ms ht p a)) (hi : Inv ms ht p) (m0 : 1 ≤ ms) (m2 : ms ≤ 100) (h0 : 1 ≤ ht) (ha : 0 ≤ p.ends → a + wt = p.ends) (w0 : 1 ≤ wt) (w1 : wt ≤ 4294967296) (t : Int) :
    Calls Try.prog 26 #[.pointer (some ⟨g, 0, none⟩), .int .i64 t] w fun e w' => e = .returned (.tuple #[]) ∧ Blk w' g 45 (rc ev wt ms ht (later ms p t) a) ∧ Chg (fun k => k = g) w w' := by
  obtain ⟨now, next, asked, ends, miss, hit, up⟩ := p
  obtain ⟨q1, q2, q3, q4, q5, q6, q7, q8, q9, q10, q11⟩ := hi
  simp only at q1 q2 q3 q4 q5 q6 q7 q8 q9 q10 q11 ha
  have HB := Lib.hid hb
  have c4 : w.cell? ⟨g, 4, none⟩ = some (.int .i64 now) := hb.cell 4 rfl
  have f4 := hb.frozen 4
  clear hb
  have HN1 := Lib.hid (nowOf_lo now t q1)
  have HN2 := Lib.hid (nowOf_hi now t q2)
  go_enter Try.func26, Try.ntmps26
  go_upto_region 0 with (fail)
  go_cut [13] (fun v wx => v = .bool (decide (now < t) && decide (t ≤ 1099511627776)) ∧ wx = w)
  case first =>
    by_cases a1 : now < t
    · by_cases a2 : t ≤ 1099511627776
      · go_wp2
        go_meet
        exact ⟨by simp [a1, a2], rfl⟩
      · go_wp2
        go_meet
        exact ⟨by simp [a1]; omega, rfl⟩
    · go_wp2
      go_meet
      exact ⟨by simp; omega, rfl⟩
  case rest =>
    obtain ⟨rfl, rfl⟩ := hcut
    obtain ⟨tb, HTB⟩ : ∃ tb, Hid ((decide (now < t) && decide (t ≤ 1099511627776)) = tb) := ⟨_, rfl⟩
    rw [HTB.out]
    go_upto_if 13 with (fail)
    go_cut [] (fun wx => Hid (Blk wx g 45 (rc ev wt ms ht ⟨nowOf now t, next, asked, ends, miss, hit, up⟩ a)) ∧ Hid (Chg (fun k => k = g) wc wx))
    case first =>
      cases tb with
      | true =>
        have e := HTB.out
        simp only [Bool.and_eq_true, decide_eq_true_eq] at e
        have HN := Lib.hid (show nowOf now t = t from nowOf_is now t (by omega) e.2)
        clear e
        go_wp2
        go_meet
        exact ⟨by rw [HN.out]; exact HB.out.set 4 _, (Chg.refl (fun k => k = g) wc).set (.inl rfl) _⟩
      | false =>
        have HN := Lib.hid (show nowOf now t = now from by
          have e := HTB.out
          simp only [Bool.and_eq_false_iff, decide_eq_false_iff_not] at e
          unfold nowOf imax
          (repeat' split) <;> omega)
        go_wp2
        go_meet
        exact ⟨by rw [HN.out]; exact HB, Chg.refl (fun k => k = g) wc⟩
    case rest =>
      obtain ⟨HB1, HC1⟩ := hcut
      clear c4 f4
      obtain ⟨T, HT, T0, T1⟩ : ∃ T, Hid (nowOf now t = T) ∧ 0 ≤ T ∧ T ≤ 1099511627776 := ⟨_, rfl, HN1.out, HN2.out⟩
      rw [HT.out] at HB1
      have c1 : wc.cell? ⟨g, 1, none⟩ = some (.int .i64 wt) := HB1.out.cell 1 rfl
      have c4 : wc.cell? ⟨g, 4, none⟩ = some (.int .i64 T) := HB1.out.cell 4 rfl
      have c8 : wc.cell? ⟨g, 8, none⟩ = some (.int .i64 a) := HB1.out.cell 8 rfl
      by_cases ho : 0 ≤ ends
      · have hae := ha ho
        have c7 : wc.cell? ⟨g, 7, none⟩ = some (.bool true) := HB1.out.cell 7 (by simp [rc, ho])
        go_upto_region 2 with (fail)
        go_big_quiet (fail)
        by_cases hw : wt ≤ T - a
        · have HL := Lib.hid (show later ms ⟨now, next, asked, ends, miss, hit, up⟩ t = missed ms ⟨T, next, asked, ends, miss, hit, up⟩ from by
            unfold later
            rw [HT.out]
            exact if_pos ⟨ho, by show ends ≤ T; omega⟩)
          go_wp2_with fail
          refine (missed_any (HB1.out.drewN _) q8 q9 m2).mono ?_
          rintro e w3 ⟨rfl, hb3, hc3⟩
          go_wp2
          exact bodyPost_end (v := .tuple #[]) (by simp [results, Try.results26, go_sem]) rfl ⟨rfl, by rw [HL.out]; exact hb3, (HC1.out.drewN _).then hc3 (fun i _ hi => hi)⟩
        · have HL := Lib.hid (show later ms ⟨now, next, asked, ends, miss, hit, up⟩ t = ⟨T, next, asked, ends, miss, hit, up⟩ from by
            unfold later
            rw [HT.out]
            exact if_neg (fun h => hw (by have := h.2; simp only at this; omega)))
          go_wp2
          exact bodyPost_end (v := .tuple #[]) (by simp [results, Try.results26, go_sem]) rfl ⟨rfl, by rw [HL.out]; exact HB1.out.drewN _, HC1.out.drewN _⟩
      · have c7 : wc.cell? ⟨g, 7, none⟩ = some (.bool false) := HB1.out.cell 7 (by simp [rc, ho])
        have HL := Lib.hid (show later ms ⟨now, next, asked, ends, miss, hit, up⟩ t = ⟨T, next, asked, ends, miss, hit, up⟩ from by
          unfold later
          rw [HT.out]
          exact if_neg (fun h => ho h.1))
        go_upto_region 2 with (fail)
        go_big_quiet (fail)
        go_wp2
        exact bodyPost_end (v := .tuple #[]) (by simp [results, Try.results26, go_sem]) rfl ⟨rfl, by rw [HL.out]; exact HB1.out.drewN _, HC1.out.drewN _⟩

theorem due_any (hb : Blk w g 45 (rc ev wt ms ht p a)) (ha : 0 ≤ p.ends → a + wt = p.ends) (e1 : p.ends ≤ 1103806595072) :
    Calls Try.prog 19 #[.pointer (some ⟨g, 0, none⟩)] w fun e w' => e = .returned (.int .i64 (if 0 ≤ p.ends then imin p.next p.ends else p.next)) ∧ ∃ m, w' = w.drewN m := by
  obtain ⟨now, next, asked, ends, miss, hit, up⟩ := p
  simp only at ha e1 ⊢
  have c5 : w.cell? ⟨g, 5, none⟩ = some (.int .i64 next) := hb.cell 5 rfl
  have c1 : w.cell? ⟨g, 1, none⟩ = some (.int .i64 wt) := hb.cell 1 rfl
  have c8 : w.cell? ⟨g, 8, none⟩ = some (.int .i64 a) := hb.cell 8 rfl
  by_cases he : 0 ≤ ends
  · have c7 : w.cell? ⟨g, 7, none⟩ = some (.bool true) := hb.cell 7 (by simp [rc, he])
    have hae := ha he
    rw [if_pos he]
    have HA := Lib.hid (show imin next (a + wt) = imin next ends by rw [hae])
    clear hb ha
    go_enter Try.func19, Try.ntmps19
    go_upto_region 2 with (fail)
    go_big_quiet (fail)
    go_wp2
    go_ret
    exact ⟨by rw [← HA.out]; rfl, _, rfl⟩
  · have c7 : w.cell? ⟨g, 7, none⟩ = some (.bool false) := hb.cell 7 (by simp [rc, he])
    rw [if_neg he]
    clear hb ha
    go_enter Try.func19, Try.ntmps19
    go_wp2
    go_ret
    exact ⟨rfl, 0, rfl⟩
end
end Go.Proofs.Ytandaanfdpedhaa.PrR
