/-
  The walk over the step of the document's own scaler.
-/
import Derived.Test.YtnefniinnjolbaaScR
namespace Go.Proofs.Ytnefniinnjolbaa.ScT
open Go.RowKit Go.Proofs.Ytnefniinnjolbaa.Kit Go.Proofs.Ytnefniinnjolbaa.ScP Go.Proofs.Ytnefniinnjolbaa.ScR
open Go.Proofs.Ytnefniinnjolbaa.ScW (sc)
attribute [local go_sem high] max_imax min_imin
set_option linter.unusedVariables false
section
variable {g : Nat} {mn mx per sl uw dw now up dn : Int} {w : World}

set_option maxRecDepth 100000 in
set_option maxHeartbeats 8000000 in
theorem step_any (hb : Blk w g 41 (sc mn mx per sl uw dw now up dn)) (x0 : 0 < mx) (x1 : mx ≤ 8) (n0 : 0 ≤ mn) (n1 : mn ≤ mx) (p0 : 1 ≤ per) (p1 : per ≤ 1000) (s0 : 0 ≤ sl) (s1 : sl ≤ 99)
    (t0 : 0 ≤ now) (t1 : now ≤ 1099511627776) (u0 : -1 ≤ up) (u1 : up ≤ 1099511627776) (d0 : -1 ≤ dn) (d1 : dn ≤ 1099511627776) (t lv ld : Int) :
    Calls Try.prog 17 #[.pointer (some ⟨g, 0, none⟩), .int .i64 t, .int .i64 lv, .int .i64 ld] w fun e w' => ∃ r, e = .returned (.int .i64 r) ∧
      r = dir mn mx per sl uw dw (nowOf now t) up dn (imax lv 0) (imin (imax ld 0) 1099511627776) ∧
      Blk w' g 41 (sc mn mx per sl uw dw (nowOf now t) (if 0 < r then nowOf now t else up) (if r < 0 then nowOf now t else dn)) ∧ Chg (fun k => k = g) w w' := by
  have HB := Lib.hid hb
  obtain ⟨c0, c1, c2, c3, c4, c5, c6, c7, c8⟩ := cells hb
  have f6 := hb.frozen 6
  clear hb
  go_enter Try.func17, Try.ntmps17
  go_upto_region 1 with (fail)
  go_cut [20] (fun v wx => v = .bool (decide (now < t) && decide (t ≤ 1099511627776)) ∧ wx = w)
  case first =>
    by_cases a1 : now < t
    · by_cases a2 : t ≤ 1099511627776
      · go_wp2
        go_meet
        exact ⟨by simp [a1, a2], rfl⟩
      · go_wp2
        go_meet
        exact ⟨by simp [a1]; omega, rfl⟩
    · go_wp2
      go_meet
      exact ⟨by simp; omega, rfl⟩
  case rest =>
    obtain ⟨rfl, rfl⟩ := hcut
    obtain ⟨tb, HTB⟩ : ∃ tb, Hid ((decide (now < t) && decide (t ≤ 1099511627776)) = tb) := ⟨_, rfl⟩
    rw [HTB.out]
    go_upto_if 20 with (fail)
    go_cut [] (fun wx => Hid (Blk wx g 41 (sc mn mx per sl uw dw (nowOf now t) up dn)) ∧ Hid (Chg (fun k => k = g) wc wx))
    case first =>
      cases tb with
      | true =>
        have e := HTB.out
        simp only [Bool.and_eq_true, decide_eq_true_eq] at e
        have E := Lib.hid e
        clear e
        go_wp2
        go_meet
        refine ⟨?_, (Chg.refl (fun k => k = g) wc).set (.inl rfl) _⟩
        rw [show nowOf now t = t by have := E.out; unfold nowOf imax; rw [if_pos this.2, if_pos this.1]]
        exact HB.out.set 6 _
      | false =>
        have e := HTB.out
        have E := Lib.hid (show nowOf now t = now by
          simp only [Bool.and_eq_false_iff, decide_eq_false_iff_not] at e
          unfold nowOf imax
          split <;> (try split) <;> omega)
        clear e
        go_wp2
        go_meet
        refine ⟨?_, Chg.refl (fun k => k = g) wc⟩
        rw [E.out]
        exact HB.out
    case rest =>
      obtain ⟨HB2, HC⟩ := hcut
      have h0 := nowOf_lo now t t0
      have h1 := nowOf_hi now t t1
      obtain ⟨nw, HNW⟩ : ∃ nw, Hid (nowOf now t = nw) := ⟨_, rfl⟩
      rw [HNW.out] at h0 h1 HB2
      clear c0 c1 c2 c3 c4 c5 c6 c7 c8 f6 HB
      go_wp2_with fail
      have hlv : 0 ≤ imax lv 0 := by unfold imax; split <;> omega
      have hld : 0 ≤ imin (imax ld 0) 1099511627776 ∧ imin (imax ld 0) 1099511627776 ≤ 1099511627776 := by unfold imin imax; split <;> split <;> omega
      obtain ⟨L, HL⟩ : ∃ L, Hid (imax lv 0 = L) := ⟨_, rfl⟩
      obtain ⟨D, HD⟩ : ∃ D, Hid (imin (imax ld 0) 1099511627776 = D) := ⟨_, rfl⟩
      rw [HL.out] at hlv ⊢
      rw [HD.out] at hld ⊢
      obtain ⟨hld0, hld1⟩ := hld
      refine (want_any HB2.out x0 x1 n0 n1 p0 p1 D).mono ?_
      rintro e w2 ⟨rfl, nd2, rfl⟩
      have hw0 := want_lo mn mx per D
      have hw1 := want_hi mn mx per D (by omega) n1
      obtain ⟨W, HW⟩ : ∃ W, Hid (want mn mx per D = W) := ⟨_, rfl⟩
      rw [HW.out] at hw0 hw1 ⊢
      obtain ⟨c0, c1, c2, c3, c4, c5, c6, c7, c8⟩ := cells HB2.out
      obtain ⟨fw, HF⟩ : ∃ fw, Hid (few mn mx uw nw up L W = fw) := ⟨_, rfl⟩
      obtain ⟨mw, HMN⟩ : ∃ mw, Hid (many mn mx per sl dw nw up dn L D W = mw) := ⟨_, rfl⟩
      have HR : Hid (dir mn mx per sl uw dw (nowOf now t) up dn (imax lv 0) (imin (imax ld 0) 1099511627776) = if mx < L then -1 else if fw = true then 1 else if mw = true then -1 else 0) := by
        show dir _ _ _ _ _ _ _ _ _ _ _ = _
        rw [HNW.out, HL.out, HD.out]
        unfold dir
        simp only []
        rw [HW.out, HF.out, HMN.out]
      have f7 := HB2.out.frozen 7
      have f8 := HB2.out.frozen 8
      by_cases b1 : mx < L
      · clear u0 u1 d0 d1 p0 p1 s0 s1
        go_wp2
        go_ret
        refine ⟨-1, rfl, by rw [HR.out, if_pos b1], ?_, (HC.out.drewN _).set (.inl rfl) _⟩
        rw [HNW.out, if_neg (by decide), if_pos (by decide)]
        exact (HB2.out.drewN _).set 8 _
      · have L8 : L ≤ 8 := by omega
        have hb1 := Lib.hid b1
        by_cases b2 : L < mn
        · have hf : fw = true := by rw [← HF.out]; simp [few, b2]
          clear u0 u1 d0 d1 p0 p1 s0 s1
          subst hf
          go_wp2
          go_ret
          refine ⟨1, rfl, by rw [HR.out, if_neg (Int.not_lt.2 hb1.out)]; simp, ?_, (HC.out.drewN _).set (.inl rfl) _⟩
          rw [HNW.out, if_pos (by decide), if_neg (by decide)]
          exact (HB2.out.drewN _).set 7 _
        · have hf : (decide (L < W) && rest nw up uw) = fw := by rw [← HF.out]; simp [few, b2, show L ≤ mx by omega]
          have HFW := Lib.hid hf
          clear hf
          go_upto_region 10 with (fail)
          go_cut [49] (fun v wx => v = .bool fw ∧ ∃ m, wx = wc.drewN m)
          case first =>
            by_cases a3 : L < W
            · have F := Lib.hid (show rest nw up uw = fw by rw [← HFW.out]; simp [a3])
              clear d0 d1 p0 p1 s0 s1
              go_big_quiet ((go_at_call 26; first | exact Calls.quiet_of (ago_any (by exact HB2.out) h0 h1 _ _ u0 u1) | exact quiet_add (ago_any (by exact HB2.out) h0 h1 _ _ u0 u1)))
              go_wp2
              go_meet
              refine ⟨by rw [F.out], ?_⟩
              first | exact ⟨_, rfl⟩ | exact ⟨_, World.drewN_drewN _ _ _⟩
            · have F := Lib.hid (show fw = false by rw [← HFW.out]; simp [a3])
              clear d0 d1 p0 p1 s0 s1
              go_big_quiet (fail)
              go_wp2
              go_meet
              refine ⟨by rw [F.out], ?_⟩
              first | exact ⟨_, rfl⟩ | exact ⟨_, World.drewN_drewN _ _ _⟩
          case rest =>
            obtain ⟨rfl, m2, rfl⟩ := hcut
            cases fw with
            | true =>
              clear u0 u1 d0 d1 p0 p1 s0 s1
              go_wp2
              go_ret
              refine ⟨1, rfl, by rw [HR.out, if_neg (Int.not_lt.2 hb1.out)]; simp, ?_, (HC.out.drewN _).set (.inl rfl) _⟩
              rw [HNW.out, if_pos (by decide), if_neg (by decide)]
              exact (HB2.out.drewN _).set 7 _
            | false =>
              have m0 : -1 ≤ imax up dn := by unfold imax; split <;> omega
              have m1 : imax up dn ≤ 1099511627776 := by unfold imax; split <;> omega
              obtain ⟨q, HQ, q0, q1⟩ : ∃ q, Hid ((L - 1) * per = q) ∧ -1000 ≤ q ∧ q ≤ 7000 := by
                refine ⟨_, rfl, ?_, ?_⟩
                · have := Int.mul_le_mul_of_nonneg_right (show (-1 : Int) ≤ L - 1 by omega) (show (0 : Int) ≤ per by omega)
                  omega
                · have := Int.mul_le_mul (show L - 1 ≤ 7 by omega) p1 (by omega) (by omega : (0 : Int) ≤ 7)
                  omega
              obtain ⟨r, HRR, r0, r1⟩ : ∃ r, Hid (q * (100 - sl) = r) ∧ -100000 ≤ r ∧ r ≤ 700000 := by
                refine ⟨_, rfl, ?_⟩
                rcases Int.le_total 0 q with h | h
                · have h1 := Int.mul_le_mul q1 (show 100 - sl ≤ 100 by omega) (by omega) (by omega : (0 : Int) ≤ 7000)
                  have h2 := Int.mul_nonneg h (show (0 : Int) ≤ 100 - sl by omega)
                  omega
                · have h1 := Int.mul_le_mul_of_nonneg_right q0 (show (0 : Int) ≤ 100 - sl by omega)
                  have h2 := Int.mul_nonpos_of_nonpos_of_nonneg h (show (0 : Int) ≤ 100 - sl by omega)
                  omega
              have hsp : spare per sl L D = decide (100 * D ≤ r) := by
                unfold spare
                rw [HQ.out, HRR.out]
              have hm : (decide (W < L) && decide (mn < L) && decide (100 * D ≤ r) && rest nw (imax up dn) dw) = mw := by
                rw [← HMN.out]
                simp [many, hsp, (Int.not_lt.2 hb1.out : ¬ mx < L)]
              have HMW := Lib.hid hm
              clear hm hsp p0 p1 u0 u1 d0 d1 x0 n0 n1 t0 t1 hw0 hw1 b2
              go_upto_region 12 with (fail)
              go_cut [66] (fun v wx => v = .bool mw ∧ ∃ m, wx = wc.drewN m)
              case first =>
                by_cases b3 : W < L
                · by_cases b4 : mn < L
                  · have e1 := HQ.out
                    have e2 := HRR.out
                    by_cases b5 : 100 * D ≤ r
                    · have F := Lib.hid (show rest nw (imax up dn) dw = mw by rw [← HMW.out]; simp [b3, b4, b5])
                      go_big_quiet ((go_at_call 26; first | exact Calls.quiet_of (ago_any (by exact HB2.out) h0 h1 _ _ m0 m1) | exact quiet_add (ago_any (by exact HB2.out) h0 h1 _ _ m0 m1)))
                      go_wp2
                      go_meet
                      refine ⟨by rw [F.out], ?_⟩
                      first | exact ⟨_, rfl⟩ | exact ⟨_, World.drewN_drewN _ _ _⟩
                    · have F := Lib.hid (show mw = false by rw [← HMW.out]; simp [b3, b4, b5])
                      go_big_quiet (fail)
                      go_wp2
                      go_meet
                      refine ⟨by rw [F.out], ?_⟩
                      first | exact ⟨_, rfl⟩ | exact ⟨_, World.drewN_drewN _ _ _⟩
                  · have F := Lib.hid (show mw = false by rw [← HMW.out]; simp [b3, b4])
                    go_big_quiet (fail)
                    go_wp2
                    go_meet
                    refine ⟨by rw [F.out], ?_⟩
                    first | exact ⟨_, rfl⟩ | exact ⟨_, World.drewN_drewN _ _ _⟩
                · have F := Lib.hid (show mw = false by rw [← HMW.out]; simp [b3])
                  go_big_quiet (fail)
                  go_wp2
                  go_meet
                  refine ⟨by rw [F.out], ?_⟩
                  first | exact ⟨_, rfl⟩ | exact ⟨_, World.drewN_drewN _ _ _⟩
              case rest =>
                obtain ⟨rfl, m3, rfl⟩ := hcut
                cases mw with
                | true =>
                  go_wp2
                  go_ret
                  refine ⟨-1, rfl, by rw [HR.out, if_neg (Int.not_lt.2 hb1.out)]; simp, ?_, (HC.out.drewN _).set (.inl rfl) _⟩
                  rw [HNW.out, if_neg (by decide), if_pos (by decide)]
                  exact (HB2.out.drewN _).set 8 _
                | false =>
                  go_wp2
                  go_ret
                  refine ⟨0, rfl, by rw [HR.out, if_neg (Int.not_lt.2 hb1.out)]; simp, ?_, HC.out.drewN _⟩
                  rw [HNW.out, if_neg (by decide), if_neg (by decide)]
                  exact HB2.out.drewN _
end
end Go.Proofs.Ytnefniinnjolbaa.ScT
