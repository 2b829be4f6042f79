/-
  The walk over the scaler's step.
-/
import Derived.Test.YtnefniinnjolbaaScW
namespace Go.Proofs.Ytnefniinnjolbaa.ScS
open Go.RowKit Go.Proofs.Ytnefniinnjolbaa.Kit Go.Proofs.Ytnefniinnjolbaa.ScP Go.Proofs.Ytnefniinnjolbaa.ScW
attribute [local go_sem high] max_imax min_imin
set_option linter.unusedVariables false
section
variable {g : Nat} {mn mx per sl uw dw now up dn : Int} {w : World}

theorem spare_is (hb : Blk w g 49 (sc mn mx per sl uw dw now up dn)) (p0 : 1 ≤ per) (p1 : per ≤ 1000) (s0 : 0 ≤ sl) (s1 : sl ≤ 99) (lv ld : Int) (l0 : 0 ≤ lv) (l1 : lv ≤ 8) (d0 : 0 ≤ ld) (d1 : ld ≤ 1099511627776) {b : Bool}
    (hs : spare per sl lv ld = b) : Calls Try.prog 24 #[.pointer (some ⟨g, 0, none⟩), .int .i64 lv, .int .i64 ld] w fun e w' => e = .returned (.bool b) ∧ ∃ m, w' = w.drewN m := by
  subst hs
  exact spare_any hb p0 p1 s0 s1 lv ld l0 l1 d0 d1

set_option maxRecDepth 100000 in
set_option maxHeartbeats 8000000 in
theorem step_any (hb : Blk w g 49 (sc mn mx per sl uw dw now up dn)) (x0 : 0 < mx) (x1 : mx ≤ 8) (n0 : 0 ≤ mn) (n1 : mn ≤ mx) (p0 : 1 ≤ per) (p1 : per ≤ 1000) (s0 : 0 ≤ sl) (s1 : sl ≤ 99)
    (t0 : 0 ≤ now) (t1 : now ≤ 1099511627776) (u0 : -1 ≤ up) (u1 : up ≤ 1099511627776) (d0 : -1 ≤ dn) (d1 : dn ≤ 1099511627776) (t lv ld : Int) :
    Calls Try.prog 10 #[.pointer (some ⟨g, 0, none⟩), .int .i64 t, .int .i64 lv, .int .i64 ld] w fun e w' => ∃ r, e = .returned (.int .i64 r) ∧
      r = dir mn mx per sl uw dw (nowOf now t) up dn (imax lv 0) (imin (imax ld 0) 1099511627776) ∧
      Blk w' g 49 (sc mn mx per sl uw dw (nowOf now t) (if 0 < r then nowOf now t else up) (if r < 0 then nowOf now t else dn)) ∧ Chg (fun k => k = g) w w' := by
  have HB := Lib.hid hb
  obtain ⟨c0, c1, c2, c3, c4, c5, c6, c7, c8⟩ := cells hb
  have f6 := hb.frozen 6
  clear hb
  go_enter Try.func10, Try.ntmps10
  go_wp2_with fail
  refine (ok_any HB.out x0).mono ?_
  rintro e w1 ⟨rfl, nd, rfl⟩
  go_upto_if 16 with (fail)
  go_cut [] (fun wx => Hid (Blk wx g 49 (sc mn mx per sl uw dw (nowOf now t) up dn)) ∧ Hid (Chg (fun k => k = g) w wx))
  case first =>
    by_cases ht : t ≤ 1099511627776
    · go_wp2
      go_meet
      refine ⟨?_, ?_⟩
      · rw [show nowOf now t = imax now t by unfold nowOf; rw [if_pos ht]]
        exact (HB.out.drewN _).set 6 _
      · exact ((Chg.refl (fun k => k = g) w).drewN _).set (.inl rfl) _
    · go_wp2
      go_meet
      refine ⟨?_, ?_⟩
      · rw [show nowOf now t = now by unfold nowOf; rw [if_neg (by omega)]]
        exact HB.out.drewN _
      · exact (Chg.refl (fun k => k = g) w).drewN _
  case rest =>
    obtain ⟨HB2, HC⟩ := hcut
    have h0 := nowOf_lo now t t0
    have h1 := nowOf_hi now t t1
    obtain ⟨nw, HNW⟩ : ∃ nw, Hid (nowOf now t = nw) := ⟨_, rfl⟩
    rw [HNW.out] at h0 h1 HB2
    clear c0 c1 c2 c3 c4 c5 c6 c7 c8 f6 HB
    go_wp2_with fail
    have hlv : 0 ≤ imax lv 0 := by unfold imax; split <;> omega
    have hld : 0 ≤ imin (imax ld 0) 1099511627776 ∧ imin (imax ld 0) 1099511627776 ≤ 1099511627776 := by unfold imin imax; split <;> split <;> omega
    obtain ⟨L, HL⟩ : ∃ L, Hid (imax lv 0 = L) := ⟨_, rfl⟩
    obtain ⟨D, HD⟩ : ∃ D, Hid (imin (imax ld 0) 1099511627776 = D) := ⟨_, rfl⟩
    rw [HL.out] at hlv ⊢
    rw [HD.out] at hld ⊢
    obtain ⟨hld0, hld1⟩ := hld
    refine (want_any HB2.out x0 x1 p0 p1 D).mono ?_
    rintro e w2 ⟨rfl, nd2, rfl⟩
    have hw0 := want_lo mn mx per D
    have hw1 := want_hi mn mx per D (by omega) n1
    obtain ⟨W, HW⟩ : ∃ W, Hid (want mn mx per D = W) := ⟨_, rfl⟩
    rw [HW.out] at hw0 hw1 ⊢
    obtain ⟨c0, c1, c2, c3, c4, c5, c6, c7, c8⟩ := cells HB2.out
    have X := Lib.hid (And.intro x0 (And.intro x1 (And.intro n0 (And.intro n1 (And.intro p0 (And.intro p1 (And.intro s0 (And.intro s1 (And.intro t0 (And.intro t1 (And.intro u0 (And.intro u1 (And.intro d0 (And.intro d1 (And.intro h0 (And.intro h1 (And.intro hlv (And.intro hld0 (And.intro hld1 (And.intro hw0 hw1))))))))))))))))))))
    clear x0 x1 n0 n1 p0 p1 s0 s1 t0 t1 d0 d1 hlv hld0 hld1 hw0 hw1
    go_upto_region 7 with (fail)
    go_cut [10] (fun v wx => v = .bool (few mn mx uw nw up L W) ∧ ∃ m, wx = wc.drewN m)
    case first =>
      by_cases a1 : L < mn
      · have F := Lib.hid (show few mn mx uw nw up L W = true by simp [few, a1])
        go_big_quiet (fail)
        go_wp2
        go_meet
        refine ⟨by rw [F.out], ?_⟩
        first | exact ⟨_, rfl⟩ | exact ⟨_, World.drewN_drewN _ _ _⟩
      · by_cases a2 : L ≤ mx
        · by_cases a3 : L < W
          · have F := Lib.hid (show few mn mx uw nw up L W = rest nw up uw by simp [few, a1, a2, a3])
            go_big_quiet ((go_at_call 23; first | exact Calls.quiet_of (rested_any (by exact HB2.out) h0 h1 _ _ u0 u1) | exact quiet_add (rested_any (by exact HB2.out) h0 h1 _ _ u0 u1)))
            go_wp2
            go_meet
            refine ⟨by rw [F.out], ?_⟩
            first | exact ⟨_, rfl⟩ | exact ⟨_, World.drewN_drewN _ _ _⟩
          · have F := Lib.hid (show few mn mx uw nw up L W = false by simp [few, a1, a2, a3])
            go_big_quiet (fail)
            go_wp2
            go_meet
            refine ⟨by rw [F.out], ?_⟩
            first | exact ⟨_, rfl⟩ | exact ⟨_, World.drewN_drewN _ _ _⟩
        · have F := Lib.hid (show few mn mx uw nw up L W = false by simp [few, a1, a2])
          go_big_quiet (fail)
          go_wp2
          go_meet
          refine ⟨by rw [F.out], ?_⟩
          first | exact ⟨_, rfl⟩ | exact ⟨_, World.drewN_drewN _ _ _⟩
    case rest =>
      obtain ⟨rfl, m2, rfl⟩ := hcut
      obtain ⟨x0, x1, n0, n1, p0, p1, s0, s1, t0, t1, _, _, d0, d1, _, _, hlv, hld0, hld1, hw0, hw1⟩ := X.out
      have m0 : -1 ≤ imax up dn := by unfold imax; split <;> omega
      have m1 : imax up dn ≤ 1099511627776 := by unfold imax; split <;> omega
      obtain ⟨fw, HF⟩ : ∃ fw, Hid (few mn mx uw nw up L W = fw) := ⟨_, rfl⟩
      rw [HF.out]
      go_upto_region 8 with (fail)
      go_cut [11] (fun v wx => v = .bool (many mn mx per sl dw nw up dn L D W) ∧ ∃ m, wx = wc.drewN m)
      case first =>
        clear x0 n0 n1 t0 t1 d0 d1 hw0 hw1 u0 u1
        by_cases b1 : mx < L
        · have F := Lib.hid (show many mn mx per sl dw nw up dn L D W = true by simp [many, b1])
          go_big_quiet (fail)
          go_wp2
          go_meet
          refine ⟨by rw [F.out], ?_⟩
          first | exact ⟨_, rfl⟩ | exact ⟨_, World.drewN_drewN _ _ _⟩
        · have L8 : L ≤ 8 := by omega
          clear x1
          by_cases b2 : W < L
          · by_cases b3 : mn < L
            · obtain ⟨sp, HS⟩ : ∃ sp, Hid (spare per sl L D = sp) := ⟨_, rfl⟩
              cases sp with
              | true =>
                have F := Lib.hid (show many mn mx per sl dw nw up dn L D W = rest nw (imax up dn) dw by simp [many, b1, b2, b3, (HS.out : spare per sl L D = true)])
                go_big_quiet ((first | (go_at_call 24; first | exact Calls.quiet_of (spare_is (by exact HB2.out) p0 p1 s0 s1 _ _ hlv L8 hld0 hld1 HS.out) | exact quiet_add (spare_is (by exact HB2.out) p0 p1 s0 s1 _ _ hlv L8 hld0 hld1 HS.out)) | (go_at_call 23; first | exact Calls.quiet_of (rested_any (by exact HB2.out) h0 h1 _ _ m0 m1) | exact quiet_add (rested_any (by exact HB2.out) h0 h1 _ _ m0 m1))))
                go_wp2
                go_meet
                refine ⟨by rw [F.out], ?_⟩
                first | exact ⟨_, rfl⟩ | exact ⟨_, World.drewN_drewN _ _ _⟩
              | false =>
                have F := Lib.hid (show many mn mx per sl dw nw up dn L D W = false by simp [many, b1, b2, b3, (HS.out : spare per sl L D = false)])
                go_big_quiet ((go_at_call 24; first | exact Calls.quiet_of (spare_is (by exact HB2.out) p0 p1 s0 s1 _ _ hlv L8 hld0 hld1 HS.out) | exact quiet_add (spare_is (by exact HB2.out) p0 p1 s0 s1 _ _ hlv L8 hld0 hld1 HS.out)))
                go_wp2
                go_meet
                refine ⟨by rw [F.out], ?_⟩
                first | exact ⟨_, rfl⟩ | exact ⟨_, World.drewN_drewN _ _ _⟩
            · have F := Lib.hid (show many mn mx per sl dw nw up dn L D W = false by simp [many, b1, b2, b3])
              go_big_quiet (fail)
              go_wp2
              go_meet
              refine ⟨by rw [F.out], ?_⟩
              first | exact ⟨_, rfl⟩ | exact ⟨_, World.drewN_drewN _ _ _⟩
          · have F := Lib.hid (show many mn mx per sl dw nw up dn L D W = false by simp [many, b1, b2])
            go_big_quiet (fail)
            go_wp2
            go_meet
            refine ⟨by rw [F.out], ?_⟩
            first | exact ⟨_, rfl⟩ | exact ⟨_, World.drewN_drewN _ _ _⟩
      case rest =>
        obtain ⟨rfl, m3, rfl⟩ := hcut
        obtain ⟨mw, HMN⟩ : ∃ mw, Hid (many mn mx per sl dw nw up dn L D W = mw) := ⟨_, rfl⟩
        rw [HMN.out]
        have HR : Hid (dir mn mx per sl uw dw (nowOf now t) up dn (imax lv 0) (imin (imax ld 0) 1099511627776) = if mx < L then -1 else if fw = true then 1 else if mw = true then -1 else 0) := by
          show dir _ _ _ _ _ _ _ _ _ _ _ = _
          rw [HNW.out, HL.out, HD.out]
          unfold dir
          simp only []
          rw [HW.out, HF.out, HMN.out]
        have f7 := HB2.out.frozen 7
        have f8 := HB2.out.frozen 8
        have hfm : mx < L → fw = false ∧ mw = true := by
          intro h
          rw [← HF.out, ← HMN.out]
          constructor
          · simp [few, show ¬ L < mn by omega, show ¬ L ≤ mx by omega]
          · simp [many, h]
        by_cases b1 : mx < L
        · obtain ⟨rfl, rfl⟩ := hfm b1
          clear hfm
          go_wp2
          go_ret
          refine ⟨-1, rfl, by rw [HR.out, if_pos b1], ?_, (HC.out.drewN _).set (.inl rfl) _⟩
          rw [HNW.out, if_neg (by decide), if_pos (by decide)]
          exact (HB2.out.drewN _).set 8 _
        · clear hfm
          have hb1 := Lib.hid b1
          cases fw with
          | true =>
            cases mw
            all_goals
              go_wp2
              go_ret
              refine ⟨1, rfl, by rw [HR.out, if_neg (Int.not_lt.2 hb1.out)]; simp, ?_, (HC.out.drewN _).set (.inl rfl) _⟩
              rw [HNW.out, if_pos (by decide), if_neg (by decide)]
              exact (HB2.out.drewN _).set 7 _
          | false =>
            cases mw with
            | true =>
              go_wp2
              go_ret
              refine ⟨-1, rfl, by rw [HR.out, if_neg (Int.not_lt.2 hb1.out)]; simp, ?_, (HC.out.drewN _).set (.inl rfl) _⟩
              rw [HNW.out, if_neg (by decide), if_pos (by decide)]
              exact (HB2.out.drewN _).set 8 _
            | false =>
              go_wp2
              go_ret
              refine ⟨0, rfl, by rw [HR.out, if_neg (Int.not_lt.2 hb1.out)]; simp, ?_, HC.out.drewN _⟩
              rw [HNW.out, if_neg (by decide), if_neg (by decide)]
              exact HB2.out.drewN _
end
end Go.Proofs.Ytnefniinnjolbaa.ScS
