/-
  ScaleWaits: between two steps the waits.
-/
import Derived.Test.YtnefniinnjolbaaScM
import Derived.Deep.RegionHeld3
namespace Go.Proofs.Ytnefniinnjolbaa.ScA
open Go.RowKit Go.Proofs.Ytnefniinnjolbaa.Kit Go.Proofs.Ytnefniinnjolbaa.ScP Go.Proofs.Ytnefniinnjolbaa.ScN Go.Proofs.Ytnefniinnjolbaa.ScM
open Go.Proofs.Ytnefniinnjolbaa.ScW (sc)
attribute [local go_sem high] max_imax min_imin
set_option linter.unusedVariables false

/-- What the numbers of a scaler keep to. -/
def Fit (mn mx per sl now up dn : Int) : Prop :=
  0 ≤ mn ∧ mn ≤ mx ∧ 1 ≤ mx ∧ mx ≤ 8 ∧ 1 ≤ per ∧ per ≤ 1000 ∧ 0 ≤ sl ∧ sl ≤ 99 ∧ 0 ≤ now ∧ now ≤ 1099511627776 ∧ -1 ≤ up ∧ up ≤ 1099511627776 ∧ -1 ≤ dn ∧ dn ≤ 1099511627776

/-- The cells of a step. -/
def xc (b : Bool) (x1 x2 x3 x4 x5 : Int) : List Value := [.bool b, .int .i64 x1, .int .i64 x2, .int .i64 x3, .int .i64 x4, .int .i64 x5]
def IsStep (row : List Value) : Prop := ∃ b x1 x2 x3 x4 x5, row = xc b x1 x2 x3 x4 x5 ∧ -9223372036854775808 ≤ x1 ∧ x1 ≤ 9223372036854775807

/-- What a step up, and one down, says of the waits, within the bounds. -/
theorem dir_waits {mn mx per sl uw dw now up dn lv ld r : Int} (h : r = dir mn mx per sl uw dw now up dn lv ld) (i1 : mn ≤ lv) (i2 : lv ≤ mx) :
    (0 < r → 0 ≤ up → uw ≤ now - up) ∧ (r < 0 → 0 ≤ imax up dn → dw ≤ now - imax up dn) := by
  unfold dir at h
  simp only at h
  rw [if_neg (by omega)] at h
  refine ⟨fun hr hu => ?_, fun hr hu => ?_⟩
  · by_cases hf : few mn mx uw now up lv (want mn mx per ld) = true
    · unfold few rest at hf
      simp only [Bool.or_eq_true, Bool.and_eq_true, decide_eq_true_eq, beq_iff_eq] at hf
      omega
    · rw [if_neg hf] at h
      split at h <;> omega
  · by_cases hf : few mn mx uw now up lv (want mn mx per ld) = true
    · rw [if_pos hf] at h
      omega
    · rw [if_neg hf] at h
      by_cases hm : many mn mx per sl dw now up dn lv ld (want mn mx per ld) = true
      · unfold many rest at hm
        simp only [Bool.or_eq_true, Bool.and_eq_true, decide_eq_true_eq, beq_iff_eq] at hm
        omega
      · rw [if_neg hm] at h
        omega

section
variable {w : World}

theorem law_no {mn mx per sl uw dw : Int} (h : ¬ May mn mx per sl uw dw) (v : Value) :
    Calls Try.prog 4 #[.agg #[.int .i64 mn, .int .i64 mx, .int .i64 per, .int .i64 sl, .int .i64 uw, .int .i64 dw], v] w fun e w' => e = .returned (.bool true) ∧ Below w.heap.size w w' := by
  have HN := Lib.hid h
  clear h
  have hu := Try.underlying24
  have hbe : Below w.heap.size w (w.alloc (.cells (st mn mx per sl uw dw) 23)) := (Below.refl _ w).alloc (Nat.le_refl _) _
  go_enter Try.func4, Try.ntmps4
  go_wp2_with fail
  have b0 := Blk.new w (st mn mx per sl uw dw) 23
  obtain ⟨W, HW⟩ : ∃ W, Hid (w.alloc (.cells (st mn mx per sl uw dw) 23) = W) := ⟨_, rfl⟩
  have HW' := HW.out
  unfold st at HW'
  rw [HW'] at ⊢
  rw [HW.out] at b0 hbe
  clear HW HW'
  obtain ⟨B, HB⟩ : ∃ B, Hid (w.heap.size = B) := ⟨_, rfl⟩
  rw [HB.out] at b0 hbe ⊢
  have B0 := Lib.hid b0
  have HBe := Lib.hid hbe
  clear hbe
  refine theirs_any.mono ?_
  rintro e w1 ⟨rfl, hb1⟩
  have HB1 := Lib.hid hb1
  clear hb1
  go_wp2_with fail
  refine (new_no HN.out).mono ?_
  rintro e w2 ⟨rfl, hb2⟩
  have HBe2 := Lib.hid ((HBe.out.trans (HB1.out.mono (by have := B0.out.lt; omega))).trans (hb2.mono (by have := HB1.out.size; have := B0.out.lt; omega)))
  have hsz : B ≤ w2.heap.size := by have := hb2.size; have := HB1.out.size; have := B0.out.lt; omega
  clear hb2
  go_wp2_with fail
  refine alive_any.mono ?_
  rintro e w5 ⟨rfl, hb5⟩
  go_wp2
  go_ret
  exact ⟨rfl, by rw [HB.out]; exact HBe2.out.trans (hb5.mono hsz)⟩

set_option maxRecDepth 100000 in
set_option maxHeartbeats 8000000 in
theorem law_yes {mn mx per sl uw dw : Int} (h : May mn mx per sl uw dw) (v : Value) (xs : List (List Value)) (hx : RowsAt w 6 v xs) (hs : ∀ row ∈ xs, IsStep row) :
    Calls Try.prog 4 #[.agg #[.int .i64 mn, .int .i64 mx, .int .i64 per, .int .i64 sl, .int .i64 uw, .int .i64 dw], v] w fun e w' => e = .returned (.bool true) ∧ Below w.heap.size w w' := by
  have HM := Lib.hid h
  clear h
  have hu := Try.underlying24
  have hbe : Below w.heap.size w (w.alloc (.cells (st mn mx per sl uw dw) 23)) := (Below.refl _ w).alloc (Nat.le_refl _) _
  obtain ⟨a, c, rfl⟩ := hx.slice
  have HX := Lib.hid hx
  clear hx
  go_enter Try.func4, Try.ntmps4
  go_wp2_with fail
  have b0 := Blk.new w (st mn mx per sl uw dw) 23
  obtain ⟨W, HW⟩ : ∃ W, Hid (w.alloc (.cells (st mn mx per sl uw dw) 23) = W) := ⟨_, rfl⟩
  have HW' := HW.out
  unfold st at HW'
  rw [HW'] at ⊢
  rw [HW.out] at b0 hbe
  clear HW HW'
  obtain ⟨B, HB⟩ : ∃ B, Hid (w.heap.size = B) := ⟨_, rfl⟩
  rw [HB.out] at b0 hbe ⊢
  have B0 := Lib.hid b0
  have HBe := Lib.hid hbe
  clear hbe
  refine theirs_any.mono ?_
  rintro e w1 ⟨rfl, hb1⟩
  have HB1 := Lib.hid hb1
  clear hb1
  go_wp2_with fail
  refine (new_yes HM.out).mono ?_
  rintro e w2 ⟨g, rfl, hg, hbg, hb2⟩
  have HB2 := Lib.hid hb2
  clear hb2
  have hbb : Blk w2 B 23 (st mn mx per sl uw dw) := by
    have h1 : Blk w1 B 23 (st mn mx per sl uw dw) := (HB1.out.block B B0.out.lt).trans B0.out
    exact (HB2.out.block B h1.lt).trans h1
  have hsz : B ≤ w2.heap.size := by have := hbb.lt; omega
  have HBe2 := Lib.hid ((HBe.out.trans (HB1.out.mono (by have := B0.out.lt; omega))).trans (HB2.out.mono (by have := HB1.out.size; have := B0.out.lt; omega)))
  have hgB : B ≤ g := by have := HB1.out.size; have := B0.out.lt; omega
  have HG := Lib.hid (show Blk w2 g 49 (sc mn mx per sl uw dw 0 (-1) (-1)) from hbg)
  have hgs := hbg.lt
  clear hbg hg
  have hl := HX.out.1
  have hcap : xs.length ≤ c := by
    rcases HX.out.2 with ⟨h0, _⟩ | ⟨_, _, _, hv, hl2, _⟩
    · rw [h0]; simp
    · injection hv with _ _ hc; rw [hc]; exact hl2
  have B2 := Lib.hid hbb
  clear hbb B0 HB1 HB2 HBe
  go_wp2_with fail
  refine (short_any a xs.length c hl hcap).mono ?_
  rintro e w6 ⟨rfl, nd, rfl⟩
  have hX2 := HX.out.take_ (min xs.length 300) (Nat.min_le_left _ _)
  obtain ⟨ys, HY⟩ : ∃ ys, Hid (xs.take (min xs.length 300) = ys) := ⟨_, rfl⟩
  have hyl : min xs.length 300 = ys.length := by rw [← HY.out, List.length_take]; omega
  have hy3 : ys.length ≤ 300 := by omega
  have hys : ∀ row ∈ ys, IsStep row := fun row hr => hs row (by rw [← HY.out] at hr; exact List.mem_of_mem_take hr)
  rw [HY.out, hyl] at hX2
  rw [hyl]
  have HY2 := Lib.hid hX2
  have HYS := Lib.hid hys
  clear hX2 hys hyl HY hl hcap HX hs
  go_wp2_with fail
  go_loopw [7, 8, 9, 31] (fun n u d i wr => ∃ (k : Nat) (now up dn : Int), k ≤ ys.length ∧ n = .int .i64 now ∧ u = .int .i64 up ∧ d = .int .i64 dn ∧ i = .int .i64 k ∧ 0 ≤ now ∧ now ≤ 1048576 * (k : Int) ∧ -1 ≤ up ∧ up ≤ now ∧ -1 ≤ dn ∧ dn ≤ now ∧ Hid (Blk wr g 49 (sc mn mx per sl uw dw now up dn)) ∧ Hid (Blk wr B 23 (st mn mx per sl uw dw)) ∧ Hid (Below B w wr)) (fun _ _ _ i _ => ys.length - (intOf i).toNat)
  case atStart => exact ⟨0, 0, -1, -1, Nat.zero_le _, rfl, rfl, rfl, rfl, by omega, by omega, by omega, by omega, by omega, by omega, Lib.hid (HG.out.drewN _), Lib.hid (B2.out.drewN _), Lib.hid (below_drewN HBe2.out nd)⟩
  case round =>
    obtain ⟨k, now, up, dn, hk, rfl, rfl, rfl, rfl, t0, t1, u0, u1, d0, d1, HG, HS, HBe⟩ := hrel
    by_cases hlt : k < ys.length
    · obtain ⟨b, off, c', hv, hc1, hc2, hcell⟩ := HY2.out.at_ (by omega)
      injection hv with hv1 _ hv3
      subst hv1 hv3
      obtain ⟨row, hrow⟩ : ∃ row, ys[k]? = some row := ⟨ys[k], List.getElem?_eq_getElem hlt⟩
      obtain ⟨sb, x1, x2, x3, x4, x5, rfl, l1, l2⟩ := HYS.out row (List.mem_of_getElem? hrow)
      have hce := hcell k _ hrow
      have hbe : ∀ j u, (xc sb x1 x2 x3 x4 x5)[j]? = some u → wr.cell? ⟨b, off + k * 6 + j, none⟩ = some u := fun j u hu => by
        have h1 := hce j u hu
        rw [← Nat.add_assoc] at h1
        have h2 : b < w.heap.size := World.block_lt_of_cell? w _ h1
        exact (HBe.out.cell (p := ⟨b, off + k * 6 + j, none⟩) (by rw [← HB.out]; exact h2)).trans h1
      have r0 : wr.cell? ⟨b, off + k * 6, none⟩ = some (.bool sb) := hbe 0 _ rfl
      have r1 : wr.cell? ⟨b, off + k * 6 + 1, none⟩ = some (.int .i64 x1) := hbe 1 _ rfl
      have r2 : wr.cell? ⟨b, off + k * 6 + 2, none⟩ = some (.int .i64 x2) := hbe 2 _ rfl
      have r3 : wr.cell? ⟨b, off + k * 6 + 3, none⟩ = some (.int .i64 x3) := hbe 3 _ rfl
      have r4 : wr.cell? ⟨b, off + k * 6 + 4, none⟩ = some (.int .i64 x4) := hbe 4 _ rfl
      have r5 : wr.cell? ⟨b, off + k * 6 + 5, none⟩ = some (.int .i64 x5) := hbe 5 _ rfl
      have k0 : (0 : Int) ≤ (k : Int) := by omega
      have k1 : (k : Int) < (ys.length : Int) := by omega
      have k3 : (k : Int) < 300 := by omega
      clear hce hbe hcell hrow
      go_upto_region 8 with (fail)
      have bx := Blk.new wr (xc sb x1 x2 x3 x4 x5).toArray 37
      have HG2 := Lib.hid (HG.out.alloc (.cells (xc sb x1 x2 x3 x4 x5).toArray 37))
      have HS2 := Lib.hid (HS.out.alloc (.cells (xc sb x1 x2 x3 x4 x5).toArray 37))
      have hsw : B ≤ wr.heap.size := by have := HG.out.lt; omega
      have HBe2 := Lib.hid (HBe.out.alloc hsw (.cells (xc sb x1 x2 x3 x4 x5).toArray 37))
      have hgx : g < wr.heap.size := HG.out.lt
      have hBx : B < wr.heap.size := HS.out.lt
      obtain ⟨W2, HW2⟩ : ∃ W2, Hid (wr.alloc (.cells (xc sb x1 x2 x3 x4 x5).toArray 37) = W2) := ⟨_, rfl⟩
      have HW2' := HW2.out
      unfold xc at HW2'
      rw [HW2'] at ⊢
      rw [HW2.out] at bx HG2 HS2 HBe2
      clear HW2 HW2'
      obtain ⟨gx, HGX, hgx, hBx⟩ : ∃ gx, Hid (wr.heap.size = gx) ∧ g < gx ∧ B < gx := ⟨_, rfl, hgx, hBx⟩
      rw [HGX.out] at bx ⊢
      clear r0 r1 r2 r3 r4 r5 hsw
      have q1 : W2.cell? ⟨gx, 1, none⟩ = some (.int .i64 x1) := bx.cell 1 rfl
      have q2 : W2.cell? ⟨gx, 2, none⟩ = some (.int .i64 x2) := bx.cell 2 rfl
      have q3 : W2.cell? ⟨gx, 3, none⟩ = some (.int .i64 x3) := bx.cell 3 rfl
      clear bx
      go_cut [42] (fun v wx => v = .bool (decide (0 < x1) && decide (x1 < 1048576)) ∧ wx = W2)
      case first =>
        by_cases a1 : 0 < x1
        · by_cases a2 : x1 < 1048576
          · go_wp2
            go_meet
            exact ⟨by simp [a1, a2], rfl⟩
          · go_wp2
            go_meet
            exact ⟨by simp [a1]; omega, rfl⟩
        · go_wp2
          go_meet
          exact ⟨by simp; omega, rfl⟩
      case rest =>
       obtain ⟨rfl, rfl⟩ := hcut
       obtain ⟨tb, HTB⟩ : ∃ tb, Hid ((decide (0 < x1) && decide (x1 < 1048576)) = tb) := ⟨_, rfl⟩
       rw [HTB.out]
       go_upto_if 42 with (fail)
       go_cut [7] (fun v wx => (∃ T : Int, v = .int .i64 T ∧ now ≤ T ∧ T ≤ now + 1048576) ∧ wx = wc)
       case first =>
        cases tb with
        | true =>
          have e := HTB.out
          simp only [Bool.and_eq_true, decide_eq_true_eq] at e
          obtain ⟨e1, e2⟩ := e
          go_wp2
          go_meet
          exact ⟨⟨_, rfl, by omega, by omega⟩, rfl⟩
        | false =>
          go_wp2
          go_meet
          exact ⟨⟨_, rfl, by omega, by omega⟩, rfl⟩
       case rest =>
        obtain ⟨⟨T, rfl, T0, T1⟩, rfl⟩ := hcut
        obtain ⟨⟨f1, f2, f3, f4⟩, f5, f6, f7, f8, f9⟩ := HM.out
        go_upto_region 11 with (fail)
        obtain ⟨LV, HLV, lv0, lv1⟩ : ∃ LV, Hid (imin (imax x2 0) 20 = LV) ∧ 0 ≤ LV ∧ LV ≤ 20 := ⟨_, rfl, by unfold imin imax; (repeat' split) <;> omega, by unfold imin imax; (repeat' split) <;> omega⟩
        rw [HLV.out]
        have hne := HS2.out.ne HG2.out (by decide)
        go_wp2_with fail
        refine (ScS.step_any HG2.out (by omega) (by omega) (by omega) (by omega) (by omega) (by omega) (by omega) (by omega) (by omega) (by omega) (by omega) (by omega) (by omega) (by omega) T LV x3).mono ?_
        rintro e w8 ⟨r, rfl, hr, hb8, hc8⟩
        have HS8 := Lib.hid (hc8.blk HS2.out hne)
        have HBe8 := Lib.hid (hc8.below HBe2.out (by have := HG2.out.lt; omega) (fun k hk => by omega))
        have eT : nowOf now T = T := by unfold nowOf imax; (repeat' split) <;> omega
        have eL : imax LV 0 = LV := by unfold imax; split <;> omega
        rw [eT, eL] at hr
        rw [eT] at hb8
        have HR := Lib.hid hr
        have HG8 := Lib.hid hb8
        have c0 : w8.cell? ⟨B, 0, none⟩ = some (.int .i64 mn) := HS8.out.cell 0 rfl
        have c1 : w8.cell? ⟨B, 1, none⟩ = some (.int .i64 mx) := HS8.out.cell 1 rfl
        have c4 : w8.cell? ⟨B, 4, none⟩ = some (.int .i64 uw) := HS8.out.cell 4 rfl
        have c5 : w8.cell? ⟨B, 5, none⟩ = some (.int .i64 dw) := HS8.out.cell 5 rfl
        clear hr hb8 hc8 eT eL q1 q2 q3
        go_upto_region 12 with (fail)
        go_cut [14] (fun v wx => v = .bool (decide (mn ≤ LV) && decide (LV ≤ mx)) ∧ wx = w8)
        case first =>
          by_cases a1 : mn ≤ LV
          · by_cases a2 : LV ≤ mx
            · go_wp2
              go_meet
              exact ⟨by simp [a1, a2], rfl⟩
            · go_wp2
              go_meet
              exact ⟨by simp [a1]; omega, rfl⟩
          · go_wp2
            go_meet
            exact ⟨by simp; omega, rfl⟩
        case rest =>
          obtain ⟨rfl, rfl⟩ := hcut
          obtain ⟨ib, HIB⟩ : ∃ ib, Hid ((decide (mn ≤ LV) && decide (LV ≤ mx)) = ib) := ⟨_, rfl⟩
          rw [HIB.out]
          have hin : ib = true → mn ≤ LV ∧ LV ≤ mx := fun h => by
            have e := HIB.out
            rw [h] at e
            simpa only [Bool.and_eq_true, decide_eq_true_eq] using e
          have HUP : Hid (ib = true → 0 < r → 0 ≤ up → uw ≤ T - up) := fun h => (dir_waits HR.out (hin h).1 (hin h).2).1
          have HDN : Hid (ib = true → r < 0 → 0 ≤ imax up dn → dw ≤ T - imax up dn) := fun h => (dir_waits HR.out (hin h).1 (hin h).2).2
          clear hin
          have m0 : -1 ≤ imax up dn := by unfold imax; split <;> omega
          have m1 : imax up dn ≤ T := by unfold imax; split <;> omega
          by_cases hr1 : 0 < r
          · have hr2 : ¬ r < 0 := by omega
            have hg : Blk wc g 49 (sc mn mx per sl uw dw T T dn) := by
              have := HG8.out
              rwa [if_pos hr1, if_neg hr2] at this
            have HG9 := Lib.hid hg
            clear hg
            cases ib with
            | false =>
              go_wp2
              go_roundw
              case rel => exact ⟨k + 1, T, T, dn, by omega, rfl, rfl, rfl, by go_num, by omega, by omega, by omega, by omega, by omega, by omega, HG9, HS8, HBe8⟩
              case measure => simp [intOf]; omega
            | true =>
              by_cases hu0 : 0 ≤ up
              · have hw := HUP.out rfl hr1 hu0
                go_wp2
                go_roundw
                case rel => exact ⟨k + 1, T, T, dn, by omega, rfl, rfl, rfl, by go_num, by omega, by omega, by omega, by omega, by omega, by omega, HG9, HS8, HBe8⟩
                case measure => simp [intOf]; omega
              · go_wp2
                go_roundw
                case rel => exact ⟨k + 1, T, T, dn, by omega, rfl, rfl, rfl, by go_num, by omega, by omega, by omega, by omega, by omega, by omega, HG9, HS8, HBe8⟩
                case measure => simp [intOf]; omega
          · by_cases hr2 : r < 0
            · have hg : Blk wc g 49 (sc mn mx per sl uw dw T up T) := by
                have := HG8.out
                rwa [if_neg hr1, if_pos hr2] at this
              have HG9 := Lib.hid hg
              clear hg
              cases ib with
              | false =>
                go_wp2
                go_roundw
                case rel => exact ⟨k + 1, T, up, T, by omega, rfl, rfl, rfl, by go_num, by omega, by omega, by omega, by omega, by omega, by omega, HG9, HS8, HBe8⟩
                case measure => simp [intOf]; omega
              | true =>
                by_cases hu0 : 0 ≤ imax up dn
                · have hw := HDN.out rfl hr2 hu0
                  go_wp2
                  go_roundw
                  case rel => exact ⟨k + 1, T, up, T, by omega, rfl, rfl, rfl, by go_num, by omega, by omega, by omega, by omega, by omega, by omega, HG9, HS8, HBe8⟩
                  case measure => simp [intOf]; omega
                · go_wp2
                  go_roundw
                  case rel => exact ⟨k + 1, T, up, T, by omega, rfl, rfl, rfl, by go_num, by omega, by omega, by omega, by omega, by omega, by omega, HG9, HS8, HBe8⟩
                  case measure => simp [intOf]; omega
            · have hg : Blk wc g 49 (sc mn mx per sl uw dw T up dn) := by
                have := HG8.out
                rwa [if_neg hr1, if_neg hr2] at this
              have HG9 := Lib.hid hg
              clear hg
              go_wp2
              go_roundw
              case rel => exact ⟨k + 1, T, up, dn, by omega, rfl, rfl, rfl, by go_num, by omega, by omega, by omega, by omega, by omega, by omega, HG9, HS8, HBe8⟩
              case measure => simp [intOf]; omega
    · go_wp2_with fail
      refine alive_any.mono ?_
      rintro e w7 ⟨rfl, hb7⟩
      go_wp2
      go_ret
      refine ⟨rfl, ?_⟩
      rw [HB.out]
      exact HBe.out.trans (hb7.mono (by have := HG.out.lt; omega))

theorem entry (W : World) (v0 : Value) (v1 : Value) (g0 : Arg W (.struct (.cons (.int .i64) (.cons (.int .i64) (.cons (.int .i64) (.cons (.int .i64) (.cons (.int .i64) (.cons (.int .i64) .none))))))) v0)
    (g1 : Arg W (.slice (.struct (.cons .bool (.cons (.int .i64) (.cons (.int .i64) (.cons (.int .i64) (.cons (.int .i64) (.cons (.int .i64) .none)))))))) v1) :
    Calls Try.prog 4 #[v0, v1] W fun e w' => e = .returned (.bool true) ∧ Below W.heap.size W w' := by
  obtain ⟨cs, rfl, hl, hr⟩ := g0
  simp only [Sh.size] at hl
  match cs, hl, hr with
  | [c0, c1, c2, c3, c4, c5], _, hr =>
    simp only [Reads, Sh.size, List.take_succ_cons, List.take_zero, List.drop_succ_cons, List.drop_zero, List.cons.injEq, and_true] at hr
    obtain ⟨⟨x0, rfl, _⟩, ⟨x1, rfl, _⟩, ⟨x2, rfl, _⟩, ⟨x3, rfl, _⟩, ⟨x4, rfl, _⟩, ⟨x5, rfl, _⟩⟩ := hr
    by_cases hM : May x0 x1 x2 x3 x4 x5
    · obtain ⟨xs, hx, hs⟩ := rows_of (by simp [Sh.size]) g1
      refine law_yes hM v1 xs hx (fun row hr => ?_)
      obtain ⟨h1, h2⟩ := hs row hr
      match row, h1, h2 with
      | [c0, c1, c2, c3, c4, c5], _, hr =>
        replace hr := hr.2
        simp only [Reads, Sh.size, List.take_succ_cons, List.take_zero, List.drop_succ_cons, List.drop_zero, List.cons.injEq, and_true] at hr
        obtain ⟨⟨b, rfl⟩, ⟨y1, rfl, l1⟩, ⟨y2, rfl, _⟩, ⟨y3, rfl, _⟩, ⟨y4, rfl, _⟩, ⟨y5, rfl, _⟩⟩ := hr
        have l2 : -9223372036854775808 ≤ y1 ∧ y1 ≤ 9223372036854775807 := by
          simp [Lit.wf, IntKind.min, IntKind.max, IntKind.signed, IntKind.bits] at l1
          omega
        exact ⟨b, y1, y2, y3, y4, y5, rfl, l2.1, l2.2⟩
    · exact law_no hM v1
end
end Go.Proofs.Ytnefniinnjolbaa.ScA
