/-
  ScalePlays: the scaler and the document's answer every call alike.
-/
import Derived.Test.YtnefniinnjolbaaScM
import Derived.Deep.RegionHeld3
namespace Go.Proofs.Ytnefniinnjolbaa.ScL
open Go.RowKit Go.Proofs.Ytnefniinnjolbaa.Kit Go.Proofs.Ytnefniinnjolbaa.ScP Go.Proofs.Ytnefniinnjolbaa.ScN Go.Proofs.Ytnefniinnjolbaa.ScM
open Go.Proofs.Ytnefniinnjolbaa.ScW (sc)
attribute [local go_sem high] max_imax min_imin
set_option linter.unusedVariables false

/-- What the numbers of a scaler keep to. -/
def Fit (mn mx per sl now up dn : Int) : Prop :=
  0 ≤ mn ∧ mn ≤ mx ∧ 1 ≤ mx ∧ mx ≤ 8 ∧ 1 ≤ per ∧ per ≤ 1000 ∧ 0 ≤ sl ∧ sl ≤ 99 ∧ 0 ≤ now ∧ now ≤ 1099511627776 ∧ -1 ≤ up ∧ up ≤ 1099511627776 ∧ -1 ≤ dn ∧ dn ≤ 1099511627776

/-- The cells of a step. -/
def xc (b : Bool) (x1 x2 x3 x4 x5 : Int) : List Value := [.bool b, .int .i64 x1, .int .i64 x2, .int .i64 x3, .int .i64 x4, .int .i64 x5]
def IsStep (row : List Value) : Prop := ∃ b x1 x2 x3 x4 x5, row = xc b x1 x2 x3 x4 x5 ∧ -9223372036854775808 ≤ x1 ∧ x1 ≤ 9223372036854775807

section
variable {w : World}

theorem law_no {mn mx per sl uw dw : Int} (h : ¬ May mn mx per sl uw dw) (v : Value) :
    Calls Try.prog 5 #[.agg #[.int .i64 mn, .int .i64 mx, .int .i64 per, .int .i64 sl, .int .i64 uw, .int .i64 dw], v] w fun e w' => e = .returned (.bool true) ∧ Below w.heap.size w w' := by
  have HN := Lib.hid h
  clear h
  have hu := Try.underlying24
  have hbe : Below w.heap.size w (w.alloc (.cells (st mn mx per sl uw dw) 23)) := (Below.refl _ w).alloc (Nat.le_refl _) _
  go_enter Try.func5, Try.ntmps5
  go_wp2_with fail
  have b0 := Blk.new w (st mn mx per sl uw dw) 23
  obtain ⟨W, HW⟩ : ∃ W, Hid (w.alloc (.cells (st mn mx per sl uw dw) 23) = W) := ⟨_, rfl⟩
  have HW' := HW.out
  unfold st at HW'
  rw [HW'] at ⊢
  rw [HW.out] at b0 hbe
  clear HW HW'
  obtain ⟨B, HB⟩ : ∃ B, Hid (w.heap.size = B) := ⟨_, rfl⟩
  rw [HB.out] at b0 hbe ⊢
  have B0 := Lib.hid b0
  have HBe := Lib.hid hbe
  clear hbe
  refine theirs_any.mono ?_
  rintro e w1 ⟨rfl, hb1⟩
  have HB1 := Lib.hid hb1
  clear hb1
  go_wp2_with fail
  refine (new_no HN.out).mono ?_
  rintro e w2 ⟨rfl, hb2⟩
  have HB2 := Lib.hid hb2
  clear hb2
  have hbb : Blk w2 B 23 (st mn mx per sl uw dw) := by
    have h1 : Blk w1 B 23 (st mn mx per sl uw dw) := (HB1.out.block B B0.out.lt).trans B0.out
    exact (HB2.out.block B h1.lt).trans h1
  have hsz : B ≤ w2.heap.size := by have := hbb.lt; omega
  have HBe2 := Lib.hid ((HBe.out.trans (HB1.out.mono (by have := B0.out.lt; omega))).trans (HB2.out.mono (by have := HB1.out.size; have := B0.out.lt; omega)))
  have c0 : w2.cell? ⟨B, 0, none⟩ = some (.int .i64 mn) := hbb.cell 0 rfl
  have c1 : w2.cell? ⟨B, 1, none⟩ = some (.int .i64 mx) := hbb.cell 1 rfl
  have c2 : w2.cell? ⟨B, 2, none⟩ = some (.int .i64 per) := hbb.cell 2 rfl
  have c3 : w2.cell? ⟨B, 3, none⟩ = some (.int .i64 sl) := hbb.cell 3 rfl
  have c4 : w2.cell? ⟨B, 4, none⟩ = some (.int .i64 uw) := hbb.cell 4 rfl
  have c5 : w2.cell? ⟨B, 5, none⟩ = some (.int .i64 dw) := hbb.cell 5 rfl
  have B2 := Lib.hid hbb
  clear hbb
  go_wp2_with fail
  refine (may_no HN.out).mono ?_
  rintro e w3 ⟨rfl, hb3⟩
  have hbb : Blk w3 B 23 (st mn mx per sl uw dw) := (hb3.block B B2.out.lt).trans B2.out
  have HBe3 := Lib.hid (HBe2.out.trans (hb3.mono hsz))
  have hsz3 : B ≤ w3.heap.size := by have := hbb.lt; omega
  clear c0 c1 c2 c3 c4 c5 hb3
  have c0 : w3.cell? ⟨B, 0, none⟩ = some (.int .i64 mn) := hbb.cell 0 rfl
  have c1 : w3.cell? ⟨B, 1, none⟩ = some (.int .i64 mx) := hbb.cell 1 rfl
  have c2 : w3.cell? ⟨B, 2, none⟩ = some (.int .i64 per) := hbb.cell 2 rfl
  have c3 : w3.cell? ⟨B, 3, none⟩ = some (.int .i64 sl) := hbb.cell 3 rfl
  have c4 : w3.cell? ⟨B, 4, none⟩ = some (.int .i64 uw) := hbb.cell 4 rfl
  have c5 : w3.cell? ⟨B, 5, none⟩ = some (.int .i64 dw) := hbb.cell 5 rfl
  clear hbb
  go_wp2_with fail
  refine (may_no HN.out).mono ?_
  rintro e w4 ⟨rfl, hb4⟩
  have HBe4 := Lib.hid (HBe3.out.trans (hb4.mono hsz3))
  have hsz4 : B ≤ w4.heap.size := by have := hb4.size; omega
  clear hb4
  go_wp2_with fail
  refine alive_any.mono ?_
  rintro e w5 ⟨rfl, hb5⟩
  go_wp2
  go_ret
  exact ⟨rfl, by rw [HB.out]; exact HBe4.out.trans (hb5.mono hsz4)⟩

set_option maxRecDepth 100000 in
set_option maxHeartbeats 8000000 in
theorem law_yes {mn mx per sl uw dw : Int} (h : May mn mx per sl uw dw) (v : Value) (xs : List (List Value)) (hx : RowsAt w 6 v xs) (hs : ∀ row ∈ xs, IsStep row) :
    Calls Try.prog 5 #[.agg #[.int .i64 mn, .int .i64 mx, .int .i64 per, .int .i64 sl, .int .i64 uw, .int .i64 dw], v] w fun e w' => e = .returned (.bool true) ∧ Below w.heap.size w w' := by
  have HM := Lib.hid h
  clear h
  have hu := Try.underlying24
  have hbe : Below w.heap.size w (w.alloc (.cells (st mn mx per sl uw dw) 23)) := (Below.refl _ w).alloc (Nat.le_refl _) _
  obtain ⟨a, c, rfl⟩ := hx.slice
  have HX := Lib.hid hx
  clear hx
  go_enter Try.func5, Try.ntmps5
  go_wp2_with fail
  have b0 := Blk.new w (st mn mx per sl uw dw) 23
  obtain ⟨W, HW⟩ : ∃ W, Hid (w.alloc (.cells (st mn mx per sl uw dw) 23) = W) := ⟨_, rfl⟩
  have HW' := HW.out
  unfold st at HW'
  rw [HW'] at ⊢
  rw [HW.out] at b0 hbe
  clear HW HW'
  obtain ⟨B, HB⟩ : ∃ B, Hid (w.heap.size = B) := ⟨_, rfl⟩
  rw [HB.out] at b0 hbe ⊢
  have B0 := Lib.hid b0
  have HBe := Lib.hid hbe
  clear hbe
  refine theirs_any.mono ?_
  rintro e w1 ⟨rfl, hb1⟩
  have HB1 := Lib.hid hb1
  clear hb1
  go_wp2_with fail
  refine (new_yes HM.out).mono ?_
  rintro e w2 ⟨g, rfl, hg, hbg, hb2⟩
  have HB2 := Lib.hid hb2
  clear hb2
  have hbb : Blk w2 B 23 (st mn mx per sl uw dw) := by
    have h1 : Blk w1 B 23 (st mn mx per sl uw dw) := (HB1.out.block B B0.out.lt).trans B0.out
    exact (HB2.out.block B h1.lt).trans h1
  have hsz : B ≤ w2.heap.size := by have := hbb.lt; omega
  have HBe2 := Lib.hid ((HBe.out.trans (HB1.out.mono (by have := B0.out.lt; omega))).trans (HB2.out.mono (by have := HB1.out.size; have := B0.out.lt; omega)))
  have hgB : B ≤ g := by have := HB1.out.size; have := B0.out.lt; omega
  have HG := Lib.hid hbg
  clear hbg hg
  have c0 : w2.cell? ⟨B, 0, none⟩ = some (.int .i64 mn) := hbb.cell 0 rfl
  have c1 : w2.cell? ⟨B, 1, none⟩ = some (.int .i64 mx) := hbb.cell 1 rfl
  have c2 : w2.cell? ⟨B, 2, none⟩ = some (.int .i64 per) := hbb.cell 2 rfl
  have c3 : w2.cell? ⟨B, 3, none⟩ = some (.int .i64 sl) := hbb.cell 3 rfl
  have c4 : w2.cell? ⟨B, 4, none⟩ = some (.int .i64 uw) := hbb.cell 4 rfl
  have c5 : w2.cell? ⟨B, 5, none⟩ = some (.int .i64 dw) := hbb.cell 5 rfl
  have B2 := Lib.hid hbb
  clear hbb
  go_wp2_with fail
  refine (may_yes HM.out).mono ?_
  rintro e w3 ⟨rfl, hb3⟩
  have hbb : Blk w3 B 23 (st mn mx per sl uw dw) := (hb3.block B B2.out.lt).trans B2.out
  have HG3 := Lib.hid (show Blk w3 g 49 (sc mn mx per sl uw dw 0 (-1) (-1)) from (hb3.block g HG.out.lt).trans HG.out)
  have HBe3 := Lib.hid (HBe2.out.trans (hb3.mono hsz))
  have hsz3 : B ≤ w3.heap.size := by have := hbb.lt; omega
  clear c0 c1 c2 c3 c4 c5 hb3
  have c0 : w3.cell? ⟨B, 0, none⟩ = some (.int .i64 mn) := hbb.cell 0 rfl
  have c1 : w3.cell? ⟨B, 1, none⟩ = some (.int .i64 mx) := hbb.cell 1 rfl
  have c2 : w3.cell? ⟨B, 2, none⟩ = some (.int .i64 per) := hbb.cell 2 rfl
  have c3 : w3.cell? ⟨B, 3, none⟩ = some (.int .i64 sl) := hbb.cell 3 rfl
  have c4 : w3.cell? ⟨B, 4, none⟩ = some (.int .i64 uw) := hbb.cell 4 rfl
  have c5 : w3.cell? ⟨B, 5, none⟩ = some (.int .i64 dw) := hbb.cell 5 rfl
  clear hbb
  go_wp2_with fail
  refine ref_new_any.mono ?_
  rintro e w4 ⟨rfl, hb4⟩
  have HG4 := Lib.hid (show Blk w4 g 49 (sc mn mx per sl uw dw 0 (-1) (-1)) from (hb4.block g HG3.out.lt).trans HG3.out)
  have HBe4 := Lib.hid (HBe3.out.trans (hb4.mono hsz3))
  have hsz4 : B ≤ w4.heap.size := by have := hb4.size; omega
  clear hb4 c0 c1 c2 c3 c4 c5
  go_wp2_with fail
  have b5 := Blk.new w4 (sc mn mx per sl uw dw 0 (-1) (-1)) 41
  have HG5 := Lib.hid (HG4.out.alloc (.cells (sc mn mx per sl uw dw 0 (-1) (-1)) 41))
  have HBe5 := Lib.hid (HBe4.out.alloc hsz4 (.cells (sc mn mx per sl uw dw 0 (-1) (-1)) 41))
  have hgg : g < w4.heap.size := HG4.out.lt
  obtain ⟨W5, HW⟩ : ∃ W, Hid (w4.alloc (.cells (sc mn mx per sl uw dw 0 (-1) (-1)) 41) = W) := ⟨_, rfl⟩
  have HW' := HW.out
  unfold sc at HW'
  rw [HW'] at ⊢
  rw [HW.out] at b5 HG5 HBe5
  clear HW HW'
  obtain ⟨gr, HGR, hgr⟩ : ∃ gr, Hid (w4.heap.size = gr) ∧ g < gr := ⟨_, rfl, hgg⟩
  rw [HGR.out] at b5 hsz4 ⊢
  have HR5 := Lib.hid b5
  have hl := HX.out.1
  have hcap : xs.length ≤ c := by
    rcases HX.out.2 with ⟨h0, _⟩ | ⟨_, _, _, hv, hl2, _⟩
    · rw [h0]; simp
    · injection hv with _ _ hc; rw [hc]; exact hl2
  clear b5 hgg HG4 HBe4 HG3 HBe3 HBe2 HG B0 B2 HB1 HB2 HBe
  refine (short_any a xs.length c hl hcap).mono ?_
  rintro e w6 ⟨rfl, nd, rfl⟩
  have hX2 := HX.out.take_ (min xs.length 300) (Nat.min_le_left _ _)
  obtain ⟨ys, HY⟩ : ∃ ys, Hid (xs.take (min xs.length 300) = ys) := ⟨_, rfl⟩
  have hyl : min xs.length 300 = ys.length := by rw [← HY.out, List.length_take]; omega
  have hy3 : ys.length ≤ 300 := by omega
  have hys : ∀ row ∈ ys, IsStep row := fun row hr => hs row (by rw [← HY.out] at hr; exact List.mem_of_mem_take hr)
  rw [HY.out, hyl] at hX2
  rw [hyl]
  have HY2 := Lib.hid hX2
  have HYS := Lib.hid hys
  have HF : Hid (Fit mn mx per sl 0 (-1) (-1)) := by
    obtain ⟨⟨h1, h2, h3, h4⟩, h5, h6, h7, h8, _⟩ := HM.out
    refine ⟨h1, h2, h3, h4, h5, h6, h7, h8, ?_⟩
    omega
  clear hX2 hys hyl HY hl hcap HX hs hsz hsz3
  go_wp2_with fail
  go_loopw [45] (fun i wr => ∃ (k : Nat) (mn mx now up dn : Int), k ≤ ys.length ∧ i = .int .i64 k ∧ Hid (Fit mn mx per sl now up dn) ∧ Hid (Blk wr g 49 (sc mn mx per sl uw dw now up dn)) ∧ Hid (Blk wr gr 41 (sc mn mx per sl uw dw now up dn)) ∧ Hid (Below B w wr)) (fun i _ => ys.length - (intOf i).toNat)
  case atStart => exact ⟨0, mn, mx, 0, -1, -1, Nat.zero_le _, rfl, HF, HG5, HR5, below_drewN HBe5.out nd⟩
  case round =>
    obtain ⟨k, mn, mx, now, up, dn, hk, rfl, HF, HG, HR, HBe⟩ := hrel
    by_cases hlt : k < ys.length
    · obtain ⟨b, off, c', hv, hc1, hc2, hcell⟩ := HY2.out.at_ (by omega)
      injection hv with hv1 _ hv3
      subst hv1 hv3
      obtain ⟨row, hrow⟩ : ∃ row, ys[k]? = some row := ⟨ys[k], List.getElem?_eq_getElem hlt⟩
      obtain ⟨sb, x1, x2, x3, x4, x5, rfl, l1, l2⟩ := HYS.out row (List.mem_of_getElem? hrow)
      have hce := hcell k _ hrow
      have hbe : ∀ j u, (xc sb x1 x2 x3 x4 x5)[j]? = some u → wr.cell? ⟨b, off + k * 6 + j, none⟩ = some u := fun j u hu => by
        have h1 := hce j u hu
        rw [← Nat.add_assoc] at h1
        have h2 : b < w.heap.size := World.block_lt_of_cell? w _ h1
        exact (HBe.out.cell (p := ⟨b, off + k * 6 + j, none⟩) (by rw [← HB.out]; exact h2)).trans h1
      have r0 : wr.cell? ⟨b, off + k * 6, none⟩ = some (.bool sb) := hbe 0 _ rfl
      have r1 : wr.cell? ⟨b, off + k * 6 + 1, none⟩ = some (.int .i64 x1) := hbe 1 _ rfl
      have r2 : wr.cell? ⟨b, off + k * 6 + 2, none⟩ = some (.int .i64 x2) := hbe 2 _ rfl
      have r3 : wr.cell? ⟨b, off + k * 6 + 3, none⟩ = some (.int .i64 x3) := hbe 3 _ rfl
      have r4 : wr.cell? ⟨b, off + k * 6 + 4, none⟩ = some (.int .i64 x4) := hbe 4 _ rfl
      have r5 : wr.cell? ⟨b, off + k * 6 + 5, none⟩ = some (.int .i64 x5) := hbe 5 _ rfl
      have k0 : (0 : Int) ≤ (k : Int) := by omega
      have k1 : (k : Int) < (ys.length : Int) := by omega
      clear hce hbe hcell hrow
      go_upto_region 8 with (fail)
      have bx := Blk.new wr (xc sb x1 x2 x3 x4 x5).toArray 37
      have HG2 := Lib.hid (HG.out.alloc (.cells (xc sb x1 x2 x3 x4 x5).toArray 37))
      have HR2 := Lib.hid (HR.out.alloc (.cells (xc sb x1 x2 x3 x4 x5).toArray 37))
      have hsw : B ≤ wr.heap.size := by have := HG.out.lt; omega
      have HBe2 := Lib.hid (HBe.out.alloc hsw (.cells (xc sb x1 x2 x3 x4 x5).toArray 37))
      have hgx : gr < wr.heap.size := HR.out.lt
      obtain ⟨W2, HW2⟩ : ∃ W2, Hid (wr.alloc (.cells (xc sb x1 x2 x3 x4 x5).toArray 37) = W2) := ⟨_, rfl⟩
      have HW2' := HW2.out
      unfold xc at HW2'
      rw [HW2'] at ⊢
      rw [HW2.out] at bx HG2 HR2 HBe2
      clear HW2 HW2'
      obtain ⟨gx, HGX, hgx⟩ : ∃ gx, Hid (wr.heap.size = gx) ∧ gr < gx := ⟨_, rfl, hgx⟩
      rw [HGX.out] at bx ⊢
      clear r0 r1 r2 r3 r4 r5 hsw
      have q0 : W2.cell? ⟨gx, 0, none⟩ = some (.bool sb) := bx.cell 0 rfl
      have q1 : W2.cell? ⟨gx, 1, none⟩ = some (.int .i64 x1) := bx.cell 1 rfl
      have q2 : W2.cell? ⟨gx, 2, none⟩ = some (.int .i64 x2) := bx.cell 2 rfl
      have q3 : W2.cell? ⟨gx, 3, none⟩ = some (.int .i64 x3) := bx.cell 3 rfl
      have q4 : W2.cell? ⟨gx, 4, none⟩ = some (.int .i64 x4) := bx.cell 4 rfl
      have q5 : W2.cell? ⟨gx, 5, none⟩ = some (.int .i64 x5) := bx.cell 5 rfl
      clear bx
      obtain ⟨_, _, _, _, _, _, s6, _⟩ := ScR.cells HR2.out
      obtain ⟨f1, f2, f3, f4, f5, f6, f7, f8, f9, f10, f11, f12, f13, f14⟩ := HF.out
      go_upto_region 9 with (fail)
      go_cut [58] (fun v wx => v = .bool (decide (-100000 < x1) && decide (x1 < 1125899906842624)) ∧ wx = W2)
      case first =>
        by_cases a1 : -100000 < x1
        · by_cases a2 : x1 < 1125899906842624
          · go_wp2
            go_meet
            exact ⟨by simp [a1, a2], rfl⟩
          · go_wp2
            go_meet
            exact ⟨by simp [a1]; omega, rfl⟩
        · go_wp2
          go_meet
          exact ⟨by simp; omega, rfl⟩
      case rest =>
        obtain ⟨rfl, rfl⟩ := hcut
        obtain ⟨tb, HTB⟩ : ∃ tb, Hid ((decide (-100000 < x1) && decide (x1 < 1125899906842624)) = tb) := ⟨_, rfl⟩
        rw [HTB.out]
        go_upto_if 58 with (fail)
        go_cut [10] (fun v wx => (∃ T : Int, v = .int .i64 T) ∧ wx = wc)
        case first =>
          cases tb with
          | true =>
            have e := HTB.out
            simp only [Bool.and_eq_true, decide_eq_true_eq] at e
            obtain ⟨e1, e2⟩ := e
            go_wp2
            go_meet
            exact ⟨⟨_, rfl⟩, rfl⟩
          | false =>
            go_wp2
            go_meet
            exact ⟨⟨_, rfl⟩, rfl⟩
        case rest =>
          obtain ⟨⟨T, rfl⟩, rfl⟩ := hcut
          by_cases hbig : 1048576 < x2
          · go_wp2_with fail
            refine alive_any.mono ?_
            rintro e w7 ⟨rfl, hb7⟩
            go_wp2
            go_ret
            refine ⟨rfl, ?_⟩
            rw [HB.out]
            exact HBe2.out.trans (hb7.mono (by have := HG2.out.lt; omega))
          · go_upto_if 68 with (fail)
            go_cut [] (fun wx => ∃ mn mx now up dn : Int, Hid (Fit mn mx per sl now up dn) ∧ Hid (Blk wx g 49 (sc mn mx per sl uw dw now up dn)) ∧ Hid (Blk wx gr 41 (sc mn mx per sl uw dw now up dn)) ∧ Hid (Chg (fun k => k = g ∨ k = gr) wc wx))
            case first =>
              cases sb with
              | true =>
                by_cases hset : 0 ≤ x4 ∧ x4 ≤ x5 ∧ 1 ≤ x5 ∧ x5 ≤ 8
                · have HS := Lib.hid hset
                  clear hset q0 q1 q2 q3 s6
                  go_upto_region 14 with (fail)
                  go_region_held3 (fun w' => w'.cell? ⟨gx, 4, none⟩ = some (.int .i64 x4) ∧ w'.cell? ⟨gx, 5, none⟩ = some (.int .i64 x5)) (first | go_keep | exact ⟨by assumption, by assumption⟩) (first | (go_at_call 15; refine (ScW.set_yes (by exact HG2.out) (by omega) x4 x5 HS.out).mono ?_; rintro e w8 ⟨rfl, hb8, hc8⟩; have p4 := hc8.cell (p := ⟨gx, 4, none⟩) (v := .int .i64 x4) (by first | exact q4 | simpa using q4) (by show ¬ gx = g; omega); have p5 := hc8.cell (p := ⟨gx, 5, none⟩) (v := .int .i64 x5) (by first | exact q5 | simpa using q5) (by show ¬ gx = g; omega); have HR8 := Lib.hid (hc8.blk HR2.out (by show ¬ gr = g; omega)); have HB8 := Lib.hid hb8; have HC8 := Lib.hid hc8; clear hb8 hc8) | (go_at_call 16; refine (ScR.set_yes (by exact HR8.out) x4 x5 HS.out).mono ?_; rintro e w9 ⟨rfl, hb9, hc9⟩; have o4 := hc9.cell (p := ⟨gx, 4, none⟩) (v := .int .i64 x4) (by first | exact p4 | simpa using p4) (by show ¬ gx = gr; omega); have o5 := hc9.cell (p := ⟨gx, 5, none⟩) (v := .int .i64 x5) (by first | exact p5 | simpa using p5) (by show ¬ gx = gr; omega); have HB9 := Lib.hid hb9; have HC9 := Lib.hid hc9; clear hb9 hc9))
                  go_wp2
                  go_meet
                  exact ⟨x4, x5, now, up, dn, by show _ ∧ _; have := HS.out; omega, Lib.hid (HC9.out.blk HB8.out (by show ¬ g = gr; omega)), Lib.hid HB9.out, Lib.hid (((Chg.refl (fun k => k = g ∨ k = gr) wc).drew.then HC8.out (fun i _ hi => .inl hi)).then HC9.out (fun i _ hi => .inr hi))⟩
                · have HS := Lib.hid hset
                  clear hset q0 q1 q2 q3 s6
                  go_upto_region 14 with (fail)
                  go_region_held3 (fun w' => w'.cell? ⟨gx, 4, none⟩ = some (.int .i64 x4) ∧ w'.cell? ⟨gx, 5, none⟩ = some (.int .i64 x5)) (first | go_keep | exact ⟨by assumption, by assumption⟩) (first | (go_at_call 15; refine (ScW.set_no (by exact HG2.out) (by omega) x4 x5 HS.out).mono ?_; rintro e w8 ⟨rfl, n8, rfl⟩) | (go_at_call 16; refine (ScR.set_no x4 x5 HS.out).mono ?_; rintro e w9 ⟨rfl, n9, rfl⟩))
                  go_wp2
                  go_meet
                  exact ⟨mn, mx, now, up, dn, by show _ ∧ _; omega, Lib.hid HG2.out, Lib.hid HR2.out, Lib.hid ((Chg.refl (fun k => k = g ∨ k = gr) wc).drewN _)⟩
              | false =>
                clear q0 q1 q4 q5 s6
                go_upto_region 16 with (fail)
                go_region_held3 (fun w' => w'.cell? ⟨gx, 2, none⟩ = some (.int .i64 x2) ∧ w'.cell? ⟨gx, 3, none⟩ = some (.int .i64 x3)) (first | go_keep | exact ⟨by assumption, by assumption⟩) (first | (go_at_call 10; refine (ScS.step_any (by exact HG2.out) (by omega) (by omega) (by omega) (by omega) (by omega) (by omega) (by omega) (by omega) (by omega) (by omega) (by omega) (by omega) (by omega) (by omega) T x2 x3).mono ?_; rintro e w8 ⟨r, rfl, hr8, hb8, hc8⟩; have p2 := hc8.cell (p := ⟨gx, 2, none⟩) (v := .int .i64 x2) (by first | exact q2 | simpa using q2) (by show ¬ gx = g; omega); have p3 := hc8.cell (p := ⟨gx, 3, none⟩) (v := .int .i64 x3) (by first | exact q3 | simpa using q3) (by show ¬ gx = g; omega); have HR8 := Lib.hid (hc8.blk HR2.out (by show ¬ gr = g; omega)); have HB8 := Lib.hid hb8; have HC8 := Lib.hid hc8; have HQ8 := Lib.hid hr8; clear hb8 hc8 hr8) | (go_at_call 17; refine (ScT.step_any (by exact HR8.out) (by omega) (by omega) (by omega) (by omega) (by omega) (by omega) (by omega) (by omega) (by omega) (by omega) (by omega) (by omega) (by omega) (by omega) T x2 x3).mono ?_; rintro e w9 ⟨r9, rfl, hr9, hb9, hc9⟩; have hrr := hr9.trans HQ8.out.symm; subst hrr; have o2 := hc9.cell (p := ⟨gx, 2, none⟩) (v := .int .i64 x2) (by first | exact p2 | simpa using p2) (by show ¬ gx = gr; omega); have o3 := hc9.cell (p := ⟨gx, 3, none⟩) (v := .int .i64 x3) (by first | exact p3 | simpa using p3) (by show ¬ gx = gr; omega); have HB9 := Lib.hid hb9; have HC9 := Lib.hid hc9; clear hb9 hc9 hr9))
                go_wp2
                go_meet
                have y1 := nowOf_lo now T f9
                have y2 := nowOf_hi now T f10
                exact ⟨mn, mx, nowOf now T, _, _, by show _ ∧ _; (repeat' split) <;> omega, Lib.hid (HC9.out.blk HB8.out (by show ¬ g = gr; omega)), Lib.hid HB9.out, Lib.hid (((Chg.refl (fun k => k = g ∨ k = gr) wc).drew.then HC8.out (fun i _ hi => .inl hi)).then HC9.out (fun i _ hi => .inr hi))⟩
            case rest =>
              obtain ⟨mn, mx, now, up, dn, HF3, HG3, HR3, HC3⟩ := hcut
              have q33 := HC3.out.cell q3 (by show ¬ (gx = g ∨ gx = gr); omega)
              obtain ⟨e1, e2, e3, e4, e5, e6, e7, e8, e9, e10, e11, e12, e13, e14⟩ := HF3.out
              clear q0 q1 q2 q3 q4 q5 s6
              go_wp2_with fail
              refine (ScW.bounds_any HG3.out (by omega)).mono ?_
              rintro e w9 ⟨rfl, n9, rfl⟩
              obtain ⟨s0, s1, _, _, _, _, s6, _⟩ := ScR.cells HR3.out
              go_upto_region 19 with (fail)
              go_big_quiet ((first | (go_at_call 11; first | exact Calls.quiet_of (ScW.want_any (by exact HG3.out) (by omega) (by omega) (by omega) (by omega) _) | exact quiet_add (ScW.want_any (by exact HG3.out) (by omega) (by omega) (by omega) (by omega) _)) | (go_at_call 19; first | exact Calls.quiet_of (ScR.want_any (by exact HR3.out) (by omega) (by omega) (by omega) (by omega) (by omega) (by omega) _) | exact quiet_add (ScR.want_any (by exact HR3.out) (by omega) (by omega) (by omega) (by omega) (by omega) (by omega) _)) | (go_at_call 20; first | exact Calls.quiet_of (ScW.now_any (by exact HG3.out) (by omega)) | exact quiet_add (ScW.now_any (by exact HG3.out) (by omega)))))
              have HBe3 := Lib.hid (HC3.out.below HBe2.out (by have := HG2.out.lt; omega) (fun k hk => by rcases hk with rfl | rfl <;> omega))
              clear s0 s1 s6 q33
              go_wp2
              go_roundw
              case rel => exact ⟨k + 1, mn, mx, now, up, dn, by omega, by go_num, HF3, Lib.hid (HG3.out.drewN _), Lib.hid (HR3.out.drewN _), Lib.hid (below_drewN HBe3.out _)⟩
              case measure => simp [intOf]; omega
    · go_wp2_with fail
      refine alive_any.mono ?_
      rintro e w7 ⟨rfl, hb7⟩
      go_wp2
      go_ret
      refine ⟨rfl, ?_⟩
      rw [HB.out]
      exact HBe.out.trans (hb7.mono (by have := HG.out.lt; omega))

theorem entry (W : World) (v0 : Value) (v1 : Value) (g0 : Arg W (.struct (.cons (.int .i64) (.cons (.int .i64) (.cons (.int .i64) (.cons (.int .i64) (.cons (.int .i64) (.cons (.int .i64) .none))))))) v0)
    (g1 : Arg W (.slice (.struct (.cons .bool (.cons (.int .i64) (.cons (.int .i64) (.cons (.int .i64) (.cons (.int .i64) (.cons (.int .i64) .none)))))))) v1) :
    Calls Try.prog 5 #[v0, v1] W fun e w' => e = .returned (.bool true) ∧ Below W.heap.size W w' := by
  obtain ⟨cs, rfl, hl, hr⟩ := g0
  simp only [Sh.size] at hl
  match cs, hl, hr with
  | [c0, c1, c2, c3, c4, c5], _, hr =>
    simp only [Reads, Sh.size, List.take_succ_cons, List.take_zero, List.drop_succ_cons, List.drop_zero, List.cons.injEq, and_true] at hr
    obtain ⟨⟨x0, rfl, _⟩, ⟨x1, rfl, _⟩, ⟨x2, rfl, _⟩, ⟨x3, rfl, _⟩, ⟨x4, rfl, _⟩, ⟨x5, rfl, _⟩⟩ := hr
    by_cases hM : May x0 x1 x2 x3 x4 x5
    · obtain ⟨xs, hx, hs⟩ := rows_of (by simp [Sh.size]) g1
      refine law_yes hM v1 xs hx (fun row hr => ?_)
      obtain ⟨h1, h2⟩ := hs row hr
      match row, h1, h2 with
      | [c0, c1, c2, c3, c4, c5], _, hr =>
        replace hr := hr.2
        simp only [Reads, Sh.size, List.take_succ_cons, List.take_zero, List.drop_succ_cons, List.drop_zero, List.cons.injEq, and_true] at hr
        obtain ⟨⟨b, rfl⟩, ⟨y1, rfl, l1⟩, ⟨y2, rfl, _⟩, ⟨y3, rfl, _⟩, ⟨y4, rfl, _⟩, ⟨y5, rfl, _⟩⟩ := hr
        have l2 : -9223372036854775808 ≤ y1 ∧ y1 ≤ 9223372036854775807 := by
          simp [Lit.wf, IntKind.min, IntKind.max, IntKind.signed, IntKind.bits] at l1
          omega
        exact ⟨b, y1, y2, y3, y4, y5, rfl, l2.1, l2.2⟩
    · exact law_no hM v1
end
end Go.Proofs.Ytnefniinnjolbaa.ScL
