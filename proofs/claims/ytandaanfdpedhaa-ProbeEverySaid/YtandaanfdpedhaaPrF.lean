/-
  ProbeEvery: no question is asked more often than Every; each has a number of its own, and is answered once.
-/
import Derived.Test.YtandaanfdpedhaaPrE
import Derived.Carry
namespace Go.Proofs.Ytandaanfdpedhaa.PrF
open Go.RowKit Go.Proofs.Ytandaanfdpedhaa.Kit Go.Proofs.Ytandaanfdpedhaa.PrP Go.Proofs.Ytandaanfdpedhaa.PrN Go.Proofs.Ytandaanfdpedhaa.PrL Go.Proofs.Ytandaanfdpedhaa.PrE
open Go.Proofs.Ytandaanfdpedhaa.PrW (pc)
attribute [local go_sem high] max_imax min_imin
set_option linter.unusedVariables false
section
variable {ev wt ms ht : Int} {w : World}

def IsStep3 (row : List Value) : Prop := ∃ x0 x1 x2, row = xc x0 x1 x2 ∧ 0 ≤ x0 ∧ x0 ≤ 255 ∧ -9223372036854775808 ≤ x1 ∧ x1 ≤ 9223372036854775807 ∧ (Lit.int .u64 x2).wf = true
theorem isStep3 (row : List Value) (h1 : row.length = (Sh.struct (.cons (.int .u8) (.cons (.int .i64) (.cons (.int .u64) .none)))).size) (h2 : Reads w (.struct (.cons (.int .u8) (.cons (.int .i64) (.cons (.int .u64) .none)))) row) : IsStep3 row := by
  match row, h1, h2 with
  | [c0, c1, c2], _, hr =>
    replace hr := hr.2
    simp only [Reads, Sh.size, List.take_succ_cons, List.take_zero, List.drop_succ_cons, List.drop_zero, List.cons.injEq, and_true] at hr
    obtain ⟨⟨y0, rfl, l0⟩, ⟨y1, rfl, l1⟩, ⟨y2, rfl, l4⟩⟩ := hr
    have l2 : -9223372036854775808 ≤ y1 ∧ y1 ≤ 9223372036854775807 := by
      simp [Lit.wf, IntKind.min, IntKind.max, IntKind.signed, IntKind.bits] at l1
      omega
    have l3 : 0 ≤ y0 ∧ y0 ≤ 255 := by
      simp [Lit.wf, IntKind.min, IntKind.max, IntKind.signed, IntKind.bits] at l0
      omega
    exact ⟨y0, y1, y2, rfl, l3.1, l3.2, l2.1, l2.2, l4⟩

theorem law_no (h : ¬ May ev wt ms ht) (v : Value) :
    Calls Try.prog 3 #[.agg #[.int .i64 ev, .int .i64 wt, .int .i64 ms, .int .i64 ht], v] w fun e w' => e = .returned (.bool true) ∧ Below w.heap.size w w' := by
  have HN := Lib.hid h
  clear h
  have hu := Try.underlying25
  have hbe : Below w.heap.size w (w.alloc (.cells (st ev wt ms ht) 23)) := (Below.refl _ w).alloc (Nat.le_refl _) _
  go_enter Try.func3, Try.ntmps3
  go_wp2_with fail
  have b0 := Blk.new w (st ev wt ms ht) 23
  obtain ⟨W, HW⟩ : ∃ W, Hid (w.alloc (.cells (st ev wt ms ht) 23) = W) := ⟨_, rfl⟩
  have HW' := HW.out
  unfold st at HW'
  rw [HW'] at ⊢
  rw [HW.out] at b0 hbe
  clear HW HW'
  obtain ⟨B, HB⟩ : ∃ B, Hid (w.heap.size = B) := ⟨_, rfl⟩
  rw [HB.out] at b0 hbe ⊢
  have B0 := Lib.hid b0
  have HBe := Lib.hid hbe
  clear hbe
  refine theirs_any.mono ?_
  rintro e w1 ⟨rfl, hb1⟩
  have HB1 := Lib.hid hb1
  clear hb1
  go_wp2_with fail
  refine (new_no HN.out).mono ?_
  rintro e w2 ⟨rfl, hb2⟩
  have HB2 := Lib.hid hb2
  clear hb2
  have hbb : Blk w2 B 23 (st ev wt ms ht) := by
    have h1 : Blk w1 B 23 (st ev wt ms ht) := (HB1.out.block B B0.out.lt).trans B0.out
    exact (HB2.out.block B h1.lt).trans h1
  have hsz : B ≤ w2.heap.size := by have := hbb.lt; omega
  have HBe2 := Lib.hid ((HBe.out.trans (HB1.out.mono (by have := B0.out.lt; omega))).trans (HB2.out.mono (by have := HB1.out.size; have := B0.out.lt; omega)))
  clear hbb
  go_wp2_with fail
  refine PrA.alive_any.mono ?_
  rintro e w5 ⟨rfl, hb5⟩
  go_wp2
  go_ret
  exact ⟨rfl, by rw [HB.out]; exact HBe2.out.trans (hb5.mono hsz)⟩

set_option maxRecDepth 100000 in
set_option maxHeartbeats 8000000 in
theorem law_yes (h : May ev wt ms ht) (v : Value) (xs : List (List Value)) (hx : RowsAt w 3 v xs) (hs : ∀ row ∈ xs, IsStep3 row) :
    Calls Try.prog 3 #[.agg #[.int .i64 ev, .int .i64 wt, .int .i64 ms, .int .i64 ht], v] w fun e w' => e = .returned (.bool true) ∧ Below w.heap.size w w' := by
  have HM := Lib.hid h
  clear h
  have hu := Try.underlying25
  have hbe : Below w.heap.size w (w.alloc (.cells (st ev wt ms ht) 23)) := (Below.refl _ w).alloc (Nat.le_refl _) _
  obtain ⟨a, c, rfl⟩ := hx.slice
  have HX := Lib.hid hx
  clear hx
  go_enter Try.func3, Try.ntmps3
  go_wp2_with fail
  have b0 := Blk.new w (st ev wt ms ht) 23
  obtain ⟨W, HW⟩ : ∃ W, Hid (w.alloc (.cells (st ev wt ms ht) 23) = W) := ⟨_, rfl⟩
  have HW' := HW.out
  unfold st at HW'
  rw [HW'] at ⊢
  rw [HW.out] at b0 hbe
  clear HW HW'
  obtain ⟨B, HB⟩ : ∃ B, Hid (w.heap.size = B) := ⟨_, rfl⟩
  rw [HB.out] at b0 hbe ⊢
  have B0 := Lib.hid b0
  have HBe := Lib.hid hbe
  clear hbe
  refine theirs_any.mono ?_
  rintro e w1 ⟨rfl, hb1⟩
  have HB1 := Lib.hid hb1
  clear hb1
  go_wp2_with fail
  refine (new_yes HM.out).mono ?_
  rintro e w2 ⟨g, rfl, hg, hbg, hb2⟩
  have HB2 := Lib.hid hb2
  clear hb2
  have hbb : Blk w2 B 23 (st ev wt ms ht) := by
    have h1 : Blk w1 B 23 (st ev wt ms ht) := (HB1.out.block B B0.out.lt).trans B0.out
    exact (HB2.out.block B h1.lt).trans h1
  have hsz : B ≤ w2.heap.size := by have := hbb.lt; omega
  have HBe2 := Lib.hid ((HBe.out.trans (HB1.out.mono (by have := B0.out.lt; omega))).trans (HB2.out.mono (by have := HB1.out.size; have := B0.out.lt; omega)))
  have hgB : B < g := by have := HB1.out.size; have := B0.out.lt; omega
  have HG := Lib.hid hbg
  clear hbg hg
  have B2 := Lib.hid hbb
  clear hbb
  have hl := HX.out.1
  have hcap : xs.length ≤ c := by
    rcases HX.out.2 with ⟨h0, _⟩ | ⟨_, _, _, hv, hl2, _⟩
    · rw [h0]; simp
    · injection hv with _ _ hc; rw [hc]; exact hl2
  have hX2 := HX.out.take_ (min xs.length 400) (Nat.min_le_left _ _)
  obtain ⟨ys, HY⟩ : ∃ ys, Hid (xs.take (min xs.length 400) = ys) := ⟨_, rfl⟩
  have hyl : min xs.length 400 = ys.length := by rw [← HY.out, List.length_take]; omega
  have hy3 : ys.length ≤ 400 := by omega
  have hys : ∀ row ∈ ys, IsStep3 row := fun row hr => hs row (by rw [← HY.out] at hr; exact List.mem_of_mem_take hr)
  rw [HY.out, hyl] at hX2
  have HYL := Lib.hid hyl
  have HY2 := Lib.hid hX2
  have HYS := Lib.hid hys
  clear hys hX2 hyl HY hs HX HB1 HB2 B0 HBe
  have hmm := @run_makeMap Try.prog
  go_wp2_with fail
  clear hmm
  have HMP := Lib.hid (MapS.made w2)
  have HG3 := Lib.hid (HG.out.alloc (.map #[] 0))
  have B3 := Lib.hid (B2.out.alloc (.map #[] 0))
  have HBe3 := Lib.hid (HBe2.out.alloc hsz (.map #[] 0))
  have hgm : g < w2.heap.size := HG.out.lt
  obtain ⟨W3, HW⟩ : ∃ W, Hid (w2.alloc (.map #[] 0) = W) := ⟨_, rfl⟩
  rw [HW.out] at HMP HG3 B3 HBe3 ⊢
  clear HW
  obtain ⟨gm, HGM, hgm⟩ : ∃ gm, Hid (w2.heap.size = gm) ∧ g < gm := ⟨_, rfl, hgm⟩
  rw [HGM.out] at HMP hsz ⊢
  clear HG B2 HBe2
  refine (short_any a xs.length c hl hcap).mono ?_
  rintro e w6 ⟨rfl, nd, rfl⟩
  rw [HYL.out]
  have HEv : Hid (Ev ev wt ms ht 0 0 0 (-1) (fun _ => false) p0) := by
    obtain ⟨⟨e0, e1⟩, ⟨w0, w1⟩, ⟨m0, m1⟩, ⟨h0, h1⟩⟩ := HM.out
    exact ⟨by constructor <;> simp only [p0] <;> omega, by simp [p0], by omega, by omega, by simp [p0], by omega, by omega, by omega, by simp [p0], by simp [p0], by simp⟩
  clear hl hcap HYL
  go_wp2_with fail
  go_loopw [32, 7, 8, 9] (fun i n l q wr => ∃ (k : Nat) (now last : Int) (p : Pb) (S : Int → Bool), k ≤ ys.length ∧ i = .int .i64 k ∧ n = .int .i64 now ∧ l = .int .i64 last ∧ q = .int .u64 p.asked ∧ Hid (Ev ev wt ms ht k k now last S p) ∧ Hid (Blk wr g 48 (pc ev wt ms ht p)) ∧ Hid (Blk wr B 23 (st ev wt ms ht)) ∧ Hid (MapS wr gm k S) ∧ Hid (Below B w wr)) (fun i _ _ _ _ => ys.length - (intOf i).toNat)
  case atStart => exact ⟨0, 0, -1, p0, fun _ => false, Nat.zero_le _, rfl, rfl, rfl, rfl, HEv, HG3, B3, HMP, below_drewN HBe3.out nd⟩
  case round =>
    obtain ⟨k, now, last, p, S, hk, rfl, rfl, rfl, rfl, HEv, HG, HB2, HMP, HBe⟩ := hrel
    by_cases hlt : k < ys.length
    · obtain ⟨b, off, c', hv, hc1, hc2, hcell⟩ := HY2.out.at_ (by omega)
      injection hv with hv1 _ hv3
      subst hv1 hv3
      obtain ⟨row, hrow⟩ : ∃ row, ys[k]? = some row := ⟨ys[k], List.getElem?_eq_getElem hlt⟩
      obtain ⟨x0, x1, x2, rfl, k0, k1, l1, l2, hx2⟩ := HYS.out row (List.mem_of_getElem? hrow)
      have HX2 := Lib.hid hx2
      clear hx2
      have hce := hcell k _ hrow
      have hbe : ∀ j u, (xc x0 x1 x2)[j]? = some u → wr.cell? ⟨b, off + k * 3 + j, none⟩ = some u := fun j u hu => by
        have h1 := hce j u hu
        rw [← Nat.add_assoc] at h1
        have h2 : b < w.heap.size := World.block_lt_of_cell? w _ h1
        exact (HBe.out.cell (p := ⟨b, off + k * 3 + j, none⟩) (by rw [← HB.out]; exact h2)).trans h1
      have r0 : wr.cell? ⟨b, off + k * 3, none⟩ = some (.int .u8 x0) := hbe 0 _ rfl
      have r1 : wr.cell? ⟨b, off + k * 3 + 1, none⟩ = some (.int .i64 x1) := hbe 1 _ rfl
      have r2 : wr.cell? ⟨b, off + k * 3 + 2, none⟩ = some (.int .u64 x2) := hbe 2 _ rfl
      have i0 : (0 : Int) ≤ (k : Int) := by omega
      have i1 : (k : Int) < (ys.length : Int) := by omega
      clear hce hbe hcell hrow
      obtain ⟨pa, HPA⟩ : ∃ z, Hid (p.asked = z) := ⟨_, rfl⟩
      have a0 := HEv.out.inv.asked0
      have a1 := HEv.out.few
      have n0 := HEv.out.n0
      have n1 := HEv.out.n1
      have la0 := HEv.out.l0
      have la1 := HEv.out.l1
      rw [HPA.out] at a0 a1 ⊢
      go_upto_region 10 with (fail)
      have bx := Blk.new wr (xc x0 x1 x2).toArray 36
      have HG2 := Lib.hid (HG.out.alloc (.cells (xc x0 x1 x2).toArray 36))
      have HBB := Lib.hid (HB2.out.alloc (.cells (xc x0 x1 x2).toArray 36))
      have hsw : B ≤ wr.heap.size := by have := HG.out.lt; omega
      have HBe2 := Lib.hid (HBe.out.alloc hsw (.cells (xc x0 x1 x2).toArray 36))
      have hgx : gm < wr.heap.size := HMP.out.lt
      have HM2 := Lib.hid (HMP.out.chg ((Chg.refl (fun _ => False) wr).alloc (.cells (xc x0 x1 x2).toArray 36)) id)
      obtain ⟨W2, HW2⟩ : ∃ W2, Hid (wr.alloc (.cells (xc x0 x1 x2).toArray 36) = W2) := ⟨_, rfl⟩
      have HW2' := HW2.out
      unfold xc at HW2'
      rw [HW2'] at ⊢
      rw [HW2.out] at bx HG2 HBB HBe2 HM2
      clear HW2 HW2'
      obtain ⟨gx, HGX, hgx⟩ : ∃ gx, Hid (wr.heap.size = gx) ∧ gm < gx := ⟨_, rfl, hgx⟩
      rw [HGX.out] at bx ⊢
      clear r0 r1 r2 hsw
      have q0 : W2.cell? ⟨gx, 0, none⟩ = some (.int .u8 x0) := bx.cell 0 rfl
      have q1 : W2.cell? ⟨gx, 1, none⟩ = some (.int .i64 x1) := bx.cell 1 rfl
      have q2 : W2.cell? ⟨gx, 2, none⟩ = some (.int .u64 x2) := bx.cell 2 rfl
      clear bx
      go_upto_region 10 with (fail)
      go_cut [43] (fun v wx => v = .bool (decide (0 < x1) && decide (x1 < 1048576)) ∧ wx = W2)
      case first =>
        by_cases a1 : 0 < x1
        · by_cases a2 : x1 < 1048576
          · go_wp2
            go_meet
            exact ⟨by simp [a1, a2], rfl⟩
          · go_wp2
            go_meet
            exact ⟨by simp [a1]; omega, rfl⟩
        · go_wp2
          go_meet
          exact ⟨by simp; omega, rfl⟩
      case rest =>
        obtain ⟨rfl, rfl⟩ := hcut
        obtain ⟨tb, HTB⟩ : ∃ tb, Hid ((decide (0 < x1) && decide (x1 < 1048576)) = tb) := ⟨_, rfl⟩
        rw [HTB.out]
        go_upto_if 43 with (fail)
        go_cut [7] from 44 to 47 (fun v wx => (∃ T : Int, v = .int .i64 T ∧ now ≤ T ∧ T ≤ now + 1048576) ∧ wx = wc)
        case first =>
          cases tb with
          | true =>
            have e := HTB.out
            simp only [Bool.and_eq_true, decide_eq_true_eq] at e
            obtain ⟨e1, e2⟩ := e
            go_wp2
            go_meet
            exact ⟨⟨_, rfl, by omega, by omega⟩, rfl⟩
          | false =>
            go_wp2
            go_meet
            exact ⟨⟨_, rfl, by omega, by omega⟩, rfl⟩
        case rest =>
          obtain ⟨⟨T, rfl, hT1, hT2⟩, rfl⟩ := hcut
          have HE2 := Lib.hid (HEv.out.time hT1 hT2)
          clear q1 HEv HTB
          have t1 := HE2.out.n1
          have hk9 : k + 1 ≤ 1000 := by omega
          by_cases e0 : x0 % 3 = 0
          · have b0 : (x0 % 3 == 0) = true := by simpa using e0
            clear e0
            have hT := tick HG2.out HM.out HE2.out.good (show k ≤ 1000 by omega) T
            obtain ⟨ht1, ht2⟩ := HE2.out.tick HM.out hk9
            cases hb : tkB ms p T with
            | true =>
              obtain ⟨t1', t2, t3, t4⟩ := ht1 hb
              rw [hb, t1', HPA.out] at hT
              rw [HPA.out] at t4
              obtain ⟨P', HP'⟩ : ∃ z, Hid (tkP ev wt ms p T = z) := ⟨_, rfl⟩
              rw [HP'.out] at hT t3 t4
              have HT := Lib.hid hT
              have HE3 := Lib.hid t3
              have HA3 := Lib.hid t4
              clear hT t3 t4 t1' ht1 ht2 hb
              have ev1 := HM.out.1.2
              have ev0 := HM.out.1.1
              have fin : ∀ w', Hid (Blk w' g 48 (pc ev wt ms ht P')) → Chg (fun k => k = g) wc w' → Hid (Blk w' B 23 (st ev wt ms ht)) ∧ Hid (MapS w' gm k S) ∧ Hid (Below B w w') := fun w' h1 h2 =>
                ⟨Lib.hid (h2.blk HBB.out (by show ¬ B = g; omega)), Lib.hid (HM2.out.chg h2 (by show ¬ gm = g; omega)), Lib.hid (h2.below HBe2.out (by have := HBB.out.lt; omega) (fun k hk => by omega))⟩
              have FIN := Lib.hid fin
              clear fin
              by_cases hl : 0 ≤ last
              · have hl2 := t2 hl
                clear t2
                go_wp2_with fail
                refine HT.out.mono ?_
                rintro e w8 ⟨rfl, hb8, hc8⟩
                have HB8 := Lib.hid hb8
                obtain ⟨B8, M8, E8⟩ := FIN.out w8 HB8 hc8
                have d0 : w8.cell? ⟨B, 0, none⟩ = some (.int .i64 ev) := B8.out.cell 0 rfl
                clear hb8 hc8
                go_wp2
                go_roundw
                case rel => exact ⟨k + 1, T, T, P', S, by omega, by go_num, rfl, rfl, by rw [HA3.out], HE3, HB8, B8, Lib.hid (M8.out.mono (by omega)), E8⟩
                case measure => simp [intOf]; omega
              · clear t2
                go_wp2_with fail
                refine HT.out.mono ?_
                rintro e w8 ⟨rfl, hb8, hc8⟩
                have HB8 := Lib.hid hb8
                obtain ⟨B8, M8, E8⟩ := FIN.out w8 HB8 hc8
                clear hb8 hc8
                go_wp2
                go_roundw
                case rel => exact ⟨k + 1, T, T, P', S, by omega, by go_num, rfl, rfl, by rw [HA3.out], HE3, HB8, B8, Lib.hid (M8.out.mono (by omega)), E8⟩
                case measure => simp [intOf]; omega
            | false =>
              obtain ⟨t1', t3, t4⟩ := ht2 hb
              rw [hb, t1'] at hT
              rw [HPA.out] at t4
              obtain ⟨P', HP'⟩ : ∃ z, Hid (tkP ev wt ms p T = z) := ⟨_, rfl⟩
              rw [HP'.out] at hT t3 t4
              have HT := Lib.hid hT
              have HE3 := Lib.hid t3
              have HA3 := Lib.hid t4
              clear hT t3 t4 t1' ht1 ht2 hb
              go_wp2_with fail
              refine HT.out.mono ?_
              rintro e w8 ⟨rfl, hb8, hc8⟩
              have HB8 := Lib.hid hb8
              have B8 := Lib.hid (hc8.blk HBB.out (by show ¬ B = g; omega))
              have M8 := Lib.hid (HM2.out.chg hc8 (by show ¬ gm = g; omega))
              have E8 := Lib.hid (hc8.below HBe2.out (by have := HBB.out.lt; omega) (fun k hk => by omega))
              clear hb8 hc8
              go_wp2
              go_roundw
              case rel => exact ⟨k + 1, T, last, P', S, by omega, by go_num, rfl, rfl, by rw [HA3.out], HE3, HB8, B8, Lib.hid (M8.out.mono (by omega)), E8⟩
              case measure => simp [intOf]; omega
          · have b0 : (x0 % 3 == 0) = false := by simpa using e0
            clear e0
            have hT := pong HG2.out HM.out HE2.out.good T x2
            obtain ⟨t4, ht1, ht2⟩ := HE2.out.pong HM.out hk9 x2
            cases hb : pgB ms p T x2 with
            | true =>
              obtain ⟨t1', t2, t3, t5⟩ := ht1 hb
              rw [HPA.out] at t2
              subst t2
              rw [hb] at hT
              rw [HPA.out] at t4
              obtain ⟨P', HP'⟩ : ∃ z, Hid (pgP ms ht p T x2 = z) := ⟨_, rfl⟩
              rw [HP'.out] at hT t4 t5
              have HT := Lib.hid hT
              have HE3 := Lib.hid t5
              have HA3 := Lib.hid t4
              have HSF := Lib.hid t1'
              have w0 := HM.out.2.1.1
              clear hT t4 t1' t5 ht1 ht2 hb
              go_wp2_with fail
              refine HT.out.mono ?_
              rintro e w8 ⟨rfl, hb8, hc8⟩
              have HB8 := Lib.hid hb8
              have B8 := Lib.hid (hc8.blk HBB.out (by show ¬ B = g; omega))
              have M8 := Lib.hid (HM2.out.chg hc8 (by show ¬ gm = g; omega))
              have E8 := Lib.hid (hc8.below HBe2.out (by have := HBB.out.lt; omega) (fun k hk => by omega))
              have q2' : w8.cell? ⟨gx, 2, none⟩ = some (.int .u64 x2) := hc8.cell q2 (by show ¬ gx = g; omega)
              have d1 : w8.cell? ⟨B, 1, none⟩ = some (.int .i64 wt) := B8.out.cell 1 rfl
              have hrun := M8.out.look HX2.out
              rw [HSF.out] at hrun
              obtain ⟨w9, hst, hm9, hc9⟩ := M8.out.store HX2.out (show k < maxLen by unfold maxLen; omega)
              have HM9 := Lib.hid hm9
              have HC9 := Lib.hid hc9
              clear hb8 hc8 q2 hm9 hc9
              go_wp2
              go_roundw
              case rel => exact ⟨k + 1, T, last, P', _, by omega, by go_num, rfl, rfl, by rw [HA3.out], HE3, Lib.hid (HC9.out.blk HB8.out (by show ¬ g = gm; omega)), Lib.hid (HC9.out.blk B8.out (by show ¬ B = gm; omega)), HM9, Lib.hid (HC9.out.below E8.out (by have := B8.out.lt; omega) (fun k hk => by omega))⟩
              case measure => simp [intOf]; omega
            | false =>
              have t3 := ht2 hb
              rw [hb] at hT
              rw [HPA.out] at t4
              obtain ⟨P', HP'⟩ : ∃ z, Hid (pgP ms ht p T x2 = z) := ⟨_, rfl⟩
              rw [HP'.out] at hT t3 t4
              have HT := Lib.hid hT
              have HE3 := Lib.hid t3
              have HA3 := Lib.hid t4
              clear hT t3 t4 ht1 ht2 hb
              go_wp2_with fail
              refine HT.out.mono ?_
              rintro e w8 ⟨rfl, hb8, hc8⟩
              have HB8 := Lib.hid hb8
              have B8 := Lib.hid (hc8.blk HBB.out (by show ¬ B = g; omega))
              have M8 := Lib.hid (HM2.out.chg hc8 (by show ¬ gm = g; omega))
              have E8 := Lib.hid (hc8.below HBe2.out (by have := HBB.out.lt; omega) (fun k hk => by omega))
              clear hb8 hc8
              go_wp2
              go_roundw
              case rel => exact ⟨k + 1, T, last, P', S, by omega, by go_num, rfl, rfl, by rw [HA3.out], HE3, HB8, B8, Lib.hid (M8.out.mono (by omega)), E8⟩
              case measure => simp [intOf]; omega
    · go_wp2_with fail
      refine PrA.alive_any.mono ?_
      rintro e w7 ⟨rfl, hb7⟩
      go_wp2
      go_ret
      refine ⟨rfl, ?_⟩
      rw [HB.out]
      exact HBe.out.trans (hb7.mono (by have := HG.out.lt; omega))

theorem entry (W : World) (v0 : Value) (v1 : Value) (g0 : Arg W (.struct (.cons (.int .i64) (.cons (.int .i64) (.cons (.int .i64) (.cons (.int .i64) .none))))) v0)
    (g1 : Arg W (.slice (.struct (.cons (.int .u8) (.cons (.int .i64) (.cons (.int .u64) .none))))) v1) :
    Calls Try.prog 3 #[v0, v1] W fun e w' => e = .returned (.bool true) ∧ Below W.heap.size W w' := by
  obtain ⟨cs, rfl, hl, hr⟩ := g0
  simp only [Sh.size] at hl
  match cs, hl, hr with
  | [c0, c1, c2, c3], _, hr =>
    simp only [Reads, Sh.size, List.take_succ_cons, List.take_zero, List.drop_succ_cons, List.drop_zero, List.cons.injEq, and_true] at hr
    obtain ⟨⟨x0, rfl, _⟩, ⟨x1, rfl, _⟩, ⟨x2, rfl, _⟩, ⟨x3, rfl, _⟩⟩ := hr
    by_cases hM : May x0 x1 x2 x3
    · obtain ⟨xs, hx, hs⟩ := rows_of (by simp [Sh.size]) g1
      exact law_yes hM v1 xs hx (fun row hr => isStep3 (w := W) row (hs row hr).1 (hs row hr).2)
    · exact law_no hM v1
end
end Go.Proofs.Ytandaanfdpedhaa.PrF
