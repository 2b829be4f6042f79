/-
  ClientPlays: the client and the document's answer every call alike.
-/
import Derived.Test.YtoghkikjgilpdaaClH
import Derived.Test.YtoghkikjgilpdaaClF
namespace Go.Proofs.Ytoghkikjgilpdaa.ClI
open Go.RowKit Go.Proofs.Ytoghkikjgilpdaa.Kit Go.Proofs.Ytoghkikjgilpdaa.ClW Go.Proofs.Ytoghkikjgilpdaa.ClV Go.Proofs.Ytoghkikjgilpdaa.ClS Go.Proofs.Ytoghkikjgilpdaa.ClQ Go.Proofs.Ytoghkikjgilpdaa.ClA Go.Proofs.Ytoghkikjgilpdaa.ClF Go.Proofs.Ytoghkikjgilpdaa.ClB Go.Proofs.Ytoghkikjgilpdaa.ClX Go.Proofs.Ytoghkikjgilpdaa.ClH
attribute [local go_sem high] max_imax min_imin
set_option linter.unusedVariables false
section
variable {w : World}

set_option maxRecDepth 100000 in
set_option maxHeartbeats 4000000 in
theorem law_any {pl : List Int} {js jm ev : Int} {a : Option Addr} {n c : Nat} (hj : Rd w 1 a n c (ints pl)) (hjn : n * 8 ≤ 140737488351232) (v : Value) (xs : List (List Value)) (hx : RowsAt w 15 v xs) (hs : ∀ row ∈ xs, IsStep w row) (ev0 : 1 ≤ ev) (ev1 : ev ≤ 4294967296) :
    Calls Try.prog 5 #[.agg #[.int .u64 js, .slice a n c, .int .i64 jm], .int .i64 ev, v] w fun e w' => e = .returned (.bool true) ∧ Below w.heap.size w w' := by
  have hu := Try.underlying24
  obtain ⟨sa, sc, rfl⟩ := hx.slice
  have HX := Lib.hid hx
  have HJ := Lib.hid hj
  clear hx hj
  have b0 := Blk.new w #[.int .u64 js, .slice a n c, .int .i64 jm] 30
  have hbe := (Below.refl w.heap.size w).alloc (Nat.le_refl _) (.cells #[.int .u64 js, .slice a n c, .int .i64 jm] 30)
  have hch := (Chg.refl (fun _ => False) w).alloc (.cells #[.int .u64 js, .slice a n c, .int .i64 jm] 30)
  obtain ⟨W, HW⟩ : ∃ W, Hid (w.alloc (.cells #[.int .u64 js, .slice a n c, .int .i64 jm] 30) = W) := ⟨_, rfl⟩
  have hws : (w.alloc (.cells #[.int .u64 js, .slice a n c, .int .i64 jm] 30)).heap.size = w.heap.size + 1 := by simp
  rw [HW.out] at b0 hbe hch hws
  have HJ2 := Lib.hid (HJ.out.chg hch (fun _ _ _ => id))
  have B0 := Lib.hid b0
  have HBe := Lib.hid hbe
  have HWS := Lib.hid hws
  clear b0 hbe hch hws
  go_enter Try.func5, Try.ntmps5
  go_wp2_with fail
  rw [HW.out]
  clear HW
  refine (new_yes (js := js) (jm := jm) (ev := ev) HJ2.out (by omega) ev0 ev1).mono ?_
  rintro e w1 ⟨g, ja, jc, rfl, hg, h1, hb1⟩
  have H1 := Lib.hid h1
  have HB1 := Lib.hid (HBe.out.trans (hb1.mono (by rw [HWS.out]; omega)))
  have hgB : w.heap.size < g := by have := HWS.out; omega
  have b1 : Blk w1 w.heap.size 30 #[.int .u64 js, .slice a n c, .int .i64 jm] := (hb1.block _ B0.out.lt).trans B0.out
  have c0 : w1.cell? ⟨w.heap.size, 0, none⟩ = some (.int .u64 js) := b1.cell 0 rfl
  have c1 : w1.cell? ⟨w.heap.size, 1, none⟩ = some (.slice a n c) := b1.cell 1 rfl
  have c2 : w1.cell? ⟨w.heap.size, 2, none⟩ = some (.int .i64 jm) := b1.cell 2 rfl
  have hX1 : RowsAt w1 15 (.slice sa xs.length sc) xs := HX.out.below HB1.out
  have hS1 : ∀ row ∈ xs, IsStep w1 row := fun row hr => by
    obtain ⟨x0, x1, b, m, jl, ll, h1, h2, h3, h4, h5, h6, h7, h8, h9, h10, h11⟩ := hs row hr
    exact ⟨x0, x1, b, m, jl, ll, h1, h2, h3, h4, h5, h6, h7, h8, h9, h10.below HB1.out (fun hm x hx => h10.lt (by omega) hm x hx), h11.below HB1.out (fun hm x hx => h11.lt (by omega) hm x hx)⟩
  clear h1 hb1 hg
  have HB0J1 := Lib.hid b1
  have HX1 := Lib.hid hX1
  have HS1 := Lib.hid hS1
  clear hX1 hS1
  go_wp2_with fail
  refine (far_any (js := js) (jm := jm) HJ.out.cap HJ.out.max _ xs HX1.out HS1.out).mono ?_
  rintro e w2 ⟨fb, rfl, hb2, hnear⟩
  have H2 := Lib.hid (H1.out.below hb2)
  have HB2 := Lib.hid (HB1.out.trans (hb2.mono HB1.out.size))
  have HN := Lib.hid hnear
  have HB0J := Lib.hid (show Blk w2 w.heap.size 30 _ from (hb2.block _ HB0J1.out.lt).trans HB0J1.out)
  clear hb2 hnear c0 c1 c2 b1
  cases fb with
  | true =>
    go_wp2_with fail
    refine alive_any.mono ?_
    rintro e w3 ⟨rfl, hb3⟩
    go_wp2
    go_ret
    exact ⟨rfl, HB2.out.trans (hb3.mono HB2.out.size)⟩
  | false =>
    have HN2 := Lib.hid (HN.out rfl)
    clear HN
    have c0 : w2.cell? ⟨w.heap.size, 0, none⟩ = some (.int .u64 js) := HB0J.out.cell 0 rfl
    have c1 : w2.cell? ⟨w.heap.size, 1, none⟩ = some (.slice a n c) := HB0J.out.cell 1 rfl
    have c2 : w2.cell? ⟨w.heap.size, 2, none⟩ = some (.int .i64 jm) := HB0J.out.cell 2 rfl
    go_upto_region 6 with (fail)
    have br := Blk.new w2 (cc (ClV.k0 js a n c jm ev)) 50
    have H2a := Lib.hid (H2.out.alloc (.cells (cc (ClV.k0 js a n c jm ev)) 50))
    have HB2a := Lib.hid (HB2.out.alloc HB2.out.size (.cells (cc (ClV.k0 js a n c jm ev)) 50))
    obtain ⟨wr0, HW0⟩ : ∃ W, Hid (w2.alloc (.cells (cc (ClV.k0 js a n c jm ev)) 50) = W) := ⟨_, rfl⟩
    have HW0' := HW0.out
    unfold cc ClV.k0 at HW0'
    simp only at HW0'
    rw [HW0'] at ⊢
    rw [HW0.out] at br H2a HB2a
    clear HW0 HW0' c0 c1 c2
    have hgr0 : g < w2.heap.size := H2.out.blk.lt
    obtain ⟨gr, HGR, hgr⟩ : ∃ gr, Hid (w2.heap.size = gr) ∧ g < gr := ⟨_, rfl, hgr0⟩
    rw [HGR.out] at br ⊢
    have HPAIR : Hid (Pair wr0 (w.heap.size + 1) g gr (ClV.k0 js ja n jc jm ev) (ClV.k0 js a n c jm ev) pl []) := by
      have hcl := H2a.out
      rw [HWS.out] at hcl
      have hjr : Rd wr0 1 a n c (ints pl) := HJ.out.below HB2a.out (fun h0 x hx => HJ.out.lt (by omega) h0 x hx)
      exact Lib.hid ⟨hcl, ⟨br, Own.none_ _ _ _ _, hjr, fun h0 x hx => by have := HJ.out.lt (by omega) h0 x hx; omega, by omega, ev0, ev1, by simp [ClV.k0], by simp [ClV.k0], by simp [ClV.k0], by simp [ClV.k0], by simp [ClV.k0]⟩, rfl, rfl, rfl, rfl, rfl, rfl, rfl, rfl, rfl, fun x hx => by simp [ClV.k0, ob] at hx, fun x hx => by simp [ClV.k0, ob]⟩
    clear br H2a
    go_wp2_with fail
    have hl := HX.out.1
    have hcap : xs.length ≤ sc := by
      rcases HX.out.2 with ⟨h0, _⟩ | ⟨_, _, _, hv, hl2, _⟩
      · rw [h0]; simp
      · injection hv with _ _ hc; rw [hc]; exact hl2
    refine (short_any sa xs.length sc hl hcap).mono ?_
    rintro e w3 ⟨rfl, nd, rfl⟩
    have hX2 := HX.out.take_ (min xs.length 150) (Nat.min_le_left _ _)
    have hnr := HN2.out.2
    obtain ⟨ys, HY⟩ : ∃ ys, Hid (xs.take (min xs.length 150) = ys) := ⟨_, rfl⟩
    have hyl : min xs.length 150 = ys.length := by rw [← HY.out, List.length_take]; omega
    have hy3 : ys.length ≤ 150 := by omega
    have hys : ∀ row ∈ ys, IsStep w row := fun row hr => hs row (by rw [← HY.out] at hr; exact List.mem_of_mem_take hr)
    rw [HY.out] at hnr
    rw [HY.out, hyl] at hX2
    rw [hyl]
    have HY2 := Lib.hid hX2
    have HYS := Lib.hid hys
    have HNR := Lib.hid hnr
    clear hX2 hys hyl HY hl hcap HX hs HX1 HS1 HN2 hnr
    go_wp2_with fail
    go_loopw [62] (fun i wr => ∃ (k : Nat) (c r : Ck) (tl : List Int), k ≤ ys.length ∧ i = .int .i64 k ∧ Hid (tl.length ≤ 3000 * k) ∧ Hid (Pair wr (w.heap.size + 1) g gr c r pl tl) ∧ Hid (Below w.heap.size w wr)) (fun i _ => ys.length - (intOf i).toNat)
    case atStart => exact ⟨0, _, _, [], Nat.zero_le _, rfl, Lib.hid (by simp), Lib.hid (HPAIR.out.drewN nd), Lib.hid (below_drewN HB2a.out nd)⟩
    case round =>
      clear HPAIR
      obtain ⟨k, c, r, tl, hk, rfl, HTL, HP, HBe2⟩ := hrel
      by_cases hlt : k < ys.length
      · obtain ⟨b, off, c', hv, hc1, hc2, hcell⟩ := HY2.out.at_ (by omega)
        injection hv with hv1 _ hv3
        subst hv1 hv3
        obtain ⟨row, hrow⟩ : ∃ row, ys[k]? = some row := ⟨ys[k], List.getElem?_eq_getElem hlt⟩
        obtain ⟨x0, x1, xb, m, jl, ll, rfl, k0, k1, l1, l2, n0, n1, ct0, ct1, hjl, hll⟩ := HYS.out row (List.mem_of_getElem? hrow)
        have hln3 := HNR.out _ (List.mem_of_getElem? hrow) x0 x1 xb m rfl
        obtain ⟨kind, stream, session, attempt, inc, mn, count, why, js', mja, mjn, mjc, mjm, la, ln, lc⟩ := m
        simp only at n0 n1 hln3 hll
        have hlll := rd_len hll
        have hce := hcell k _ hrow
        have hbe : ∀ j u, (xc x0 x1 xb ⟨kind, stream, session, attempt, inc, mn, count, why, js', mja, mjn, mjc, mjm, la, ln, lc⟩)[j]? = some u → wr.cell? ⟨b, off + k * 15 + j, none⟩ = some u := fun j u hu => by
          have h1 := hce j u hu
          rw [← Nat.add_assoc] at h1
          have h2 : b < w.heap.size := World.block_lt_of_cell? w _ h1
          exact (HBe2.out.cell (p := ⟨b, off + k * 15 + j, none⟩) h2).trans h1
        have r0 : wr.cell? ⟨b, off + k * 15, none⟩ = some (.int .u8 x0) := hbe 0 _ rfl
        have r1 : wr.cell? ⟨b, off + k * 15 + 1, none⟩ = some (.int .i64 x1) := hbe 1 _ rfl
        have r2 : wr.cell? ⟨b, off + k * 15 + 2, none⟩ = some (.bool xb) := hbe 2 _ rfl
        have r3 : wr.cell? ⟨b, off + k * 15 + 3, none⟩ = some (.int .i64 kind) := hbe 3 _ rfl
        have r4 : wr.cell? ⟨b, off + k * 15 + 4, none⟩ = some (.int .u64 stream) := hbe 4 _ rfl
        have r5 : wr.cell? ⟨b, off + k * 15 + 5, none⟩ = some (.int .u64 session) := hbe 5 _ rfl
        have r6 : wr.cell? ⟨b, off + k * 15 + 6, none⟩ = some (.int .u64 attempt) := hbe 6 _ rfl
        have r7 : wr.cell? ⟨b, off + k * 15 + 7, none⟩ = some (.int .u64 inc) := hbe 7 _ rfl
        have r8 : wr.cell? ⟨b, off + k * 15 + 8, none⟩ = some (.int .u64 mn) := hbe 8 _ rfl
        have r9 : wr.cell? ⟨b, off + k * 15 + 9, none⟩ = some (.int .u64 count) := hbe 9 _ rfl
        have r10 : wr.cell? ⟨b, off + k * 15 + 10, none⟩ = some (.int .i64 why) := hbe 10 _ rfl
        have r11 : wr.cell? ⟨b, off + k * 15 + 11, none⟩ = some (.int .u64 js') := hbe 11 _ rfl
        have r12 : wr.cell? ⟨b, off + k * 15 + 12, none⟩ = some (.slice mja mjn mjc) := hbe 12 _ rfl
        have r13 : wr.cell? ⟨b, off + k * 15 + 13, none⟩ = some (.int .i64 mjm) := hbe 13 _ rfl
        have r14 : wr.cell? ⟨b, off + k * 15 + 14, none⟩ = some (.slice la ln lc) := hbe 14 _ rfl
        have i0 : (0 : Int) ≤ (k : Int) := by omega
        have i1 : (k : Int) < (ys.length : Int) := by omega
        have HLL := Lib.hid hll
        have hlb : ∀ x, ob la = some x → 0 < ln → x < w.heap.size := fun x hx h0 => hll.lt (by omega) h0 x hx
        have HLB := Lib.hid hlb
        have HLLL := Lib.hid hlll
        clear hce hbe hcell hrow hjl hll hlb hlll ct0 ct1
        have pn0 := HP.out.cr.now0
        have pn1 := HP.out.cr.now1
        obtain ⟨pnow, HNOW⟩ : ∃ z, Hid (r.now = z) := ⟨_, rfl⟩
        rw [HNOW.out] at pn0 pn1
        go_upto_region 9 with (fail)
        have bx := Blk.new wr (xc x0 x1 xb ⟨kind, stream, session, attempt, inc, mn, count, why, js', mja, mjn, mjc, mjm, la, ln, lc⟩).toArray 36
        have HP2 := Lib.hid (HP.out.alloc (.cells (xc x0 x1 xb ⟨kind, stream, session, attempt, inc, mn, count, why, js', mja, mjn, mjc, mjm, la, ln, lc⟩).toArray 36))
        have hsw : w.heap.size ≤ wr.heap.size := HBe2.out.size
        have HBe3 := Lib.hid (HBe2.out.alloc hsw (.cells (xc x0 x1 xb ⟨kind, stream, session, attempt, inc, mn, count, why, js', mja, mjn, mjc, mjm, la, ln, lc⟩).toArray 36))
        obtain ⟨W2, HW2⟩ : ∃ W2, Hid (wr.alloc (.cells (xc x0 x1 xb ⟨kind, stream, session, attempt, inc, mn, count, why, js', mja, mjn, mjc, mjm, la, ln, lc⟩).toArray 36) = W2) := ⟨_, rfl⟩
        have HW2' := HW2.out
        unfold xc at HW2'
        simp only at HW2'
        rw [HW2'] at ⊢
        rw [HW2.out] at bx HP2 HBe3
        clear HW2 HW2'
        have hgx : gr < wr.heap.size := HP.out.cr.blk.lt
        obtain ⟨gx, HGX, hgx⟩ : ∃ gx, Hid (wr.heap.size = gx) ∧ gr < gx := ⟨_, rfl, hgx⟩
        rw [HGX.out] at bx ⊢
        clear r0 r1 r2 r3 r4 r5 r6 r7 r8 r9 r10 r11 r12 r13 r14 hsw
        have q0 : W2.cell? ⟨gx, 0, none⟩ = some (.int .u8 x0) := bx.cell 0 rfl
        have q1 : W2.cell? ⟨gx, 1, none⟩ = some (.int .i64 x1) := bx.cell 1 rfl
        have q2 : W2.cell? ⟨gx, 2, none⟩ = some (.bool xb) := bx.cell 2 rfl
        have q3 : W2.cell? ⟨gx, 3, none⟩ = some (.int .i64 kind) := bx.cell 3 rfl
        have q4 : W2.cell? ⟨gx, 4, none⟩ = some (.int .u64 stream) := bx.cell 4 rfl
        have q5 : W2.cell? ⟨gx, 5, none⟩ = some (.int .u64 session) := bx.cell 5 rfl
        have q6 : W2.cell? ⟨gx, 6, none⟩ = some (.int .u64 attempt) := bx.cell 6 rfl
        have q7 : W2.cell? ⟨gx, 7, none⟩ = some (.int .u64 inc) := bx.cell 7 rfl
        have q8 : W2.cell? ⟨gx, 8, none⟩ = some (.int .u64 mn) := bx.cell 8 rfl
        have q9 : W2.cell? ⟨gx, 9, none⟩ = some (.int .u64 count) := bx.cell 9 rfl
        have q10 : W2.cell? ⟨gx, 10, none⟩ = some (.int .i64 why) := bx.cell 10 rfl
        have q11 : W2.cell? ⟨gx, 11, none⟩ = some (.int .u64 js') := bx.cell 11 rfl
        have q12 : W2.cell? ⟨gx, 12, none⟩ = some (.slice mja mjn mjc) := bx.cell 12 rfl
        have q13 : W2.cell? ⟨gx, 13, none⟩ = some (.int .i64 mjm) := bx.cell 13 rfl
        have q14 : W2.cell? ⟨gx, 14, none⟩ = some (.slice la ln lc) := bx.cell 14 rfl
        have HBX := Lib.hid bx
        clear bx
        have s8 : W2.cell? ⟨gr, 10, none⟩ = some (.int .i64 pnow) := by rw [← HNOW.out]; exact HP2.out.cr.blk.cell 10 rfl
        go_upto_region 10 with (fail)
        go_cut [75] (fun v wx => v = .bool (decide (-100000 < x1) && decide (x1 < 1125899906842624)) ∧ wx = W2)
        case first =>
          by_cases a1 : -100000 < x1
          · by_cases a2 : x1 < 1125899906842624
            · go_wp2
              go_meet
              exact ⟨by simp [a1, a2], rfl⟩
            · go_wp2
              go_meet
              exact ⟨by simp [a1]; omega, rfl⟩
          · go_wp2
            go_meet
            exact ⟨by simp; omega, rfl⟩
        case rest =>
          obtain ⟨rfl, rfl⟩ := hcut
          obtain ⟨tb, HTB⟩ : ∃ tb, Hid ((decide (-100000 < x1) && decide (x1 < 1125899906842624)) = tb) := ⟨_, rfl⟩
          rw [HTB.out]
          go_upto_if 75 with (fail)
          go_cut [13] from 76 to 79 (fun v wx => (∃ T : Int, v = .int .i64 T) ∧ wx = wc)
          case first =>
            cases tb with
            | true =>
              have e := HTB.out
              simp only [Bool.and_eq_true, decide_eq_true_eq] at e
              obtain ⟨e1, e2⟩ := e
              go_wp2
              go_meet
              exact ⟨⟨_, rfl⟩, rfl⟩
            | false =>
              go_wp2
              go_meet
              exact ⟨⟨_, rfl⟩, rfl⟩
          case rest =>
            obtain ⟨⟨T, rfl⟩, rfl⟩ := hcut
            clear HTB q1 s8
            go_upto_region 13 with (fail)
            have bm := Blk.new wc (mc ⟨kind, stream, session, attempt, inc, mn, count, why, js', mja, mjn, mjc, mjm, la, ln, lc⟩) 34
            have HP3 := Lib.hid (HP2.out.alloc (.cells (mc ⟨kind, stream, session, attempt, inc, mn, count, why, js', mja, mjn, mjc, mjm, la, ln, lc⟩) 34))
            have HBe4 := Lib.hid (HBe3.out.alloc HBe3.out.size (.cells (mc ⟨kind, stream, session, attempt, inc, mn, count, why, js', mja, mjn, mjc, mjm, la, ln, lc⟩) 34))
            have HBX3 := Lib.hid (HBX.out.alloc (.cells (mc ⟨kind, stream, session, attempt, inc, mn, count, why, js', mja, mjn, mjc, mjm, la, ln, lc⟩) 34))
            obtain ⟨W6, HW6⟩ : ∃ W, Hid (wc.alloc (.cells (mc ⟨kind, stream, session, attempt, inc, mn, count, why, js', mja, mjn, mjc, mjm, la, ln, lc⟩) 34) = W) := ⟨_, rfl⟩
            have HW6' := HW6.out
            unfold mc at HW6'
            simp only at HW6'
            rw [HW6'] at ⊢
            rw [HW6.out] at bm HP3 HBe4 HBX3
            clear HW6 HW6' q0 q2 q3 q4 q5 q6 q7 q8 q9 q10 q11 q12 q13 q14
            have hsz6 := HBe3.out.size
            obtain ⟨gm, HGM, hgm⟩ : ∃ gm, Hid (wc.heap.size = gm) ∧ w.heap.size ≤ gm := ⟨_, rfl, hsz6⟩
            have hgmc : wc.heap.size = gm := HGM.out
            rw [HGM.out] at bm ⊢
            have HBM0 := Lib.hid bm
            have q2 : W6.cell? ⟨gx, 2, none⟩ = some (.bool xb) := HBX3.out.cell 2 rfl
            have q0 : W6.cell? ⟨gx, 0, none⟩ = some (.int .u8 x0) := HBX3.out.cell 0 rfl
            have p1 : W6.cell? ⟨gm, 1, none⟩ = some (.int .u64 stream) := bm.cell 1 rfl
            have f1 := bm.frozen 1
            have hgxl : gx < wc.heap.size := HBX.out.lt
            clear bm
            go_upto_if 83 with (fail)
            go_cut [] from 84 to 84 (fun wx => ∃ st, Hid (Blk wx gm 34 (mc ⟨kind, st, session, attempt, inc, mn, count, why, js', mja, mjn, mjc, mjm, la, ln, lc⟩)) ∧ Hid (Chg (fun i => i = gm) W6 wx))
            case first =>
              cases xb with
              | true =>
                go_wp2
                go_meet
                exact ⟨3, HBM0.out.set 1 _, (Chg.refl (fun i => i = gm) W6).set (.inl rfl) _⟩
              | false =>
                go_wp2
                go_meet
                exact ⟨stream, HBM0.out, Chg.refl (fun i => i = gm) W6⟩
            case rest =>
              obtain ⟨st, HBM, HCM⟩ := hcut
              have HP4 : Hid (Pair wc (w.heap.size + 1) g gr c r pl tl) := by
                have h := HP3.out
                have e1 : ¬ g = gm := h.cl.blk.ne HBM0.out (by decide)
                have e2 : ¬ gr = gm := h.cr.blk.ne HBM0.out (by decide)
                exact Lib.hid ⟨h.cl.chg HCM.out e1 (fun x hx e => h.cl.toks.ne HBM0.out (by decide) (by rw [hx]; exact congrArg some e)) (fun x hx e => h.cl.job.ne HBM0.out (by decide) (by rw [hx]; exact congrArg some e)),
                  h.cr.chg HCM.out e2 (fun x hx e => h.cr.toks.ne HBM0.out (by decide) (by rw [hx]; exact congrArg some e)) (fun x hx e => by have := h.cr.base; have := h.cr.blk.lt; have : x = gm := e; omega), h.js, h.jn, h.jm, h.ev, h.en, h.heard, h.stopped, h.now, h.next, h.ap1, h.ap2⟩
              have HBe5 := Lib.hid (HCM.out.below HBe4.out HBe4.out.size (fun x hx => by have : x = gm := hx; omega))
              have HLT := Lib.hid (HLL.out.below HBe5.out (fun h0 x hx => HLB.out x hx h0))
              have q0' : wc.cell? ⟨gx, 0, none⟩ = some (.int .u8 x0) := HCM.out.cell q0 (by show ¬ gx = gm; omega)
              have m5 : wc.cell? ⟨gm, 5, none⟩ = some (.int .u64 mn) := HBM.out.cell 5 rfl
              have HFAR : Hid (0 < ln → ∀ x, ob la = some x → x < w.heap.size + 1) := Lib.hid (fun h0 x hx => by have := HLB.out x hx h0; omega)
              have HTT : Hid (tl.length ≤ 549755813888) := Lib.hid (by have := HTL.out; omega)
              clear q2 q0 p1 f1 hgmc
              have K0 : 0 ≤ x0 % 4 := by omega
              have K1 : x0 % 4 < 4 := by omega
              have N0 : 0 ≤ mn % 4 := by omega
              go_upto_block 2 with fail
              go_cut [15] from 88 to 118 (fun v wx => v = .bool true ∧ ∃ c' r' tl', Hid (Pair wx (w.heap.size + 1) g gr c' r' pl tl') ∧ Hid (tl'.length ≤ 3000 * (k + 1)) ∧ Hid (Chg (fun i => w.heap.size + 1 ≤ i) wc wx))
              case first =>
                have HLEN0 : Hid (tl.length + 0 ≤ 3000 * (k + 1)) := Lib.hid (by have := HTL.out; omega)
                have HLEN1 : Hid (tl.length + ll.length ≤ 3000 * (k + 1)) := Lib.hid (by have := HTL.out; have := HLLL.out; omega)
                by_cases e0 : x0 % 4 = 0
                · have b0 : (x0 % 4 == 0) = true := by simpa using e0
                  clear e0
                  go_wp2_with fail
                  refine (pair_tick HP4.out T).mono ?_
                  rintro e w7 ⟨oa, on, oc, rfl, hst7, hch7, hnext⟩
                  have HNX := Lib.hid hnext
                  clear hst7 hch7 hnext
                  go_wp2_with fail
                  refine HNX.out.mono ?_
                  rintro e w8 ⟨ob_, od, rfl, hst8, hnext⟩
                  have HNX2 := Lib.hid hnext
                  clear hst8 hnext
                  go_wp2_with fail
                  refine HNX2.out.mono ?_
                  rintro e w9 ⟨rfl, c', r', tl', hp9, hl9, hc9, hst9⟩
                  have HP9 := Lib.hid hp9
                  have HL9 := Lib.hid hl9
                  have HC9 := Lib.hid hc9
                  clear hp9 hl9 hc9 hst9
                  go_wp2
                  go_meet
                  exact ⟨rfl, c', r', tl', HP9, Lib.hid (by have := HL9.out; have := HLEN0.out; omega), HC9⟩
                · have b0 : (x0 % 4 == 0) = false := by simpa using e0
                  by_cases e2 : x0 % 4 = 2
                  · have b2 : (x0 % 4 == 2) = true := by simpa using e2
                    clear e0 e2
                    by_cases en4 : mn % 4 = 0
                    · have n4 : (mn % 4 == 0) = true := by simpa using en4
                      clear en4
                      go_wp2_with fail
                      refine (pair_cancel HP4.out T).mono ?_
                      rintro e w7 ⟨oa, on, oc, rfl, hst7, hch7, hnext⟩
                      have HNX := Lib.hid hnext
                      clear hst7 hch7 hnext
                      go_wp2_with fail
                      refine HNX.out.mono ?_
                      rintro e w8 ⟨ob_, od, rfl, hst8, hnext⟩
                      have HNX2 := Lib.hid hnext
                      clear hst8 hnext
                      go_wp2_with fail
                      refine HNX2.out.mono ?_
                      rintro e w9 ⟨rfl, c', r', tl', hp9, hl9, hc9, hst9⟩
                      have HP9 := Lib.hid hp9
                      have HL9 := Lib.hid hl9
                      have HC9 := Lib.hid hc9
                      clear hp9 hl9 hc9 hst9
                      go_wp2
                      go_meet
                      exact ⟨rfl, c', r', tl', HP9, Lib.hid (by have := HL9.out; have := HLEN0.out; omega), HC9⟩
                    · have n4 : (mn % 4 == 0) = false := by simpa using en4
                      clear en4
                      go_wp2
                      go_meet
                      exact ⟨rfl, c, r, tl, HP4, Lib.hid (by have := HTL.out; omega), Lib.hid (Chg.refl _ _)⟩
                  · have b2 : (x0 % 4 == 2) = false := by simpa using e2
                    clear e0 e2 m5 q0'
                    have KEEP : Hid (∀ w', Blk w' gm 34 (mc ⟨kind, st, session, attempt, inc, mn, count, why, js', mja, mjn, mjc, mjm, la, ln, lc⟩) → (w'.cell? ⟨gm, 0, none⟩ = some (.int .i64 kind) ∧ w'.cell? ⟨gm, 1, none⟩ = some (.int .u64 st) ∧ w'.cell? ⟨gm, 2, none⟩ = some (.int .u64 session) ∧ w'.cell? ⟨gm, 3, none⟩ = some (.int .u64 attempt) ∧ w'.cell? ⟨gm, 4, none⟩ = some (.int .u64 inc) ∧ w'.cell? ⟨gm, 5, none⟩ = some (.int .u64 mn) ∧ w'.cell? ⟨gm, 6, none⟩ = some (.int .u64 count) ∧ w'.cell? ⟨gm, 7, none⟩ = some (.int .i64 why) ∧ w'.cell? ⟨gm, 8, none⟩ = some (.int .u64 js') ∧ w'.cell? ⟨gm, 9, none⟩ = some (.slice mja mjn mjc) ∧ w'.cell? ⟨gm, 10, none⟩ = some (.int .i64 mjm) ∧ w'.cell? ⟨gm, 11, none⟩ = some (.slice la ln lc))) := Lib.hid (fun w' h => ⟨h.cell 0 rfl, h.cell 1 rfl, h.cell 2 rfl, h.cell 3 rfl, h.cell 4 rfl, h.cell 5 rfl, h.cell 6 rfl, h.cell 7 rfl, h.cell 8 rfl, h.cell 9 rfl, h.cell 10 rfl, h.cell 11 rfl⟩)
                    obtain ⟨k0', k1', k2', k3', k4', k5', k6', k7', k8', k9', k10', k11'⟩ := KEEP.out wc HBM.out
                    go_upto_region 17 with (fail)
                    go_region_held3 (fun w' => w'.cell? ⟨gm, 0, none⟩ = some (.int .i64 kind) ∧ w'.cell? ⟨gm, 1, none⟩ = some (.int .u64 st) ∧ w'.cell? ⟨gm, 2, none⟩ = some (.int .u64 session) ∧ w'.cell? ⟨gm, 3, none⟩ = some (.int .u64 attempt) ∧ w'.cell? ⟨gm, 4, none⟩ = some (.int .u64 inc) ∧ w'.cell? ⟨gm, 5, none⟩ = some (.int .u64 mn) ∧ w'.cell? ⟨gm, 6, none⟩ = some (.int .u64 count) ∧ w'.cell? ⟨gm, 7, none⟩ = some (.int .i64 why) ∧ w'.cell? ⟨gm, 8, none⟩ = some (.int .u64 js') ∧ w'.cell? ⟨gm, 9, none⟩ = some (.slice mja mjn mjc) ∧ w'.cell? ⟨gm, 10, none⟩ = some (.int .i64 mjm) ∧ w'.cell? ⟨gm, 11, none⟩ = some (.slice la ln lc)) (first | exact KEEP.out _ HM10.out | exact KEEP.out _ HM9.out | exact KEEP.out _ HM8.out | exact KEEP.out _ HM7.out | go_keep) (first
                      | (go_at_call 15; refine (theirs_any ⟨kind, st, session, attempt, inc, mn, count, why, js', mja, mjn, mjc, mjm, la, ln, lc⟩).mono ?_; rintro e w7 ⟨rfl, hb7⟩; have HB7 := Lib.hid (show Below wc.heap.size wc w7 from (below_drew (Below.refl _ wc)).trans hb7); have HM7 := Lib.hid (show Blk w7 gm 34 _ from (hb7.block _ HBM.out.lt).trans HBM.out); have HLT7 := Lib.hid (HLT.out.below HB7.out (fun h0 x hx => HLT.out.lt (by omega) h0 x hx)); clear hb7)
                      | (go_at_call 10; refine (pair_arrive (HP4.out.below HB7.out) T ⟨kind, st, session, attempt, inc, mn, count, why, js', mja, mjn, mjc, mjm, la, ln, lc⟩ n0 HLT7.out HFAR.out (by show ln ≤ 549755813888; omega) HTT.out).mono ?_; rintro e w8 ⟨oa, on, oc, rfl, hst8, hch8, hnext⟩; have HNX := Lib.hid hnext; have HM8 := Lib.hid (hst8 gm 34 _ (by decide) (by decide) (by decide) HM7.out); clear hst8 hch8 hnext)
                      | (go_at_call 21; refine HNX.out.mono ?_; rintro e w9 ⟨ob_, od, rfl, hst9, hnext⟩; have HNX2 := Lib.hid hnext; have HM9 := Lib.hid (hst9 gm 34 _ (by decide) (by decide) (by decide) HM7.out); clear hst9 hnext)
                      | (go_at_call 17; refine HNX2.out.mono ?_; rintro e w10 ⟨rfl, c', r', tl', hp10, hl10, hc10, hst10⟩; have HP10 := Lib.hid hp10; have HL10 := Lib.hid hl10; have HC10 := Lib.hid hc10; have HM10 := Lib.hid (hst10 gm 34 _ (by decide) (by decide) (by decide) HM7.out); clear hp10 hl10 hc10 hst10))
                    go_wp2
                    go_meet
                    exact ⟨rfl, c', r', tl', HP10, Lib.hid (by have := HL10.out; have := HLEN1.out; omega), Lib.hid ((Chg.of_below HB7.out (fun i => w.heap.size + 1 ≤ i)).then HC10.out (fun i _ h => h))⟩
              case rest =>
                obtain ⟨rfl, c', r', tl', HP5, HLEN, HC5⟩ := hcut
                have HBe6 := Lib.hid (HC5.out.below HBe5.out HBe5.out.size (fun x hx => by have : w.heap.size + 1 ≤ x := hx; omega))
                obtain ⟨en, E1⟩ : ∃ z, Hid (c'.en = z) := ⟨_, rfl⟩
                obtain ⟨nx, E2⟩ : ∃ z, Hid (c'.next = z) := ⟨_, rfl⟩
                obtain ⟨sd, E3⟩ : ∃ z, Hid (c'.stopped = z) := ⟨_, rfl⟩
                obtain ⟨nw, E4⟩ : ∃ z, Hid (c'.now = z) := ⟨_, rfl⟩
                obtain ⟨ta, E5⟩ : ∃ z, Hid (r'.ta = z) := ⟨_, rfl⟩
                obtain ⟨tn, E6⟩ : ∃ z, Hid (r'.tn = z) := ⟨_, rfl⟩
                obtain ⟨tc, E7⟩ : ∃ z, Hid (r'.tc = z) := ⟨_, rfl⟩
                obtain ⟨dv, E8⟩ : ∃ z, Hid ((if en = 0 then nx else 1099511627776) = z) := ⟨_, rfl⟩
                clear q0' m5 K0 K1 N0
                go_wp2_with fail
                refine (ClV.ended HP5.out.cl).mono ?_
                rintro e w5 ⟨rfl, n5, rfl⟩
                rw [E1.out]
                have HP6 := Lib.hid (HP5.out.drewN n5)
                have KEEP : Hid (∀ w', Cr w' (w.heap.size + 1) gr r' pl tl' → (w'.cell? ⟨gr, 6, none⟩ = some (.slice ta tn tc) ∧ w'.cell? ⟨gr, 7, none⟩ = some (.int .i64 en) ∧ w'.cell? ⟨gr, 9, none⟩ = some (.bool sd) ∧ w'.cell? ⟨gr, 10, none⟩ = some (.int .i64 nw))) := Lib.hid (fun w' h => by
                  rw [← E5.out, ← E6.out, ← E7.out, ← E1.out, ← E3.out, ← E4.out, ← HP5.out.en, ← HP5.out.stopped, ← HP5.out.now]
                  exact ⟨h.blk.cell 6 rfl, h.blk.cell 7 rfl, h.blk.cell 9 rfl, h.blk.cell 10 rfl⟩)
                have y11 : (wc.drewN n5).cell? ⟨gr, 11, none⟩ = some (.int .i64 nx) := by rw [← E2.out, ← HP5.out.next]; exact HP6.out.cr.blk.cell 11 rfl
                obtain ⟨y6, y7, y9, y10⟩ := KEEP.out _ HP6.out.cr
                go_upto_region 25 with (fail)
                go_upto_if 128 with (fail)
                go_cut [19] (fun v wx => v = .int .i64 dv ∧ wx = wc.drewN n5)
                case first =>
                  by_cases hz : en = 0
                  · have HD := Lib.hid (show dv = nx by rw [← E8.out, if_pos hz])
                    have bz : (en != 0) = false := by simpa using hz
                    clear hz
                    go_wp2
                    go_meet
                    exact ⟨by rw [HD.out], rfl⟩
                  · have HD := Lib.hid (show dv = 1099511627776 by rw [← E8.out, if_neg hz])
                    have bz : (en != 0) = true := by simpa using hz
                    clear hz
                    go_wp2
                    go_meet
                    exact ⟨by rw [HD.out], rfl⟩
                case rest =>
                  obtain ⟨rfl, rfl⟩ := hcut
                  have HCd := Lib.hid (HP6.out.cl.chg ((Chg.refl (fun _ => False) (wc.drewN n5)).drew) id (fun _ _ => id) (fun _ _ => id))
                  have HDUE : Hid (∀ w', Cl w' (w.heap.size + 1) g c' pl tl' → Calls Try.prog 23 #[.pointer (some ⟨g, 0, none⟩)] w' fun e w'' => e = .returned (.int .i64 dv) ∧ ∃ m, w'' = w'.drewN m) := Lib.hid (fun w' h => by
                    have := ClV.due h
                    rw [E1.out, E2.out, E8.out] at this
                    exact this)
                  have HCAN : Hid (∀ w', Cl w' (w.heap.size + 1) g c' pl tl' → Calls Try.prog 22 #[.pointer (some ⟨g, 0, none⟩)] w' fun e w'' => e = .returned (.bool sd) ∧ ∃ m, w'' = w'.drewN m) := Lib.hid (fun w' h => by
                    have := ClV.cancelled h
                    rw [E3.out] at this
                    exact this)
                  have HNO : Hid (∀ w', Cl w' (w.heap.size + 1) g c' pl tl' → Calls Try.prog 24 #[.pointer (some ⟨g, 0, none⟩)] w' fun e w'' => e = .returned (.int .i64 nw) ∧ ∃ m, w'' = w'.drewN m) := Lib.hid (fun w' h => by
                    have := ClV.now h
                    rw [E4.out] at this
                    exact this)
                  have HCrd := Lib.hid (HP6.out.cr.chg ((Chg.refl (fun _ => False) (wc.drewN n5)).drew) id (fun _ _ => id) (fun _ _ => id))
                  have HPD : Hid (Pair (wc.drewN n5).drew (w.heap.size + 1) g gr c' r' pl tl') := Lib.hid ⟨HCd.out, HCrd.out, HP5.out.js, HP5.out.jn, HP5.out.jm, HP5.out.ev, HP5.out.en, HP5.out.heard, HP5.out.stopped, HP5.out.now, HP5.out.next, HP5.out.ap1, HP5.out.ap2⟩
                  clear y11
                  go_upto_region 27 with (fail)
                  go_region_held3 (fun w' => w'.cell? ⟨gr, 6, none⟩ = some (.slice ta tn tc) ∧ w'.cell? ⟨gr, 7, none⟩ = some (.int .i64 en) ∧ w'.cell? ⟨gr, 9, none⟩ = some (.bool sd) ∧ w'.cell? ⟨gr, 10, none⟩ = some (.int .i64 nw)) (first | exact KEEP.out _ HP7.out.cr | exact KEEP.out _ HCrd.out | exact KEEP.out _ (HP7.out.cr.drewN _) | exact KEEP.out _ ((HP7.out.cr.drewN _).drewN _) | go_keep) (first
                    | (go_at_call 11; go_loud (refine (ClV.tokens (B := w.heap.size + 1) (g := g) (k := c') (pl := pl) (tl := tl') (by first | exact HCd.out | exact HP5.out.cl.drewN _ | exact HP6.out.cl)).mono ?_); rintro e w7 ⟨a7, cc7, rfl, ho7, hb7⟩; have HP7 : Hid (Pair w7 (w.heap.size + 1) g gr c' r' pl tl') := (by first | exact Lib.hid ((HP5.out.drewN _).below hb7) | exact Lib.hid (HPD.out.below hb7) | exact Lib.hid (HP6.out.below hb7)); have HO7 := Lib.hid ho7.rd; have HB7 : Hid (Below w.heap.size w w7) := (by first | exact Lib.hid ((below_drewN HBe6.out _).trans (hb7.mono HBe6.out.size)) | exact Lib.hid ((below_drew (below_drewN HBe6.out n5)).trans (hb7.mono HBe6.out.size))); have HR7 : Hid (Rd w7 1 ta tn tc (ints tl')) := (by rw [← E5.out, ← E6.out, ← E7.out]; exact Lib.hid HP7.out.cr.toks.rd); clear ho7 hb7)
                    | (go_at_call 12; refine (same_any HO7.out HR7.out).mono ?_; rintro e w8 ⟨rfl, n8, rfl⟩; rw [decide_eq_true rfl])
                    | (go_at_call 22; refine (HCAN.out _ (by first | exact HP7.out.cl.drewN _ | exact (HP7.out.cl.drewN _).drewN _)).mono ?_; rintro e w9 ⟨rfl, n9, rfl⟩)
                    | (go_at_call 23; refine (HDUE.out _ (by first | exact HP7.out.cl.drewN _ | exact (HP7.out.cl.drewN _).drewN _)).mono ?_; rintro e w10 ⟨rfl, n10, rfl⟩)
                    | (go_at_call 24; refine (HNO.out _ (by first | exact HP7.out.cl.drewN _ | exact (HP7.out.cl.drewN _).drewN _)).mono ?_; rintro e w11 ⟨rfl, n11, rfl⟩))
                  go_wp2
                  go_roundw
                  case rel => exact ⟨k + 1, c', r', tl', by omega, by go_num, HLEN, Lib.hid (HP7.out.drewN _), Lib.hid (below_drewN HB7.out _)⟩
                  case measure => simp [intOf]; omega
      · go_wp2_with fail
        refine alive_any.mono ?_
        rintro e w7 ⟨rfl, hb7⟩
        go_wp2
        go_ret
        exact ⟨rfl, HBe2.out.trans (hb7.mono HBe2.out.size)⟩

set_option maxRecDepth 100000 in
set_option maxHeartbeats 1000000 in
theorem law_no {js jm ev : Int} {a : Option Addr} {n c : Nat} (hno : ¬ (1 ≤ ev ∧ ev ≤ 4294967296)) (v : Value) :
    Calls Try.prog 5 #[.agg #[.int .u64 js, .slice a n c, .int .i64 jm], .int .i64 ev, v] w fun e w' => e = .returned (.bool true) ∧ Below w.heap.size w w' := by
  have hu := Try.underlying24
  have hbe := Lib.hid ((Below.refl w.heap.size w).alloc (Nat.le_refl _) (.cells #[.int .u64 js, .slice a n c, .int .i64 jm] 30))
  have hws : (w.alloc (.cells #[.int .u64 js, .slice a n c, .int .i64 jm] 30)).heap.size = w.heap.size + 1 := by simp
  have HWS := Lib.hid hws
  have HNO := Lib.hid hno
  clear hws hno
  go_enter Try.func5, Try.ntmps5
  go_wp2_with fail
  refine (new_no HNO.out).mono ?_
  rintro e w1 ⟨rfl, hb1⟩
  have HB1 := Lib.hid (hbe.out.trans (hb1.mono (by rw [HWS.out]; omega)))
  clear hb1
  by_cases h1 : 1 ≤ ev
  · have h2 : 4294967296 < ev := by have := HNO.out; omega
    go_wp2_with fail
    refine alive_any.mono ?_
    rintro e w7 ⟨rfl, hb7⟩
    go_wp2
    go_ret
    exact ⟨rfl, HB1.out.trans (hb7.mono HB1.out.size)⟩
  · have h2 : ev < 1 := by omega
    go_wp2_with fail
    refine alive_any.mono ?_
    rintro e w7 ⟨rfl, hb7⟩
    go_wp2
    go_ret
    exact ⟨rfl, HB1.out.trans (hb7.mono HB1.out.size)⟩

theorem entry (W : World) (v0 v1 v2 : Value) (g0 : Arg W (.struct (.cons (.int .u64) (.cons (.slice (.int .i64)) (.cons (.int .i64) .none)))) v0) (g1 : Arg W (.int .i64) v1) (g2 : Arg W (.slice stepSh) v2)
    (z0 : ∀ cs, v0 = .agg cs → ∀ a len cap, cs.toList[1]? = some (.slice a len cap) → len * 8 ≤ 140737488351232) :
    Calls Try.prog 5 #[v0, v1, v2] W fun e w' => e = .returned (.bool true) ∧ Below W.heap.size W w' := by
  simp only [Arg, reads_int, List.cons.injEq, and_true] at g1
  obtain ⟨ev, rfl, _⟩ := g1
  obtain ⟨cs, rfl, hl, hr⟩ := g0
  simp only [Sh.size] at hl
  match cs, hl, hr with
  | [c0, c1, c2], _, hr =>
    simp only [reads_int, reads_none, reads_cons, Sh.size, List.take_succ_cons, List.take_zero, List.drop_succ_cons, List.drop_zero, List.cons.injEq, and_true] at hr
    obtain ⟨⟨x0, rfl, _⟩, hj, ⟨x2, rfl, _⟩⟩ := hr
    obtain ⟨pl, a, c, rfl, hj, _⟩ := rd_ints hj
    obtain ⟨xs, hx, hs⟩ := rows_of (by simp [Sh.size, stepSh]) g2
    by_cases hev : 1 ≤ ev ∧ ev ≤ 4294967296
    · exact law_any hj (z0 _ rfl a _ c rfl) v2 xs hx (fun row hr => isStep W row (hs row hr).1 (hs row hr).2) hev.1 hev.2
    · exact law_no hev v2
end
end Go.Proofs.Ytoghkikjgilpdaa.ClI
