/-
  ClientGrows: tokens are only added; behind the end nothing is, and there is one end.
-/
import Derived.Test.YtoghkikjgilpdaaClB
namespace Go.Proofs.Ytoghkikjgilpdaa.ClG
open Go.RowKit Go.Proofs.Ytoghkikjgilpdaa.Kit Go.Proofs.Ytoghkikjgilpdaa.ClW Go.Proofs.Ytoghkikjgilpdaa.ClV Go.Proofs.Ytoghkikjgilpdaa.ClS Go.Proofs.Ytoghkikjgilpdaa.ClQ Go.Proofs.Ytoghkikjgilpdaa.ClA Go.Proofs.Ytoghkikjgilpdaa.ClF Go.Proofs.Ytoghkikjgilpdaa.ClB
attribute [local go_sem high] max_imax min_imin
set_option linter.unusedVariables false
section
variable {B g : Nat} {k : Ck} {pl tl ll : List Int} {w w' : World} {m : M}

theorem takeN_grows (tl ll : List Int) (n : Int) : tl <+: takeN tl ll n ∧ (takeN tl ll n).length ≤ tl.length + ll.length := by
  unfold takeN
  split
  · exact ⟨List.prefix_append _ _, by simp⟩
  · exact ⟨List.prefix_refl _, by omega⟩

/-- What Arrive does, in short: tokens are only added, and behind the end nothing is. -/
def Arr (w : World) (B g : Nat) (k : Ck) (pl tl ll : List Int) (e : Ending) (w' : World) : Prop :=
  ∃ a n c s' tl', e = .returned (.slice a n c) ∧ Cl w' B g s' pl tl' ∧ tl <+: tl' ∧ tl'.length ≤ tl.length + ll.length ∧ (k.en ≠ 0 → n = 0 ∧ tl' = tl ∧ s'.en = k.en) ∧ Chg (fun i => i = g ∨ ob k.ta = some i) w w' ∧ n ≤ 1

theorem arrive_all (h : Cl w B g k pl tl) (t : Int) (m : M) (hn : 0 ≤ m.n) (hr : Rd w 1 m.la m.ln m.lc (ints ll)) (hfar : 0 < m.ln → ∀ x, ob m.la = some x → x ≠ g) (hl : m.ln ≤ 549755813888) (ht : k.tn ≤ 549755813888) :
    Calls Try.prog 10 #[.pointer (some ⟨g, 0, none⟩), .int .i64 t, .agg (mc m)] w (Arr w B g k pl tl ll) := by
  by_cases hc : k.en ≠ 0 ∨ m.stream ≠ 3 ∨ (m.kind ≠ 4 ∧ m.kind ≠ 5)
  · refine (ClR.arrive_no h t m hc).mono ?_
    rintro e w' ⟨a, c, ms, rfl, _, rfl, h1, h2⟩
    exact ⟨a, _, c, at_ k t, tl, rfl, h1, List.prefix_refl _, by omega, fun _ => ⟨rfl, rfl, rfl⟩, h2.mono (fun _ _ h => .inl h), by simp⟩
  · have h0 : k.en = 0 := by
      by_cases h : k.en = 0
      · exact h
      · exact absurd (.inl h) hc
    have h1 : m.stream = 3 := by
      by_cases h : m.stream = 3
      · exact h
      · exact absurd (.inr (.inl h)) hc
    by_cases h4 : m.kind = 4
    · refine (arrive_tok h t m h0 h1 h4 hn hr hfar hl ht).mono ?_
      rintro e w' ⟨ta, tn, tc, gm, rfl, htn, hgm, hbm, h5, hc5, ha5⟩
      exact ⟨_, 1, 1, _, _, rfl, h5, (takeN_grows tl ll m.n).1, (takeN_grows tl ll m.n).2, fun h => absurd h0 h, hc5, Nat.le_refl _⟩
    · have h5 : m.kind = 5 := by
        by_cases h : m.kind = 5
        · exact h
        · exact absurd (.inr (.inr ⟨h4, h⟩)) hc
      refine (arrive_end h t m h0 h1 h5).mono ?_
      rintro e w' ⟨ta, tn, tc, gm, rfl, htn, hgm, hbm, h5, hc5, ha5⟩
      exact ⟨_, 1, 1, _, _, rfl, h5, List.prefix_refl _, by omega, fun h => absurd h0 h, hc5, Nat.le_refl _⟩

set_option maxRecDepth 100000 in
set_option maxHeartbeats 4000000 in
theorem law_any {js jm : Int} {a : Option Addr} {n c : Nat} (hj : Rd w 1 a n c (ints pl)) (hjn : n * 8 ≤ 140737488351232) (v : Value) (xs : List (List Value)) (hx : RowsAt w 15 v xs) (hs : ∀ row ∈ xs, IsStep w row) :
    Calls Try.prog 4 #[.agg #[.int .u64 js, .slice a n c, .int .i64 jm], v] w fun e w' => e = .returned (.bool true) ∧ Below w.heap.size w w' := by
  have hu := Try.underlying24
  obtain ⟨sa, sc, rfl⟩ := hx.slice
  have HX := Lib.hid hx
  have HJ := Lib.hid hj
  clear hx hj
  have b0 := Blk.new w #[.int .u64 js, .slice a n c, .int .i64 jm] 30
  have hbe := (Below.refl w.heap.size w).alloc (Nat.le_refl _) (.cells #[.int .u64 js, .slice a n c, .int .i64 jm] 30)
  have hch := (Chg.refl (fun _ => False) w).alloc (.cells #[.int .u64 js, .slice a n c, .int .i64 jm] 30)
  obtain ⟨W, HW⟩ : ∃ W, Hid (w.alloc (.cells #[.int .u64 js, .slice a n c, .int .i64 jm] 30) = W) := ⟨_, rfl⟩
  have hws : (w.alloc (.cells #[.int .u64 js, .slice a n c, .int .i64 jm] 30)).heap.size = w.heap.size + 1 := by simp
  rw [HW.out] at b0 hbe hch hws
  have HJ2 := Lib.hid (HJ.out.chg hch (fun _ _ _ => id))
  have B0 := Lib.hid b0
  have HBe := Lib.hid hbe
  have HWS := Lib.hid hws
  clear b0 hbe hch hws
  go_enter Try.func4, Try.ntmps4
  go_wp2_with fail
  rw [HW.out]
  clear HW
  refine (new_yes (js := js) (jm := jm) (ev := 5) HJ2.out (by omega) (by omega) (by omega)).mono ?_
  rintro e w1 ⟨g, ja, jc, rfl, hg, h1, hb1⟩
  have H1 := Lib.hid h1
  have HB1 := Lib.hid (HBe.out.trans (hb1.mono (by rw [HWS.out]; omega)))
  have hgB : w.heap.size < g := by have := HWS.out; omega
  have b1 : Blk w1 w.heap.size 30 #[.int .u64 js, .slice a n c, .int .i64 jm] := (hb1.block _ B0.out.lt).trans B0.out
  have c0 : w1.cell? ⟨w.heap.size, 0, none⟩ = some (.int .u64 js) := b1.cell 0 rfl
  have c1 : w1.cell? ⟨w.heap.size, 1, none⟩ = some (.slice a n c) := b1.cell 1 rfl
  have c2 : w1.cell? ⟨w.heap.size, 2, none⟩ = some (.int .i64 jm) := b1.cell 2 rfl
  have hX1 : RowsAt w1 15 (.slice sa xs.length sc) xs := HX.out.below HB1.out
  have hS1 : ∀ row ∈ xs, IsStep w1 row := fun row hr => by
    obtain ⟨x0, x1, b, m, jl, ll, h1, h2, h3, h4, h5, h6, h7, h8, h9, h10, h11⟩ := hs row hr
    exact ⟨x0, x1, b, m, jl, ll, h1, h2, h3, h4, h5, h6, h7, h8, h9, h10.below HB1.out (fun hm x hx => h10.lt (by omega) hm x hx), h11.below HB1.out (fun hm x hx => h11.lt (by omega) hm x hx)⟩
  clear h1 hb1 hg b1
  have HX1 := Lib.hid hX1
  have HS1 := Lib.hid hS1
  clear hX1 hS1
  go_wp2_with fail
  refine (far_any (js := js) (jm := jm) HJ.out.cap HJ.out.max _ xs HX1.out HS1.out).mono ?_
  rintro e w2 ⟨fb, rfl, hb2, hnear⟩
  have H2 := Lib.hid (H1.out.below hb2)
  have HB2 := Lib.hid (HB1.out.trans (hb2.mono HB1.out.size))
  have HN := Lib.hid hnear
  clear hb2 hnear c0 c1 c2
  cases fb with
  | true =>
    go_wp2_with fail
    refine alive_any.mono ?_
    rintro e w3 ⟨rfl, hb3⟩
    go_wp2
    go_ret
    exact ⟨rfl, HB2.out.trans (hb3.mono HB2.out.size)⟩
  | false =>
    have HN2 := Lib.hid (HN.out rfl)
    clear HN
    go_wp2_with fail
    have hl := HX.out.1
    have hcap : xs.length ≤ sc := by
      rcases HX.out.2 with ⟨h0, _⟩ | ⟨_, _, _, hv, hl2, _⟩
      · rw [h0]; simp
      · injection hv with _ _ hc; rw [hc]; exact hl2
    refine (short_any sa xs.length sc hl hcap).mono ?_
    rintro e w3 ⟨rfl, nd, rfl⟩
    have hX2 := HX.out.take_ (min xs.length 150) (Nat.min_le_left _ _)
    have hnr := HN2.out.2
    obtain ⟨ys, HY⟩ : ∃ ys, Hid (xs.take (min xs.length 150) = ys) := ⟨_, rfl⟩
    have hyl : min xs.length 150 = ys.length := by rw [← HY.out, List.length_take]; omega
    have hy3 : ys.length ≤ 150 := by omega
    have hys : ∀ row ∈ ys, IsStep w row := fun row hr => hs row (by rw [← HY.out] at hr; exact List.mem_of_mem_take hr)
    rw [HY.out] at hnr
    rw [HY.out, hyl] at hX2
    rw [hyl]
    have HY2 := Lib.hid hX2
    have HYS := Lib.hid hys
    have HNR := Lib.hid hnr
    clear hX2 hys hyl HY hl hcap HX hs HX1 HS1 HN2 hnr
    go_wp2_with fail
    go_loopw [46, 7] (fun i nw wr => ∃ (k : Nat) (now : Int) (s : Ck) (tl : List Int), k ≤ ys.length ∧ i = .int .i64 k ∧ nw = .int .i64 now ∧ 0 ≤ now ∧ now ≤ (k : Int) * 1048576 ∧ Hid (tl.length ≤ 3000 * k) ∧ Hid (Cl wr (w.heap.size + 1) g s pl tl) ∧ Hid (Below w.heap.size w wr)) (fun i _ _ => ys.length - (intOf i).toNat)
    case atStart => exact ⟨0, 0, _, [], Nat.zero_le _, rfl, rfl, by omega, by omega, Lib.hid (by simp), Lib.hid (by rw [← HWS.out]; exact H2.out.drewN nd), Lib.hid (below_drewN HB2.out nd)⟩
    case round =>
      obtain ⟨k, now, s, tl, hk, rfl, rfl, t0, t1, HTL, HC, HBe2⟩ := hrel
      by_cases hlt : k < ys.length
      · obtain ⟨b, off, c', hv, hc1, hc2, hcell⟩ := HY2.out.at_ (by omega)
        injection hv with hv1 _ hv3
        subst hv1 hv3
        obtain ⟨row, hrow⟩ : ∃ row, ys[k]? = some row := ⟨ys[k], List.getElem?_eq_getElem hlt⟩
        obtain ⟨x0, x1, xb, m, jl, ll, rfl, k0, k1, l1, l2, n0, n1, ct0, ct1, hjl, hll⟩ := HYS.out row (List.mem_of_getElem? hrow)
        have hln3 := HNR.out _ (List.mem_of_getElem? hrow) x0 x1 xb m rfl
        obtain ⟨kind, stream, session, attempt, inc, mn, count, why, js', mja, mjn, mjc, mjm, la, ln, lc⟩ := m
        simp only at n0 n1 hln3 hll
        have hlll := rd_len hll
        have hce := hcell k _ hrow
        have hbe : ∀ j u, (xc x0 x1 xb ⟨kind, stream, session, attempt, inc, mn, count, why, js', mja, mjn, mjc, mjm, la, ln, lc⟩)[j]? = some u → wr.cell? ⟨b, off + k * 15 + j, none⟩ = some u := fun j u hu => by
          have h1 := hce j u hu
          rw [← Nat.add_assoc] at h1
          have h2 : b < w.heap.size := World.block_lt_of_cell? w _ h1
          exact (HBe2.out.cell (p := ⟨b, off + k * 15 + j, none⟩) h2).trans h1
        have r0 : wr.cell? ⟨b, off + k * 15, none⟩ = some (.int .u8 x0) := hbe 0 _ rfl
        have r1 : wr.cell? ⟨b, off + k * 15 + 1, none⟩ = some (.int .i64 x1) := hbe 1 _ rfl
        have r2 : wr.cell? ⟨b, off + k * 15 + 2, none⟩ = some (.bool xb) := hbe 2 _ rfl
        have r3 : wr.cell? ⟨b, off + k * 15 + 3, none⟩ = some (.int .i64 kind) := hbe 3 _ rfl
        have r4 : wr.cell? ⟨b, off + k * 15 + 4, none⟩ = some (.int .u64 stream) := hbe 4 _ rfl
        have r5 : wr.cell? ⟨b, off + k * 15 + 5, none⟩ = some (.int .u64 session) := hbe 5 _ rfl
        have r6 : wr.cell? ⟨b, off + k * 15 + 6, none⟩ = some (.int .u64 attempt) := hbe 6 _ rfl
        have r7 : wr.cell? ⟨b, off + k * 15 + 7, none⟩ = some (.int .u64 inc) := hbe 7 _ rfl
        have r8 : wr.cell? ⟨b, off + k * 15 + 8, none⟩ = some (.int .u64 mn) := hbe 8 _ rfl
        have r9 : wr.cell? ⟨b, off + k * 15 + 9, none⟩ = some (.int .u64 count) := hbe 9 _ rfl
        have r10 : wr.cell? ⟨b, off + k * 15 + 10, none⟩ = some (.int .i64 why) := hbe 10 _ rfl
        have r11 : wr.cell? ⟨b, off + k * 15 + 11, none⟩ = some (.int .u64 js') := hbe 11 _ rfl
        have r12 : wr.cell? ⟨b, off + k * 15 + 12, none⟩ = some (.slice mja mjn mjc) := hbe 12 _ rfl
        have r13 : wr.cell? ⟨b, off + k * 15 + 13, none⟩ = some (.int .i64 mjm) := hbe 13 _ rfl
        have r14 : wr.cell? ⟨b, off + k * 15 + 14, none⟩ = some (.slice la ln lc) := hbe 14 _ rfl
        have i0 : (0 : Int) ≤ (k : Int) := by omega
        have i1 : (k : Int) < (ys.length : Int) := by omega
        have HLL := Lib.hid hll
        have hlb : ∀ x, ob la = some x → 0 < ln → x < w.heap.size := fun x hx h0 => hll.lt (by omega) h0 x hx
        have HLB := Lib.hid hlb
        have HLLL := Lib.hid hlll
        clear hce hbe hcell hrow hjl hll hlb hlll ct0 ct1
        go_upto_region 8 with (fail)
        have bx := Blk.new wr (xc x0 x1 xb ⟨kind, stream, session, attempt, inc, mn, count, why, js', mja, mjn, mjc, mjm, la, ln, lc⟩).toArray 36
        have HC2 := Lib.hid (HC.out.alloc (.cells (xc x0 x1 xb ⟨kind, stream, session, attempt, inc, mn, count, why, js', mja, mjn, mjc, mjm, la, ln, lc⟩).toArray 36))
        have hsw : w.heap.size ≤ wr.heap.size := HBe2.out.size
        have HBe3 := Lib.hid (HBe2.out.alloc hsw (.cells (xc x0 x1 xb ⟨kind, stream, session, attempt, inc, mn, count, why, js', mja, mjn, mjc, mjm, la, ln, lc⟩).toArray 36))
        obtain ⟨W2, HW2⟩ : ∃ W2, Hid (wr.alloc (.cells (xc x0 x1 xb ⟨kind, stream, session, attempt, inc, mn, count, why, js', mja, mjn, mjc, mjm, la, ln, lc⟩).toArray 36) = W2) := ⟨_, rfl⟩
        have HW2' := HW2.out
        unfold xc at HW2'
        simp only at HW2'
        rw [HW2'] at ⊢
        rw [HW2.out] at bx HC2 HBe3
        clear HW2 HW2'
        have hgx : g < wr.heap.size := HC.out.blk.lt
        obtain ⟨gx, HGX, hgx⟩ : ∃ gx, Hid (wr.heap.size = gx) ∧ g < gx := ⟨_, rfl, hgx⟩
        rw [HGX.out] at bx ⊢
        clear r0 r1 r2 r3 r4 r5 r6 r7 r8 r9 r10 r11 r12 r13 r14 hsw
        have q0 : W2.cell? ⟨gx, 0, none⟩ = some (.int .u8 x0) := bx.cell 0 rfl
        have q1 : W2.cell? ⟨gx, 1, none⟩ = some (.int .i64 x1) := bx.cell 1 rfl
        have q2 : W2.cell? ⟨gx, 2, none⟩ = some (.bool xb) := bx.cell 2 rfl
        have q3 : W2.cell? ⟨gx, 3, none⟩ = some (.int .i64 kind) := bx.cell 3 rfl
        have q4 : W2.cell? ⟨gx, 4, none⟩ = some (.int .u64 stream) := bx.cell 4 rfl
        have q5 : W2.cell? ⟨gx, 5, none⟩ = some (.int .u64 session) := bx.cell 5 rfl
        have q6 : W2.cell? ⟨gx, 6, none⟩ = some (.int .u64 attempt) := bx.cell 6 rfl
        have q7 : W2.cell? ⟨gx, 7, none⟩ = some (.int .u64 inc) := bx.cell 7 rfl
        have q8 : W2.cell? ⟨gx, 8, none⟩ = some (.int .u64 mn) := bx.cell 8 rfl
        have q9 : W2.cell? ⟨gx, 9, none⟩ = some (.int .u64 count) := bx.cell 9 rfl
        have q10 : W2.cell? ⟨gx, 10, none⟩ = some (.int .i64 why) := bx.cell 10 rfl
        have q11 : W2.cell? ⟨gx, 11, none⟩ = some (.int .u64 js') := bx.cell 11 rfl
        have q12 : W2.cell? ⟨gx, 12, none⟩ = some (.slice mja mjn mjc) := bx.cell 12 rfl
        have q13 : W2.cell? ⟨gx, 13, none⟩ = some (.int .i64 mjm) := bx.cell 13 rfl
        have q14 : W2.cell? ⟨gx, 14, none⟩ = some (.slice la ln lc) := bx.cell 14 rfl
        have HBX := Lib.hid bx
        clear bx
        go_upto_region 8 with (fail)
        go_cut [57] (fun v wx => v = .bool (decide (0 < x1) && decide (x1 < 1048576)) ∧ wx = W2)
        case first =>
          by_cases a1 : 0 < x1
          · by_cases a2 : x1 < 1048576
            · go_wp2
              go_meet
              exact ⟨by simp [a1, a2], rfl⟩
            · go_wp2
              go_meet
              exact ⟨by simp [a1]; omega, rfl⟩
          · go_wp2
            go_meet
            exact ⟨by simp; omega, rfl⟩
        case rest =>
          obtain ⟨rfl, rfl⟩ := hcut
          obtain ⟨tb, HTB⟩ : ∃ tb, Hid ((decide (0 < x1) && decide (x1 < 1048576)) = tb) := ⟨_, rfl⟩
          rw [HTB.out]
          go_upto_if 57 with (fail)
          go_cut [7] from 58 to 61 (fun v wx => (∃ T : Int, v = .int .i64 T ∧ now ≤ T ∧ T ≤ now + 1048576) ∧ wx = wc)
          case first =>
            cases tb with
            | true =>
              have e := HTB.out
              simp only [Bool.and_eq_true, decide_eq_true_eq] at e
              obtain ⟨e1, e2⟩ := e
              go_wp2
              go_meet
              exact ⟨⟨_, rfl, by omega, by omega⟩, rfl⟩
            | false =>
              go_wp2
              go_meet
              exact ⟨⟨_, rfl, by omega, by omega⟩, rfl⟩
          case rest =>
            obtain ⟨⟨T, rfl, hT1, hT2⟩, rfl⟩ := hcut
            have hT3 : T ≤ ((k + 1 : Nat) : Int) * 1048576 := by omega
            clear HTB q0 q1
            go_wp2_with fail
            refine (ClV.tokens HC2.out).mono ?_
            rintro e w3 ⟨a3, c3, rfl, ho3, hb3⟩
            have HC3 := Lib.hid (HC2.out.below hb3)
            have HO3 := Lib.hid ho3
            have HBe4 := Lib.hid (HBe3.out.trans (hb3.mono HBe3.out.size))
            have bx3 : Blk w3 gx 36 _ := (hb3.block _ HBX.out.lt).trans HBX.out
            have HBX3 := Lib.hid bx3
            have hs3 := HBX.out.lt
            clear ho3 hb3 q2 q3 q4 q5 q6 q7 q8 q9 q10 q11 q12 q13 q14
            obtain ⟨tn, H2⟩ : ∃ n, Hid (s.tn = n) := ⟨_, rfl⟩
            rw [H2.out] at HO3 ⊢
            go_wp2_with fail
            refine (ClV.ended HC3.out).mono ?_
            rintro e w4 ⟨rfl, n4, rfl⟩
            obtain ⟨en, HEN⟩ : ∃ n, Hid (s.en = n) := ⟨_, rfl⟩
            rw [HEN.out]
            have q0 : (w3.drewN n4).cell? ⟨gx, 0, none⟩ = some (.int .u8 x0) := (bx3.drewN n4).cell 0 rfl
            have q1 : (w3.drewN n4).cell? ⟨gx, 1, none⟩ = some (.int .i64 x1) := (bx3.drewN n4).cell 1 rfl
            have q2 : (w3.drewN n4).cell? ⟨gx, 2, none⟩ = some (.bool xb) := (bx3.drewN n4).cell 2 rfl
            have q3 : (w3.drewN n4).cell? ⟨gx, 3, none⟩ = some (.int .i64 kind) := (bx3.drewN n4).cell 3 rfl
            have q4 : (w3.drewN n4).cell? ⟨gx, 4, none⟩ = some (.int .u64 stream) := (bx3.drewN n4).cell 4 rfl
            have q5 : (w3.drewN n4).cell? ⟨gx, 5, none⟩ = some (.int .u64 session) := (bx3.drewN n4).cell 5 rfl
            have q6 : (w3.drewN n4).cell? ⟨gx, 6, none⟩ = some (.int .u64 attempt) := (bx3.drewN n4).cell 6 rfl
            have q7 : (w3.drewN n4).cell? ⟨gx, 7, none⟩ = some (.int .u64 inc) := (bx3.drewN n4).cell 7 rfl
            have q8 : (w3.drewN n4).cell? ⟨gx, 8, none⟩ = some (.int .u64 mn) := (bx3.drewN n4).cell 8 rfl
            have q9 : (w3.drewN n4).cell? ⟨gx, 9, none⟩ = some (.int .u64 count) := (bx3.drewN n4).cell 9 rfl
            have q10 : (w3.drewN n4).cell? ⟨gx, 10, none⟩ = some (.int .i64 why) := (bx3.drewN n4).cell 10 rfl
            have q11 : (w3.drewN n4).cell? ⟨gx, 11, none⟩ = some (.int .u64 js') := (bx3.drewN n4).cell 11 rfl
            have q12 : (w3.drewN n4).cell? ⟨gx, 12, none⟩ = some (.slice mja mjn mjc) := (bx3.drewN n4).cell 12 rfl
            have q13 : (w3.drewN n4).cell? ⟨gx, 13, none⟩ = some (.int .i64 mjm) := (bx3.drewN n4).cell 13 rfl
            have q14 : (w3.drewN n4).cell? ⟨gx, 14, none⟩ = some (.slice la ln lc) := (bx3.drewN n4).cell 14 rfl
            clear bx3
            go_wp2_with fail
            refine (theirs_any ⟨kind, stream, session, attempt, inc, mn, count, why, js', mja, mjn, mjc, mjm, la, ln, lc⟩).mono ?_
            rintro e w5 ⟨rfl, hb5⟩
            have HC5 := Lib.hid ((HC3.out.drewN n4).below hb5)
            have HO5 := Lib.hid ((HO3.out.drewN n4).chg (Chg.of_below hb5 (fun _ => False)) (fun _ _ => id))
            have HBe5 := Lib.hid ((below_drewN HBe4.out n4).trans (hb5.mono HBe4.out.size))
            have bx5 : Blk w5 gx 36 _ := (hb5.block _ (HBX3.out.drewN n4).lt).trans (HBX3.out.drewN n4)
            have hs5 : w3.heap.size ≤ w5.heap.size := hb5.size
            clear q0 q1 q2 q3 q4 q5 q6 q7 q8 q9 q10 q11 q12 q13 q14 hb5
            have bx6 := bx5.alloc (.cells (mc ⟨kind, stream, session, attempt, inc, mn, count, why, js', mja, mjn, mjc, mjm, la, ln, lc⟩) 39)
            clear bx5
            have HBX6 := Lib.hid bx6
            clear bx6
            unfold mc
            simp only
            go_upto_region 13 with (fail)
            have bm := Blk.new w5 (mc ⟨kind, stream, session, attempt, inc, mn, count, why, js', mja, mjn, mjc, mjm, la, ln, lc⟩) 39
            have HC6 := Lib.hid (HC5.out.alloc (.cells (mc ⟨kind, stream, session, attempt, inc, mn, count, why, js', mja, mjn, mjc, mjm, la, ln, lc⟩) 39))
            have HO6 := Lib.hid (HO5.out.chg ((Chg.refl (fun _ => False) w5).alloc (.cells (mc ⟨kind, stream, session, attempt, inc, mn, count, why, js', mja, mjn, mjc, mjm, la, ln, lc⟩) 39)) (fun _ _ => id))
            have HBe6 := Lib.hid (HBe5.out.alloc HBe5.out.size (.cells (mc ⟨kind, stream, session, attempt, inc, mn, count, why, js', mja, mjn, mjc, mjm, la, ln, lc⟩) 39))
            obtain ⟨W6, HW6⟩ : ∃ W, Hid (w5.alloc (.cells (mc ⟨kind, stream, session, attempt, inc, mn, count, why, js', mja, mjn, mjc, mjm, la, ln, lc⟩) 39) = W) := ⟨_, rfl⟩
            have HW6' := HW6.out
            unfold mc at HW6'
            simp only at HW6'
            rw [HW6'] at ⊢
            rw [HW6.out] at bm HC6 HO6 HBe6 HBX6
            have q2 : W6.cell? ⟨gx, 2, none⟩ = some (.bool xb) := HBX6.out.cell 2 rfl
            clear HW6 HW6'
            have hs6 : w3.heap.size ≤ w5.heap.size := hs5
            have hgm0 : g < w5.heap.size := HC5.out.blk.lt
            obtain ⟨gm, HGM, hgm1, hgm2⟩ : ∃ gm, Hid (w5.heap.size = gm) ∧ w3.heap.size ≤ gm ∧ g < gm := ⟨_, rfl, hs5, hgm0⟩
            rw [HGM.out] at bm ⊢
            have HBM0 := Lib.hid bm
            have p1 : W6.cell? ⟨gm, 1, none⟩ = some (.int .u64 stream) := bm.cell 1 rfl
            have f1 := bm.frozen 1
            clear bm hs6
            go_upto_if 73 with (fail)
            go_cut [] from 74 to 74 (fun wx => ∃ st, Hid (Blk wx gm 39 (mc ⟨kind, st, session, attempt, inc, mn, count, why, js', mja, mjn, mjc, mjm, la, ln, lc⟩)) ∧ Hid (Chg (fun i => i = gm) W6 wx))
            case first =>
              cases xb with
              | true =>
                go_wp2
                go_meet
                exact ⟨3, HBM0.out.set 1 _, (Chg.refl (fun i => i = gm) W6).set (.inl rfl) _⟩
              | false =>
                go_wp2
                go_meet
                exact ⟨stream, HBM0.out, Chg.refl (fun i => i = gm) W6⟩
            case rest =>
              obtain ⟨st, HBM, HCM⟩ := hcut
              have hne1 : ob s.ta ≠ some gm := (HC6.out.toks).ne HBM0.out (by decide)
              have hne2 : ob s.ja ≠ some gm := (HC6.out.job).ne HBM0.out (by decide)
              have HC7 := Lib.hid (HC6.out.chg HCM.out (by show ¬ g = gm; omega) (fun x hx e => hne1 (by rw [hx, e])) (fun x hx e => hne2 (by rw [hx, e])))
              have hne3 : ob a3 ≠ some gm := HO6.out.ne HBM0.out (by decide)
              have HO7 := Lib.hid (HO6.out.chg HCM.out (fun x hx e => hne3 (by rw [hx, e])))
              have hsz6 := HBe6.out.size
              have HBe7 := Lib.hid (HCM.out.below HBe6.out hsz6 (fun x hx => by have := HBe4.out.size; omega))
              clear q2 p1 f1 hne1 hne2 hne3
              have m0 : wc.cell? ⟨gm, 0, none⟩ = some (.int .i64 kind) := HBM.out.cell 0 rfl
              have m1 : wc.cell? ⟨gm, 1, none⟩ = some (.int .u64 st) := HBM.out.cell 1 rfl
              have m2 : wc.cell? ⟨gm, 2, none⟩ = some (.int .u64 session) := HBM.out.cell 2 rfl
              have m3 : wc.cell? ⟨gm, 3, none⟩ = some (.int .u64 attempt) := HBM.out.cell 3 rfl
              have m4 : wc.cell? ⟨gm, 4, none⟩ = some (.int .u64 inc) := HBM.out.cell 4 rfl
              have m5 : wc.cell? ⟨gm, 5, none⟩ = some (.int .u64 mn) := HBM.out.cell 5 rfl
              have m6 : wc.cell? ⟨gm, 6, none⟩ = some (.int .u64 count) := HBM.out.cell 6 rfl
              have m7 : wc.cell? ⟨gm, 7, none⟩ = some (.int .i64 why) := HBM.out.cell 7 rfl
              have m8 : wc.cell? ⟨gm, 8, none⟩ = some (.int .u64 js') := HBM.out.cell 8 rfl
              have m9 : wc.cell? ⟨gm, 9, none⟩ = some (.slice mja mjn mjc) := HBM.out.cell 9 rfl
              have m10 : wc.cell? ⟨gm, 10, none⟩ = some (.int .i64 mjm) := HBM.out.cell 10 rfl
              have m11 : wc.cell? ⟨gm, 11, none⟩ = some (.slice la ln lc) := HBM.out.cell 11 rfl
              have HLT := Lib.hid (HLL.out.below HBe7.out (fun h0 x hx => HLB.out x hx h0))
              have HTN : Hid (s.tn ≤ 549755813888) := by
                have h1 := Cl.tn HC7.out
                have h2 := HTL.out
                exact Lib.hid (by omega)
              have hfar : 0 < ln → ∀ x, ob la = some x → x ≠ g := fun h0 x hx e => by have := HLB.out x hx h0; omega
              have HFAR := Lib.hid hfar
              clear hfar
              go_wp2_with fail
              refine (arrive_all HC7.out T ⟨kind, st, session, attempt, inc, mn, count, why, js', mja, mjn, mjc, mjm, la, ln, lc⟩ n0 HLT.out HFAR.out (by show ln ≤ 549755813888; omega) HTN.out).mono ?_
              rintro e w8 ⟨oa, on, oc, s', tl', rfl, h8, hpre, hlen, hend, hc8, hon⟩
              have HC8 := Lib.hid h8
              have hO8 := HO7.out.chg hc8 (fun x hx e => by
                have h1 := (HO7.out.lt x hx).1
                rcases e with e | e
                · have := HC2.out.blk.lt; omega
                · have := (HC2.out.toks.lt x e).2; omega)
              have HO8 := Lib.hid hO8
              have hsz7 := HBe7.out.size
              have HBe8 := Lib.hid (hc8.below HBe7.out hsz7 (fun x hx => hx.elim (fun h => by omega) (fun h => by have := (HC2.out.toks.lt x h).1; omega)))
              have hl8 := Cl.tn HC8.out
              have hl2 := Cl.tn HC2.out
              have hpl := hpre.length_le
              obtain ⟨tn', H2'⟩ : ∃ n, Hid (s'.tn = n) := ⟨_, rfl⟩
              rw [H2'.out] at hl8
              rw [H2.out] at hl2
              have HPRE : Hid (tl'.take tn = tl) := by
                obtain ⟨r, rfl⟩ := hpre
                exact Lib.hid (by rw [hl2]; simp)
              have htt : tn ≤ tn' := by omega
              have HLEN : Hid (tl'.length ≤ 3000 * (k + 1)) := Lib.hid (by have := HTL.out; have := HLLL.out; omega)
              have HEND := Lib.hid hend
              have HL8 := Lib.hid hl8
              have HL2 := Lib.hid hl2
              clear h8 hc8 hO8 hsz7 hl8 hl2 hpl hpre hlen hend m0 m1 m2 m3 m4 m5 m6 m7 m8 m9 m10 m11
              go_wp2_with fail
              refine (ClV.tokens HC8.out).mono ?_
              rintro e w9 ⟨a9, c9, rfl, ho9, hb9⟩
              rw [H2'.out] at ho9 ⊢
              have HC9 := Lib.hid (HC8.out.below hb9)
              have HO9 := Lib.hid ho9
              have hcap9 := ho9.rd.cap
              have HO89 := Lib.hid (HO8.out.chg (Chg.of_below hb9 (fun _ => False)) (fun _ _ => id))
              have HBe9 := Lib.hid (HBe8.out.trans (hb9.mono HBe8.out.size))
              have HR9 : Hid (Rd w9 1 a9 tn c9 (ints tl)) := by
                have h1 := ho9.rd.take_ tn htt
                rw [Nat.mul_one] at h1
                have h2 : (ints tl').take tn = ints tl := by rw [← HPRE.out]; simp [ints]
                rw [h2] at h1
                exact Lib.hid h1
              clear ho9 hb9
              have z0 : (tn : Int) ≤ (tn' : Int) := by omega
              have z1 : (tn : Int) ≤ (c9 : Int) := by omega
              by_cases hen : en = 0
              · subst hen
                go_wp2_with fail
                refine (same_any HR9.out HO89.out.rd).mono ?_
                rintro e w10 ⟨rfl, n10, rfl⟩
                rw [decide_eq_true rfl]
                go_wp2_with fail
                refine (ClV.ended (HC9.out.drewN n10)).mono ?_
                rintro e w11 ⟨rfl, n11, rfl⟩
                obtain ⟨en', HEN'⟩ : ∃ n, Hid (s'.en = n) := ⟨_, rfl⟩
                rw [HEN'.out]
                go_wp2
                go_roundw
                case rel => exact ⟨k + 1, T, s', tl', by omega, by go_num, rfl, by omega, hT3, HLEN, Lib.hid (HC9.out.drewN _), Lib.hid (below_drewN HBe9.out _)⟩
                case measure => simp [intOf]; omega
              · have hb : (en != 0) = true := by simpa using hen
                obtain ⟨e1, e2, e3⟩ := HEND.out (by rw [HEN.out]; exact hen)
                have HTT : Hid (tn' = tn) := Lib.hid (by rw [HL8.out, HL2.out, e2])
                have ht2 := HTT.out
                subst ht2
                subst e1
                have HEN' : Hid (s'.en = en) := Lib.hid (by rw [e3, HEN.out])
                clear e2 e3 HTT
                have HNE := Lib.hid hen
                clear hen
                go_wp2_with fail
                refine (same_any HR9.out HO89.out.rd).mono ?_
                rintro e w10 ⟨rfl, n10, rfl⟩
                rw [decide_eq_true rfl]
                go_wp2_with fail
                refine (tick_no (HC9.out.drewN n10) T (.inl (by rw [HEN'.out]; exact HNE.out))).mono ?_
                rintro e w11 ⟨ta', tc', ms', rfl, _, rfl, h11, hc11⟩
                have HC11 := Lib.hid h11
                have hs9 := HBe9.out.size
                have HBe11 := Lib.hid (hc11.below (below_drewN HBe9.out n10) hs9 (fun x hx => by omega))
                clear h11 hc11 hs9
                go_wp2_with fail
                refine (ClV.ended HC11.out).mono ?_
                rintro e w12 ⟨rfl, n12, rfl⟩
                rw [show (at_ s' T).en = en from HEN'.out]
                go_wp2
                go_roundw
                case rel => exact ⟨k + 1, T, _, tl', by omega, by go_num, rfl, by omega, hT3, HLEN, Lib.hid (HC11.out.drewN n12), Lib.hid (below_drewN HBe11.out n12)⟩
                case measure => simp [intOf]; omega
      · go_wp2_with fail
        refine alive_any.mono ?_
        rintro e w7 ⟨rfl, hb7⟩
        go_wp2
        go_ret
        exact ⟨rfl, HBe2.out.trans (hb7.mono HBe2.out.size)⟩

theorem entry (W : World) (v0 v1 : Value) (g0 : Arg W (.struct (.cons (.int .u64) (.cons (.slice (.int .i64)) (.cons (.int .i64) .none)))) v0) (g1 : Arg W (.slice stepSh) v1)
    (z0 : ∀ cs, v0 = .agg cs → ∀ a len cap, cs.toList[1]? = some (.slice a len cap) → len * 8 ≤ 140737488351232) :
    Calls Try.prog 4 #[v0, v1] W fun e w' => e = .returned (.bool true) ∧ Below W.heap.size W w' := by
  obtain ⟨cs, rfl, hl, hr⟩ := g0
  simp only [Sh.size] at hl
  match cs, hl, hr with
  | [c0, c1, c2], _, hr =>
    simp only [reads_int, reads_none, reads_cons, Sh.size, List.take_succ_cons, List.take_zero, List.drop_succ_cons, List.drop_zero, List.cons.injEq, and_true] at hr
    obtain ⟨⟨x0, rfl, _⟩, hj, ⟨x2, rfl, _⟩⟩ := hr
    obtain ⟨pl, a, c, rfl, hj, _⟩ := rd_ints hj
    obtain ⟨xs, hx, hs⟩ := rows_of (by simp [Sh.size, stepSh]) g1
    exact law_any hj (z0 _ rfl a _ c rfl) v1 xs hx (fun row hr => isStep W row (hs row hr).1 (hs row hr).2)
end
end Go.Proofs.Ytoghkikjgilpdaa.ClG
