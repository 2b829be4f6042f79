/-
  ClientTells: as long as it has not ended it tells something each Every; one that nobody made does nothing.
-/
import Derived.Test.YtoghkikjgilpdaaClN
namespace Go.Proofs.Ytoghkikjgilpdaa.ClM
open Go.RowKit Go.Proofs.Ytoghkikjgilpdaa.Kit Go.Proofs.Ytoghkikjgilpdaa.ClW Go.Proofs.Ytoghkikjgilpdaa.ClV Go.Proofs.Ytoghkikjgilpdaa.ClS Go.Proofs.Ytoghkikjgilpdaa.ClQ Go.Proofs.Ytoghkikjgilpdaa.ClA Go.Proofs.Ytoghkikjgilpdaa.ClF Go.Proofs.Ytoghkikjgilpdaa.ClB Go.Proofs.Ytoghkikjgilpdaa.ClN
attribute [local go_sem high] max_imax min_imin
set_option linter.unusedVariables false
section
variable {w : World}

/-- A client ahead of the i-th telling at the time t. -/
structure Bef (ev : Int) (i : Nat) (t : Int) (s : Ck) : Prop where
  en : s.en = 0
  ev_ : s.ev = ev
  next : s.next = t
  now : s.now ≤ t
  t0 : 0 ≤ t
  t1 : t ≤ (i : Int) * 4294967296
  stop : s.stopped = decide (3 < i)

set_option maxRecDepth 100000 in
set_option maxHeartbeats 4000000 in
theorem law_any (ev many : Int) (m0' : 0 ≤ many) (m1' : many ≤ 255) (m : M) :
    Calls Try.prog 6 #[.int .i64 ev, .int .u8 many, .agg (mc m)] w fun e w' => e = .returned (.bool true) ∧ Below w.heap.size w w' := by
  have hu := Try.underlying24
  obtain ⟨kind, stream, session, attempt, inc, n, count, why, js, ja, jn, jc, jm, la, ln, lc⟩ := m
  have b1 := ((Blk.new w (mc ⟨kind, stream, session, attempt, inc, n, count, why, js, ja, jn, jc, jm, la, ln, lc⟩) 34).alloc (.cells zc 58)).alloc (.cells #[.pointer none, .pointer (some ⟨w.heap.size + 1, 0, none⟩)] 24)
  have b2 := (Blk.new (w.alloc (.cells (mc ⟨kind, stream, session, attempt, inc, n, count, why, js, ja, jn, jc, jm, la, ln, lc⟩) 34)) zc 58).alloc (.cells #[.pointer none, .pointer (some ⟨w.heap.size + 1, 0, none⟩)] 24)
  have b3 := Blk.new ((w.alloc (.cells (mc ⟨kind, stream, session, attempt, inc, n, count, why, js, ja, jn, jc, jm, la, ln, lc⟩) 34)).alloc (.cells zc 58)) #[.pointer none, .pointer (some ⟨w.heap.size + 1, 0, none⟩)] 24
  have hbe : Below w.heap.size w (((w.alloc (.cells (mc ⟨kind, stream, session, attempt, inc, n, count, why, js, ja, jn, jc, jm, la, ln, lc⟩) 34)).alloc (.cells zc 58)).alloc (.cells #[.pointer none, .pointer (some ⟨w.heap.size + 1, 0, none⟩)] 24)) :=
    (((Below.refl _ w).alloc (Nat.le_refl _) _).alloc (by simp) _).alloc (by simp; omega) _
  have e1 : (w.alloc (.cells (mc ⟨kind, stream, session, attempt, inc, n, count, why, js, ja, jn, jc, jm, la, ln, lc⟩) 34)).heap.size = w.heap.size + 1 := by simp
  have e2 : ((w.alloc (.cells (mc ⟨kind, stream, session, attempt, inc, n, count, why, js, ja, jn, jc, jm, la, ln, lc⟩) 34)).alloc (.cells zc 58)).heap.size = w.heap.size + 1 + 1 := by simp
  rw [e1] at b2
  rw [e2] at b3
  clear e1 e2
  obtain ⟨W, HW⟩ : ∃ W, Hid ((((w.alloc (.cells (mc ⟨kind, stream, session, attempt, inc, n, count, why, js, ja, jn, jc, jm, la, ln, lc⟩) 34)).alloc (.cells zc 58)).alloc (.cells #[.pointer none, .pointer (some ⟨w.heap.size + 1, 0, none⟩)] 24)) = W) := ⟨_, rfl⟩
  have HW' := HW.out
  unfold zc mc at HW'
  simp only at HW'
  rw [HW.out] at b1 b2 b3 hbe
  clear HW
  have HBM := Lib.hid b1
  have HBZ := Lib.hid b2
  have HBS := Lib.hid b3
  have HBe := Lib.hid hbe
  clear b1 b2 b3 hbe
  obtain ⟨B, HB⟩ : ∃ B, Hid (w.heap.size = B) := ⟨_, rfl⟩
  unfold mc
  simp only
  go_enter Try.func6, Try.ntmps6
  go_wp2_with fail
  clear HW'
  rw [HB.out] at HBM HBZ HBS HBe ⊢
  go_loopw [20] (fun i wr => ∃ k : Nat, k ≤ 2 ∧ i = .int .i64 k ∧ Hid (Below W.heap.size W wr)) (fun i _ => 2 - (intOf i).toNat)
  case atStart => exact ⟨0, by omega, rfl, Lib.hid (Below.refl _ W)⟩
  case round =>
    obtain ⟨k, hk, rfl, HR⟩ := hrel
    have p0 : wr.cell? ⟨B + 1 + 1, 0, none⟩ = some (.pointer none) := (show Blk wr (B + 1 + 1) 24 _ from (HR.out.block _ HBS.out.lt).trans HBS.out).cell 0 rfl
    have p1 : wr.cell? ⟨B + 1 + 1, 1, none⟩ = some (.pointer (some ⟨B + 1, 0, none⟩)) := (show Blk wr (B + 1 + 1) 24 _ from (HR.out.block _ HBS.out.lt).trans HBS.out).cell 1 rfl
    have KEEP : Hid (∀ w', Below W.heap.size W w' → (w'.cell? ⟨B, 0, none⟩ = some (.int .i64 kind) ∧ w'.cell? ⟨B, 1, none⟩ = some (.int .u64 stream) ∧ w'.cell? ⟨B, 2, none⟩ = some (.int .u64 session) ∧ w'.cell? ⟨B, 3, none⟩ = some (.int .u64 attempt) ∧ w'.cell? ⟨B, 4, none⟩ = some (.int .u64 inc) ∧ w'.cell? ⟨B, 5, none⟩ = some (.int .u64 n) ∧ w'.cell? ⟨B, 6, none⟩ = some (.int .u64 count) ∧ w'.cell? ⟨B, 7, none⟩ = some (.int .i64 why) ∧ w'.cell? ⟨B, 8, none⟩ = some (.int .u64 js) ∧ w'.cell? ⟨B, 9, none⟩ = some (.slice ja jn jc) ∧ w'.cell? ⟨B, 10, none⟩ = some (.int .i64 jm) ∧ w'.cell? ⟨B, 11, none⟩ = some (.slice la ln lc))) := Lib.hid (fun w' h => by
      have hb : Blk w' B 34 _ := (h.block _ HBM.out.lt).trans HBM.out
      exact ⟨hb.cell 0 rfl, hb.cell 1 rfl, hb.cell 2 rfl, hb.cell 3 rfl, hb.cell 4 rfl, hb.cell 5 rfl, hb.cell 6 rfl, hb.cell 7 rfl, hb.cell 8 rfl, hb.cell 9 rfl, hb.cell 10 rfl, hb.cell 11 rfl⟩)
    obtain ⟨q0, q1, q2, q3, q4, q5, q6, q7, q8, q9, q10, q11⟩ := KEEP.out wr HR.out
    rcases (show k = 0 ∨ k = 1 ∨ k = 2 by omega) with rfl | rfl | rfl
    · have K : Hid (∀ w', Below W.heap.size W w' → NoOk none w') := Lib.hid (fun w' _ => ok_nil)
      go_wp2_with fail
      refine (ended_nob none (K.out _ HR.out)).mono ?_
      rintro e w7 ⟨rfl, n7, rfl⟩
      go_upto_region 5 with (fail)
      go_region_held3 (fun w' => w'.cell? ⟨B, 0, none⟩ = some (.int .i64 kind) ∧ w'.cell? ⟨B, 1, none⟩ = some (.int .u64 stream) ∧ w'.cell? ⟨B, 2, none⟩ = some (.int .u64 session) ∧ w'.cell? ⟨B, 3, none⟩ = some (.int .u64 attempt) ∧ w'.cell? ⟨B, 4, none⟩ = some (.int .u64 inc) ∧ w'.cell? ⟨B, 5, none⟩ = some (.int .u64 n) ∧ w'.cell? ⟨B, 6, none⟩ = some (.int .u64 count) ∧ w'.cell? ⟨B, 7, none⟩ = some (.int .i64 why) ∧ w'.cell? ⟨B, 8, none⟩ = some (.int .u64 js) ∧ w'.cell? ⟨B, 9, none⟩ = some (.slice ja jn jc) ∧ w'.cell? ⟨B, 10, none⟩ = some (.int .i64 jm) ∧ w'.cell? ⟨B, 11, none⟩ = some (.slice la ln lc)) (first | exact KEEP.out _ HB10.out | exact KEEP.out _ (below_drewN HB10.out _) | exact KEEP.out _ (below_drewN (below_drewN HB10.out _) _) | exact KEEP.out _ (below_drewN (below_drewN (below_drewN HB10.out _) _) _) | exact KEEP.out _ HB9.out | go_keep) (first | (go_at_call 16; refine (tick_nob none (K.out _ (by first | exact below_drewN HR.out _ | exact below_drew HR.out | exact HR.out)) _).mono ?_; rintro e w8 ⟨rfl, n8, rfl⟩) | (go_at_call 15; refine (theirs_any ⟨kind, stream, session, attempt, inc, n, count, why, js, ja, jn, jc, jm, la, ln, lc⟩).mono ?_; rintro e w9 ⟨rfl, hb9⟩; have HB9 := Lib.hid (show Below W.heap.size W w9 from (below_drewN HR.out _).trans (hb9.mono HR.out.size)); clear hb9) | (go_at_call 10; refine (arrive_nob none ⟨kind, stream, session, attempt, inc, n, count, why, js, ja, jn, jc, jm, la, ln, lc⟩ (K.out _ (HB9.out.alloc HB9.out.size _)) _).mono ?_; rintro e w10 ⟨rfl, hb10⟩; have HB10 := Lib.hid (show Below W.heap.size W w10 from HB9.out.trans (hb10.mono HB9.out.size)); clear hb10) | (go_at_call 19; refine (cancel_nob none (K.out _ HB10.out) _).mono ?_; rintro e w11 ⟨rfl, n11, rfl⟩) | (go_at_call 11; refine (tokens_nob none (K.out _ (by first | exact below_drewN HB10.out _ | exact below_drewN (below_drewN HB10.out _) _ | exact below_drewN (below_drewN (below_drewN HB10.out _) _) _))).mono ?_; rintro e w12 ⟨rfl, n12, rfl⟩) | (go_at_call 22; refine (cancelled_nob none (K.out _ (by first | exact below_drewN HB10.out _ | exact below_drewN (below_drewN HB10.out _) _ | exact below_drewN (below_drewN (below_drewN HB10.out _) _) _))).mono ?_; rintro e w13 ⟨rfl, n13, rfl⟩) | (go_at_call 23; refine (due_nob none (K.out _ (by first | exact below_drewN HB10.out _ | exact below_drewN (below_drewN HB10.out _) _ | exact below_drewN (below_drewN (below_drewN HB10.out _) _) _))).mono ?_; rintro e w14 ⟨rfl, n14, rfl⟩) | (go_at_call 24; refine (now_nob none (K.out _ (by first | exact below_drewN HB10.out _ | exact below_drewN (below_drewN HB10.out _) _ | exact below_drewN (below_drewN (below_drewN HB10.out _) _) _))).mono ?_; rintro e w15 ⟨rfl, n15, rfl⟩))
      have HB15 := Lib.hid (below_drewN HB10.out (n11 + n12 + n13 + n14 + n15))
      go_wp2
      go_roundw
      case rel => exact ⟨1, by omega, rfl, HB15⟩
      case measure => simp [intOf]
    · have K : Hid (∀ w', Below W.heap.size W w' → NoOk (some ⟨B + 1, 0, none⟩) w') := Lib.hid (fun w' h => ok_zero (show Blk w' (B + 1) 58 zc from (h.block _ HBZ.out.lt).trans HBZ.out))
      go_wp2_with fail
      refine (ended_nob (some ⟨B + 1, 0, none⟩) (K.out _ HR.out)).mono ?_
      rintro e w7 ⟨rfl, n7, rfl⟩
      go_upto_region 5 with (fail)
      go_region_held3 (fun w' => w'.cell? ⟨B, 0, none⟩ = some (.int .i64 kind) ∧ w'.cell? ⟨B, 1, none⟩ = some (.int .u64 stream) ∧ w'.cell? ⟨B, 2, none⟩ = some (.int .u64 session) ∧ w'.cell? ⟨B, 3, none⟩ = some (.int .u64 attempt) ∧ w'.cell? ⟨B, 4, none⟩ = some (.int .u64 inc) ∧ w'.cell? ⟨B, 5, none⟩ = some (.int .u64 n) ∧ w'.cell? ⟨B, 6, none⟩ = some (.int .u64 count) ∧ w'.cell? ⟨B, 7, none⟩ = some (.int .i64 why) ∧ w'.cell? ⟨B, 8, none⟩ = some (.int .u64 js) ∧ w'.cell? ⟨B, 9, none⟩ = some (.slice ja jn jc) ∧ w'.cell? ⟨B, 10, none⟩ = some (.int .i64 jm) ∧ w'.cell? ⟨B, 11, none⟩ = some (.slice la ln lc)) (first | exact KEEP.out _ HB10.out | exact KEEP.out _ (below_drewN HB10.out _) | exact KEEP.out _ (below_drewN (below_drewN HB10.out _) _) | exact KEEP.out _ (below_drewN (below_drewN (below_drewN HB10.out _) _) _) | exact KEEP.out _ HB9.out | go_keep) (first | (go_at_call 16; refine (tick_nob (some ⟨B + 1, 0, none⟩) (K.out _ (by first | exact below_drewN HR.out _ | exact below_drew HR.out | exact HR.out)) _).mono ?_; rintro e w8 ⟨rfl, n8, rfl⟩) | (go_at_call 15; refine (theirs_any ⟨kind, stream, session, attempt, inc, n, count, why, js, ja, jn, jc, jm, la, ln, lc⟩).mono ?_; rintro e w9 ⟨rfl, hb9⟩; have HB9 := Lib.hid (show Below W.heap.size W w9 from (below_drewN HR.out _).trans (hb9.mono HR.out.size)); clear hb9) | (go_at_call 10; refine (arrive_nob (some ⟨B + 1, 0, none⟩) ⟨kind, stream, session, attempt, inc, n, count, why, js, ja, jn, jc, jm, la, ln, lc⟩ (K.out _ (HB9.out.alloc HB9.out.size _)) _).mono ?_; rintro e w10 ⟨rfl, hb10⟩; have HB10 := Lib.hid (show Below W.heap.size W w10 from HB9.out.trans (hb10.mono HB9.out.size)); clear hb10) | (go_at_call 19; refine (cancel_nob (some ⟨B + 1, 0, none⟩) (K.out _ HB10.out) _).mono ?_; rintro e w11 ⟨rfl, n11, rfl⟩) | (go_at_call 11; refine (tokens_nob (some ⟨B + 1, 0, none⟩) (K.out _ (by first | exact below_drewN HB10.out _ | exact below_drewN (below_drewN HB10.out _) _ | exact below_drewN (below_drewN (below_drewN HB10.out _) _) _))).mono ?_; rintro e w12 ⟨rfl, n12, rfl⟩) | (go_at_call 22; refine (cancelled_nob (some ⟨B + 1, 0, none⟩) (K.out _ (by first | exact below_drewN HB10.out _ | exact below_drewN (below_drewN HB10.out _) _ | exact below_drewN (below_drewN (below_drewN HB10.out _) _) _))).mono ?_; rintro e w13 ⟨rfl, n13, rfl⟩) | (go_at_call 23; refine (due_nob (some ⟨B + 1, 0, none⟩) (K.out _ (by first | exact below_drewN HB10.out _ | exact below_drewN (below_drewN HB10.out _) _ | exact below_drewN (below_drewN (below_drewN HB10.out _) _) _))).mono ?_; rintro e w14 ⟨rfl, n14, rfl⟩) | (go_at_call 24; refine (now_nob (some ⟨B + 1, 0, none⟩) (K.out _ (by first | exact below_drewN HB10.out _ | exact below_drewN (below_drewN HB10.out _) _ | exact below_drewN (below_drewN (below_drewN HB10.out _) _) _))).mono ?_; rintro e w15 ⟨rfl, n15, rfl⟩))
      have HB15 := Lib.hid (below_drewN HB10.out (n11 + n12 + n13 + n14 + n15))
      go_wp2
      go_roundw
      case rel => exact ⟨2, by omega, rfl, HB15⟩
      case measure => simp [intOf]
    · clear p0 p1 q0 q1 q2 q3 q4 q5 q6 q7 q8 q9 q10 q11
      have HBr := Lib.hid (show Below B w wr from by
        have h1 := HR.out.mono (show B ≤ W.heap.size by have := HBM.out.lt; omega)
        exact HBe.out.trans h1)
      have HSZ : Hid (B ≤ wr.heap.size) := Lib.hid (by have := HBr.out.size; rw [HB.out] at this; exact this)
      by_cases hev : 1 ≤ ev ∧ ev ≤ 4294967296
      · obtain ⟨ev0, ev1⟩ := hev
        go_wp2_with fail
        refine (new_yes (js := 0) (jm := 0) (ev := ev) (pl := []) (Rd.none_ wr 1) (by omega) ev0 ev1).mono ?_
        rintro e w1 ⟨g, ja, jc, rfl, hg, h1, hb1⟩
        have H1 := Lib.hid h1
        have HB1 := Lib.hid (HBr.out.trans (hb1.mono HSZ.out))
        obtain ⟨C0, HC0⟩ : ∃ C0, Hid (wr.heap.size = C0) := ⟨_, rfl⟩
        rw [HC0.out] at H1 HSZ
        clear h1 hb1
        have y0 : 0 ≤ many % 40 := by omega
        have y1 : many % 40 < 40 := by omega
        go_wp2_with fail
        go_loopw [88, 13] (fun i nw wq => ∃ (k : Nat) (t : Int) (s : Ck), (k : Int) ≤ many % 40 ∧ i = .int .i64 k ∧ nw = .int .i64 t ∧ Hid (Bef ev k t s) ∧ Hid (Cl wq C0 g s [] []) ∧ Hid (Below B w wq)) (fun i _ _ => (many % 40).toNat - (intOf i).toNat)
        case atStart => exact ⟨0, 0, _, by omega, rfl, rfl, Lib.hid ⟨rfl, rfl, rfl, by simp [ClV.k0], by omega, by omega, rfl⟩, H1, HB1⟩
        case round =>
          clear H1 HB1
          obtain ⟨k, t, s, hk, rfl, rfl, HBF, HC, HBq⟩ := hrel
          by_cases hlt : (k : Int) < many % 40
          · have f1 := HBF.out.t0
            have f2 := HBF.out.t1
            have f3 : ((k : Nat) : Int) < 40 := by omega
            have HD : Hid (Calls Try.prog 23 #[.pointer (some ⟨g, 0, none⟩)] wr fun e w' => e = .returned (.int .i64 t) ∧ ∃ m, w' = wr.drewN m) := by
              have := ClV.due HC.out
              rw [if_pos HBF.out.en, HBF.out.next] at this
              exact this
            have hnow : nowOf s.now t = t := by
              have := HBF.out.now
              unfold nowOf imax
              rw [if_pos (by omega)]
              split <;> omega
            have HNOW := Lib.hid hnow
            clear hnow
            go_wp2_with fail
            refine HD.out.mono ?_
            rintro e w2 ⟨rfl, n2, rfl⟩
            go_wp2_with fail
            refine (tick_yes (HC.out.drewN n2) t HBF.out.en (by rw [HNOW.out, HBF.out.next]; exact Int.le_refl _)).mono ?_
            rintro e w3 ⟨a3, c3, ms, rfl, _, ⟨mm, _, rfl⟩, h3, hc3⟩
            have HC3 := Lib.hid h3
            have hsz3 := HBq.out.size
            rw [HB.out] at hsz3
            have HB3 := Lib.hid (hc3.below (below_drewN HBq.out n2) hsz3 (fun x hx => by have h1 := HSZ.out; have h2 := HC.out.base; have h3 : x = g := hx; omega))
            clear h3 hc3 hsz3
            have HT2 : Hid (∀ w' s', s'.en = 0 → s'.next = t + ev → s'.now = t → Cl w' C0 g s' [] [] → Calls Try.prog 16 #[.pointer (some ⟨g, 0, none⟩), .int .i64 t] w' (ClS.Told w' C0 g (at_ s' t) [] [] (fun _ ms => ms = []))) := Lib.hid (fun w' s' h1 h2 h3 h4 => by
              refine tick_no h4 t (.inr ?_)
              rw [h2, h3]
              unfold nowOf imax
              split <;> (try split) <;> omega)
            rcases (show k < 3 ∨ k = 3 ∨ 3 < k by omega) with hk3 | hk3 | hk3
            · have hst : s.stopped = false := by rw [HBF.out.stop]; exact decide_eq_false (by omega)
              rw [hst]
              have bk : ((k : Int) == 3) = false := by simp; omega
              have bk2 : (k == 3) = false := by simp; omega
              have HST := Lib.hid hst
              clear hst
              simp only [Bool.false_eq_true, if_false, List.length_cons, List.length_nil, Nat.zero_add]
              go_wp2_with fail
              refine (HT2.out w3 (tk s t) HBF.out.en (by show nowOf s.now t + s.ev = _; rw [HNOW.out, HBF.out.ev_]) HNOW.out HC3.out).mono ?_
              rintro e w5 ⟨a5, c5, ms5, rfl, _, rfl, h5, hc5⟩
              have HC5 := Lib.hid h5
              have hsz5 := HB3.out.size
              rw [HB.out] at hsz5
              have HB5 := Lib.hid (hc5.below HB3.out hsz5 (fun x hx => by have h1 := HSZ.out; have h2 := HC.out.base; have h3 : x = g := hx; omega))
              clear h5 hc5 hsz5
              simp only [List.length_nil]
              go_wp2
              go_roundw
              case rel => exact ⟨k + 1, t + ev, at_ (tk s t) t, by omega, by go_num, rfl, Lib.hid ⟨HBF.out.en, HBF.out.ev_, by show nowOf s.now t + s.ev = _; rw [HNOW.out, HBF.out.ev_], by show nowOf (nowOf s.now t) t ≤ _; rw [HNOW.out]; unfold nowOf imax; (repeat' split) <;> omega, by omega, by omega, by show s.stopped = _; rw [HST.out, decide_eq_false (by omega)]⟩, HC5, HB5⟩
              case measure => simp [intOf]; omega
            · have hst : s.stopped = false := by rw [HBF.out.stop]; exact decide_eq_false (by omega)
              rw [hst]
              have bk : ((k : Int) == 3) = true := by simp; omega
              have bk2 : (k == 3) = true := by simp; omega
              have HST := Lib.hid hst
              clear hst
              simp only [Bool.false_eq_true, if_false, List.length_cons, List.length_nil, Nat.zero_add]
              go_wp2_with fail
              refine (ClR.cancel_yes HC3.out t HBF.out.en HST.out).mono ?_
              rintro e w4 ⟨a4, c4, ms4, rfl, _, rfl, h4, hc4⟩
              have HC4 := Lib.hid h4
              have hsz4 := HB3.out.size
              rw [HB.out] at hsz4
              have HB4 := Lib.hid (hc4.below HB3.out hsz4 (fun x hx => by have h1 := HSZ.out; have h2 := HC.out.base; have h3 : x = g := hx; omega))
              clear h4 hc4 hsz4
              simp only [List.length_cons, List.length_nil, Nat.zero_add]
              go_wp2_with fail
              refine (HT2.out w4 (ClR.cn (tk s t) t) HBF.out.en (by show nowOf s.now t + s.ev = _; rw [HNOW.out, HBF.out.ev_]) (by show nowOf (nowOf s.now t) t = t; rw [HNOW.out]; unfold nowOf imax; (repeat' split) <;> omega) HC4.out).mono ?_
              rintro e w5 ⟨a5, c5, ms5, rfl, _, rfl, h5, hc5⟩
              have HC5 := Lib.hid h5
              have hsz5 := HB4.out.size
              rw [HB.out] at hsz5
              have HB5 := Lib.hid (hc5.below HB4.out hsz5 (fun x hx => by have h1 := HSZ.out; have h2 := HC.out.base; have h3 : x = g := hx; omega))
              clear h5 hc5 hsz5
              simp only [List.length_nil]
              go_wp2
              go_roundw
              case rel => exact ⟨k + 1, t + ev, at_ (ClR.cn (tk s t) t) t, by omega, by go_num, rfl, Lib.hid ⟨HBF.out.en, HBF.out.ev_, by show nowOf s.now t + s.ev = _; rw [HNOW.out, HBF.out.ev_], by show nowOf (nowOf (nowOf s.now t) t) t ≤ _; rw [HNOW.out]; unfold nowOf imax; (repeat' split) <;> omega, by omega, by omega, by show true = _; rw [decide_eq_true (by omega)]⟩, HC5, HB5⟩
              case measure => simp [intOf]; omega
            · have hst : s.stopped = true := by rw [HBF.out.stop]; exact decide_eq_true (by omega)
              rw [hst]
              have bk : ((k : Int) == 3) = false := by simp; omega
              have bk2 : (k == 3) = false := by simp; omega
              have HST := Lib.hid hst
              clear hst
              simp only [if_true, List.length_cons, List.length_nil, Nat.zero_add]
              go_wp2_with fail
              refine (HT2.out w3 (tk s t) HBF.out.en (by show nowOf s.now t + s.ev = _; rw [HNOW.out, HBF.out.ev_]) HNOW.out HC3.out).mono ?_
              rintro e w5 ⟨a5, c5, ms5, rfl, _, rfl, h5, hc5⟩
              have HC5 := Lib.hid h5
              have hsz5 := HB3.out.size
              rw [HB.out] at hsz5
              have HB5 := Lib.hid (hc5.below HB3.out hsz5 (fun x hx => by have h1 := HSZ.out; have h2 := HC.out.base; have h3 : x = g := hx; omega))
              clear h5 hc5 hsz5
              simp only [List.length_nil]
              go_wp2
              go_roundw
              case rel => exact ⟨k + 1, t + ev, at_ (tk s t) t, by omega, by go_num, rfl, Lib.hid ⟨HBF.out.en, HBF.out.ev_, by show nowOf s.now t + s.ev = _; rw [HNOW.out, HBF.out.ev_], by show nowOf (nowOf s.now t) t ≤ _; rw [HNOW.out]; unfold nowOf imax; (repeat' split) <;> omega, by omega, by omega, by show s.stopped = _; rw [HST.out, decide_eq_true (by omega)]⟩, HC5, HB5⟩
              case measure => simp [intOf]; omega
          · go_wp2_with fail
            refine alive_any.mono ?_
            rintro e w7 ⟨rfl, hb7⟩
            go_wp2
            go_ret
            exact ⟨rfl, by rw [HB.out]; exact HBq.out.trans (hb7.mono (by have := HBq.out.size; rw [HB.out] at this; exact this))⟩
      · go_wp2_with fail
        refine (new_no hev).mono ?_
        rintro e w1 ⟨rfl, hb1⟩
        have HB1 := Lib.hid (HBr.out.trans (hb1.mono HSZ.out))
        clear hb1 hev
        go_wp2_with fail
        refine alive_any.mono ?_
        rintro e w7 ⟨rfl, hb7⟩
        go_wp2
        go_ret
        exact ⟨rfl, by rw [HB.out]; exact HB1.out.trans (hb7.mono (by have := HB1.out.size; rw [HB.out] at this; exact this))⟩

/-- The shape of a message. -/
def msgSh : Sh := (.struct (.cons (.int .i64) (.cons (.int .u64) (.cons (.int .u64) (.cons (.int .u64) (.cons (.int .u64) (.cons (.int .u64) (.cons (.int .u64) (.cons (.int .i64) (.cons (.struct (.cons (.int .u64) (.cons (.slice (.int .i64)) (.cons (.int .i64) .none)))) (.cons (.slice (.int .i64)) .none)))))))))))
theorem entry (W : World) (v0 v1 v2 : Value) (g0 : Arg W (.int .i64) v0) (g1 : Arg W (.int .u8) v1) (g2 : Arg W msgSh v2) :
    Calls Try.prog 6 #[v0, v1, v2] W fun e w' => e = .returned (.bool true) ∧ Below W.heap.size W w' := by
  simp only [Arg, reads_int, List.cons.injEq, and_true] at g0 g1
  obtain ⟨ev, rfl, _⟩ := g0
  obtain ⟨many, rfl, l1⟩ := g1
  have l3 : 0 ≤ many ∧ many ≤ 255 := by
    simp [Lit.wf, IntKind.min, IntKind.max, IntKind.signed, IntKind.bits] at l1
    omega
  unfold msgSh at g2
  obtain ⟨cs, rfl, hl, hr⟩ := g2
  simp only [Sh.size] at hl
  match cs, hl, hr with
  | [c3, c4, c5, c6, c7, c8, c9, c10, c11, c12, c13, c14], _, hr =>
    simp only [reads_int, reads_struct, reads_none, reads_cons, Sh.size, List.take_succ_cons, List.take_zero, List.drop_succ_cons, List.drop_zero, List.cons.injEq, and_true, Nat.reduceAdd] at hr
    obtain ⟨⟨m0, rfl, _⟩, ⟨m1, rfl, _⟩, ⟨m2, rfl, _⟩, ⟨m3, rfl, _⟩, ⟨m4, rfl, _⟩, ⟨m5, rfl, l5⟩, ⟨m6, rfl, l6⟩, ⟨m7, rfl, _⟩, ⟨_, ⟨m8, rfl, _⟩, hj, ⟨m9, rfl, _⟩⟩, hl⟩ := hr
    obtain ⟨jl, ja, jc, rfl, hj, _⟩ := rd_ints hj
    obtain ⟨ll, la, lc, rfl, hl, _⟩ := rd_ints hl
    exact law_any ev many l3.1 l3.2 ⟨m0, m1, m2, m3, m4, m5, m6, m7, m8, ja, jl.length, jc, m9, la, ll.length, lc⟩
end
end Go.Proofs.Ytoghkikjgilpdaa.ClM
