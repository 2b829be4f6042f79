/-
  ScaleRests: steps lead to within the bounds, and come to rest.
-/
import Derived.Test.YtnefniinnjolbaaScM
import Derived.Deep.RegionHeld3
namespace Go.Proofs.Ytnefniinnjolbaa.ScZ
open Go.RowKit Go.Proofs.Ytnefniinnjolbaa.Kit Go.Proofs.Ytnefniinnjolbaa.ScP Go.Proofs.Ytnefniinnjolbaa.ScN Go.Proofs.Ytnefniinnjolbaa.ScM
open Go.Proofs.Ytnefniinnjolbaa.ScW (sc)
attribute [local go_sem high] max_imax min_imin
set_option linter.unusedVariables false

/-- The step where the waits are over. -/
def D (mn mx per sl ld n : Int) : Int := if mx < n then -1 else if n < want mn mx per ld then 1 else if want mn mx per ld < n ∧ spare per sl n ld = true then -1 else 0

theorem dir_rest {mn mx per sl uw dw now up dn n ld : Int} (h0 : 0 ≤ mn) (h : mn ≤ mx) (ru : rest now up uw = true) (rd : rest now (imax up dn) dw = true) :
    dir mn mx per sl uw dw now up dn n ld = D mn mx per sl ld n := by
  have w0 := want_lo mn mx per ld
  have w1 := want_hi mn mx per ld (by omega) h
  unfold dir D few many
  simp only [ru, rd, Bool.and_true, Bool.or_eq_true, Bool.and_eq_true, decide_eq_true_eq]
  by_cases a1 : mx < n
  · simp only [if_pos a1]
  · rw [if_neg a1, if_neg a1]
    by_cases a2 : n < want mn mx per ld
    · rw [if_pos a2, if_pos (by omega)]
    · rw [if_neg a2, if_neg (by omega)]
      by_cases a3 : want mn mx per ld < n ∧ spare per sl n ld = true
      · rw [if_pos a3, if_pos (.inr ⟨⟨a3.1, by omega⟩, a3.2⟩)]
      · rw [if_neg a3, if_neg]
        rintro (h | ⟨⟨h, _⟩, h2⟩)
        · exact a1 h
        · exact a3 ⟨h, h2⟩

theorem D_is (mn mx per sl ld n : Int) (h0 : 0 ≤ mn) (h : mn ≤ mx) :
    (D mn mx per sl ld n = 1 ∧ n < want mn mx per ld) ∨ (D mn mx per sl ld n = -1 ∧ want mn mx per ld < n) ∨ (D mn mx per sl ld n = 0 ∧ want mn mx per ld ≤ n ∧ n ≤ mx) := by
  have w1 := want_hi mn mx per ld (by omega) h
  unfold D
  by_cases a1 : mx < n
  · rw [if_pos a1]; exact .inr (.inl ⟨rfl, by omega⟩)
  · rw [if_neg a1]
    by_cases a2 : n < want mn mx per ld
    · rw [if_pos a2]; exact .inl ⟨rfl, a2⟩
    · rw [if_neg a2]
      by_cases a3 : want mn mx per ld < n ∧ spare per sl n ld = true
      · rw [if_pos a3]; exact .inr (.inl ⟨rfl, a3.1⟩)
      · rw [if_neg a3]; exact .inr (.inr ⟨rfl, by omega, by omega⟩)

/-- The waits are over. -/
theorem rest_of {now at_ wt d : Int} (hw : wt ≤ d) (h : at_ = -1 ∨ at_ + d ≤ now) : rest now at_ wt = true := by
  unfold rest
  simp only [Bool.or_eq_true, beq_iff_eq, decide_eq_true_eq]
  omega

theorem need_clip (per ld : Int) (h : 1 ≤ per) (h2 : per ≤ 1000) (f : Nat) : ∀ n : Nat, n + f ≤ 8 → need per (imin (imax ld 0) 1099511627776) f n = need per ld f n := by
  induction f with
  | zero => intro n _; rfl
  | succ f ih =>
    intro n hn
    have m0 : 0 ≤ (n : Int) * per := Int.mul_nonneg (by omega) (by omega)
    have m1 : (n : Int) * per ≤ 8 * 1000 := Int.mul_le_mul (by omega) h2 (by omega) (by omega)
    unfold need
    have e : (imin (imax ld 0) 1099511627776 ≤ (n : Int) * per) ↔ (ld ≤ (n : Int) * per) := by
      unfold imin imax
      (repeat' split) <;> omega
    by_cases hc : ld ≤ (n : Int) * per
    · rw [if_pos hc, if_pos (e.2 hc)]
    · rw [if_neg hc, if_neg (fun x => hc (e.1 x))]
      exact ih (n + 1) (by omega)
theorem want_clip (mn mx per ld : Int) (h : 1 ≤ per) (h2 : per ≤ 1000) (h3 : mx ≤ 8) : want mn mx per (imin (imax ld 0) 1099511627776) = want mn mx per ld := by
  unfold want
  rw [need_clip per ld h h2 mx.toNat 0 (by omega)]

section
variable {w : World}

theorem law_no {mn mx per sl uw dw : Int} (h : ¬ May mn mx per sl uw dw) (v v2 : Value) :
    Calls Try.prog 3 #[.agg #[.int .i64 mn, .int .i64 mx, .int .i64 per, .int .i64 sl, .int .i64 uw, .int .i64 dw], v, v2] w fun e w' => e = .returned (.bool true) ∧ Below w.heap.size w w' := by
  have HN := Lib.hid h
  clear h
  have hu := Try.underlying24
  have hbe : Below w.heap.size w (w.alloc (.cells (st mn mx per sl uw dw) 23)) := (Below.refl _ w).alloc (Nat.le_refl _) _
  go_enter Try.func3, Try.ntmps3
  go_wp2_with fail
  have b0 := Blk.new w (st mn mx per sl uw dw) 23
  obtain ⟨W, HW⟩ : ∃ W, Hid (w.alloc (.cells (st mn mx per sl uw dw) 23) = W) := ⟨_, rfl⟩
  have HW' := HW.out
  unfold st at HW'
  rw [HW'] at ⊢
  rw [HW.out] at b0 hbe
  clear HW HW'
  obtain ⟨B, HB⟩ : ∃ B, Hid (w.heap.size = B) := ⟨_, rfl⟩
  rw [HB.out] at b0 hbe ⊢
  have B0 := Lib.hid b0
  have HBe := Lib.hid hbe
  clear hbe
  refine theirs_any.mono ?_
  rintro e w1 ⟨rfl, hb1⟩
  have HB1 := Lib.hid hb1
  clear hb1
  go_wp2_with fail
  refine (new_no HN.out).mono ?_
  rintro e w2 ⟨rfl, hb2⟩
  have HBe2 := Lib.hid ((HBe.out.trans (HB1.out.mono (by have := B0.out.lt; omega))).trans (hb2.mono (by have := HB1.out.size; have := B0.out.lt; omega)))
  have hsz : B ≤ w2.heap.size := by have := hb2.size; have := HB1.out.size; have := B0.out.lt; omega
  clear hb2
  go_wp2_with fail
  refine alive_any.mono ?_
  rintro e w5 ⟨rfl, hb5⟩
  go_wp2
  go_ret
  exact ⟨rfl, by rw [HB.out]; exact HBe2.out.trans (hb5.mono hsz)⟩

set_option maxRecDepth 100000 in
set_option maxHeartbeats 8000000 in
theorem law_yes {mn mx per sl uw dw : Int} (h : May mn mx per sl uw dw) (lv ld : Int) (lv0 : 0 ≤ lv) (lv1 : lv ≤ 255) :
    Calls Try.prog 3 #[.agg #[.int .i64 mn, .int .i64 mx, .int .i64 per, .int .i64 sl, .int .i64 uw, .int .i64 dw], .int .u8 lv, .int .i64 ld] w fun e w' => e = .returned (.bool true) ∧ Below w.heap.size w w' := by
  have HM := Lib.hid h
  clear h
  have hu := Try.underlying24
  have hbe : Below w.heap.size w (w.alloc (.cells (st mn mx per sl uw dw) 23)) := (Below.refl _ w).alloc (Nat.le_refl _) _
  go_enter Try.func3, Try.ntmps3
  go_wp2_with fail
  have b0 := Blk.new w (st mn mx per sl uw dw) 23
  obtain ⟨W, HW⟩ : ∃ W, Hid (w.alloc (.cells (st mn mx per sl uw dw) 23) = W) := ⟨_, rfl⟩
  have HW' := HW.out
  unfold st at HW'
  rw [HW'] at ⊢
  rw [HW.out] at b0 hbe
  clear HW HW'
  obtain ⟨B, HB⟩ : ∃ B, Hid (w.heap.size = B) := ⟨_, rfl⟩
  rw [HB.out] at b0 hbe ⊢
  have B0 := Lib.hid b0
  have HBe := Lib.hid hbe
  clear hbe
  refine theirs_any.mono ?_
  rintro e w1 ⟨rfl, hb1⟩
  have HB1 := Lib.hid hb1
  clear hb1
  go_wp2_with fail
  refine (new_yes HM.out).mono ?_
  rintro e w2 ⟨g, rfl, hg, hbg, hb2⟩
  have HB2 := Lib.hid hb2
  clear hb2
  have hbb : Blk w2 B 23 (st mn mx per sl uw dw) := by
    have h1 : Blk w1 B 23 (st mn mx per sl uw dw) := (HB1.out.block B B0.out.lt).trans B0.out
    exact (HB2.out.block B h1.lt).trans h1
  have hsz : B ≤ w2.heap.size := by have := hbb.lt; omega
  have HBe2 := Lib.hid ((HBe.out.trans (HB1.out.mono (by have := B0.out.lt; omega))).trans (HB2.out.mono (by have := HB1.out.size; have := B0.out.lt; omega)))
  have hgB : B ≤ g := by have := HB1.out.size; have := B0.out.lt; omega
  have HG := Lib.hid (show Blk w2 g 49 (sc mn mx per sl uw dw 0 (-1) (-1)) from hbg)
  have hgs := hbg.lt
  clear hbg hg
  have B2 := Lib.hid hbb
  have hne := hbb.ne HG.out (by decide)
  obtain ⟨⟨f1, f2, f3, f4⟩, f5, f6, f7, f8, f9, f10, f11, f12⟩ := HM.out
  obtain ⟨wt, HW, w0, w1⟩ : ∃ wt, Hid (want mn mx per ld = wt) ∧ mn ≤ wt ∧ wt ≤ mx := ⟨_, rfl, want_lo _ _ _ _, want_hi _ _ _ _ (by omega) f2⟩
  have d0 : 0 ≤ imax uw dw := by unfold imax; split <;> omega
  have d1 : imax uw dw ≤ 4294967296 := by unfold imax; split <;> omega
  have HU : Hid (uw ≤ imax uw dw ∧ dw ≤ imax uw dw) := by constructor <;> unfold imax <;> split <;> omega
  have HDI := Lib.hid (fun n => D_is mn mx per sl (imin (imax ld 0) 1099511627776) n f1 f2)
  clear hbb B0 HB1 HB2 HBe
  go_wp2_with fail
  go_loopw [9, 10, 11, 31] (fun a b c i wr => ∃ (k : Nat) (n now last sn up dn : Int), k ≤ 60 ∧ a = .int .i64 n ∧ b = .int .i64 now ∧ c = .int .i64 last ∧ i = .int .i64 k ∧ 0 ≤ n ∧ n ≤ 19 ∧ 0 ≤ last ∧ last ≤ 19 ∧ 0 ≤ now ∧ now ≤ 4294967296 * (k : Int) ∧ 0 ≤ sn ∧ sn ≤ now ∧ -1 ≤ up ∧ up ≤ sn ∧ -1 ≤ dn ∧ dn ≤ sn ∧
      Hid (up = -1 ∨ up + imax uw dw ≤ now) ∧ Hid (dn = -1 ∨ dn + imax uw dw ≤ now) ∧ Hid ((n - wt + k ≤ 19 ∧ wt - n + k ≤ 19) ∨ D mn mx per sl (imin (imax ld 0) 1099511627776) n = 0) ∧
      Hid (Blk wr g 49 (sc mn mx per sl uw dw sn up dn)) ∧ Hid (Blk wr B 23 (st mn mx per sl uw dw)) ∧ Hid (Below B w wr)) (fun _ _ _ i _ => 60 - (intOf i).toNat)
  case atStart => exact ⟨0, _, 0, 0, 0, -1, -1, by omega, rfl, rfl, rfl, rfl, by omega, by omega, by omega, by omega, by omega, by omega, by omega, by omega, by omega, by omega, by omega, by omega, .inl rfl, .inl rfl, .inl (by omega), HG, B2, HBe2⟩
  case round =>
    obtain ⟨k, n, now, last, sn, up, dn, hk, rfl, rfl, rfl, rfl, n0, n1, l0, l1, t0, t1, s0, s1, u0, u1, e0, e1, HUP, HDN, HRE, HG, HS, HBe⟩ := hrel
    by_cases hlt : k < 60
    · have k3 : (k : Int) < 60 := by omega
      have k0 : 0 ≤ (k : Int) := by omega
      go_wp2_with fail
      refine (ScS.step_any HG.out (by omega) (by omega) (by omega) (by omega) (by omega) (by omega) (by omega) (by omega) (by omega) (by omega) (by omega) (by omega) (by omega) (by omega) now n ld).mono ?_
      rintro e w8 ⟨r, rfl, hr, hb8, hc8⟩
      have HS8 := Lib.hid (hc8.blk HS.out hne)
      have HBe8 := Lib.hid (hc8.below HBe.out (by have := HG.out.lt; omega) (fun k hk => by omega))
      have eT : nowOf sn now = now := by unfold nowOf imax; (repeat' split) <;> omega
      have eL : imax n 0 = n := by unfold imax; split <;> omega
      rw [eT, eL, dir_rest f1 f2 (rest_of HU.out.1 HUP.out) (rest_of HU.out.2 (by have h1 := HUP.out; have h2 := HDN.out; show imax up dn = -1 ∨ imax up dn + imax uw dw ≤ now; generalize imax uw dw = q at *; unfold imax; split <;> omega))] at hr
      rw [eT] at hb8
      have HG8 := Lib.hid hb8
      have hD := HDI.out n
      rw [← hr, want_clip mn mx per ld f5 f6 f4, HW.out] at hD
      have HR := Lib.hid hr
      have c0 : w8.cell? ⟨B, 0, none⟩ = some (.int .i64 mn) := HS8.out.cell 0 rfl
      have c1 : w8.cell? ⟨B, 1, none⟩ = some (.int .i64 mx) := HS8.out.cell 1 rfl
      have c4 : w8.cell? ⟨B, 4, none⟩ = some (.int .i64 uw) := HS8.out.cell 4 rfl
      have c5 : w8.cell? ⟨B, 5, none⟩ = some (.int .i64 dw) := HS8.out.cell 5 rfl
      clear hr hb8 hc8 eT eL
      rcases hD with ⟨hr1, hr2⟩ | ⟨hr1, hr2⟩ | ⟨hr1, hr2, hr3⟩
      · subst hr1
        have hm : n - wt + k ≤ 19 ∧ wt - n + k ≤ 19 := by
          rcases HRE.out with h | h
          · exact h
          · rw [← HR.out] at h
            omega
        obtain ⟨hm1, hm2⟩ := hm
        have HU9 : Hid (now = -1 ∨ now + imax uw dw ≤ now + imax uw dw) := .inr (Int.le_refl _)
        have HD9 : Hid (dn = -1 ∨ dn + imax uw dw ≤ now + imax uw dw) := by have := HDN.out; show _ ∨ _; omega
        have hg9 : Hid (Blk w8 g 49 (sc mn mx per sl uw dw now now dn)) := HG8.out
        by_cases i1 : mn ≤ n
        all_goals
          go_wp2
          go_roundw
          case rel => exact ⟨k + 1, n + 1, now + imax uw dw, k, now, now, dn, by omega, by go_num, by go_num, rfl, by go_num, by omega, by omega, by omega, by omega, by omega, by omega, by omega, by omega, by omega, by omega, by omega, by omega, HU9, HD9, .inl (by omega), hg9, HS8, HBe8⟩
          case measure => simp [intOf]; omega
      · subst hr1
        have hm : n - wt + k ≤ 19 ∧ wt - n + k ≤ 19 := by
          rcases HRE.out with h | h
          · exact h
          · rw [← HR.out] at h
            omega
        obtain ⟨hm1, hm2⟩ := hm
        have HU9 : Hid (up = -1 ∨ up + imax uw dw ≤ now + imax uw dw) := by have := HUP.out; show _ ∨ _; omega
        have HD9 : Hid (now = -1 ∨ now + imax uw dw ≤ now + imax uw dw) := .inr (Int.le_refl _)
        have hg9 : Hid (Blk w8 g 49 (sc mn mx per sl uw dw now up now)) := HG8.out
        by_cases i1 : n ≤ mx
        all_goals
          go_wp2
          go_roundw
          case rel => exact ⟨k + 1, n - 1, now + imax uw dw, k, now, up, now, by omega, by go_num, by go_num, rfl, by go_num, by omega, by omega, by omega, by omega, by omega, by omega, by omega, by omega, by omega, by omega, by omega, by omega, HU9, HD9, .inl (by omega), hg9, HS8, HBe8⟩
          case measure => simp [intOf]; omega
      · subst hr1
        have HU9 : Hid (up = -1 ∨ up + imax uw dw ≤ now + imax uw dw) := by have := HUP.out; show _ ∨ _; omega
        have HD9 : Hid (dn = -1 ∨ dn + imax uw dw ≤ now + imax uw dw) := by have := HDN.out; show _ ∨ _; omega
        have hg9 : Hid (Blk w8 g 49 (sc mn mx per sl uw dw now up dn)) := HG8.out
        go_wp2
        go_roundw
        case rel => exact ⟨k + 1, n, now + imax uw dw, last, now, up, dn, by omega, by go_num, by go_num, rfl, by go_num, by omega, by omega, by omega, by omega, by omega, by omega, by omega, by omega, by omega, by omega, by omega, by omega, HU9, HD9, .inr HR.out.symm, hg9, HS8, HBe8⟩
        case measure => simp [intOf]; omega
    · obtain rfl : k = 60 := by omega
      have hD := HDI.out n
      have h0 : D mn mx per sl (imin (imax ld 0) 1099511627776) n = 0 := by
        rcases HRE.out with h | h
        · omega
        · exact h
      rw [h0, want_clip mn mx per ld f5 f6 f4, HW.out] at hD
      have x0 : wt ≤ n := by omega
      have x1 : n ≤ mx := by omega
      clear hD h0
      have c0 : wr.cell? ⟨B, 0, none⟩ = some (.int .i64 mn) := HS.out.cell 0 rfl
      have c1 : wr.cell? ⟨B, 1, none⟩ = some (.int .i64 mx) := HS.out.cell 1 rfl
      go_wp2_with fail
      refine (ScW.want_any HG.out (by omega) (by omega) (by omega) (by omega) ld).mono ?_
      rintro e w6 ⟨rfl, nd, rfl⟩
      rw [HW.out]
      go_wp2_with fail
      refine alive_any.mono ?_
      rintro e w7 ⟨rfl, hb7⟩
      go_wp2
      go_ret
      refine ⟨rfl, ?_⟩
      rw [HB.out]
      exact (below_drewN HBe.out nd).trans (hb7.mono (by have := HS.out.lt; show B ≤ wr.heap.size; omega))

theorem entry (W : World) (v0 v1 v2 : Value) (g0 : Arg W (.struct (.cons (.int .i64) (.cons (.int .i64) (.cons (.int .i64) (.cons (.int .i64) (.cons (.int .i64) (.cons (.int .i64) .none))))))) v0)
    (g1 : Arg W (.int .u8) v1) (g2 : Arg W (.int .i64) v2) :
    Calls Try.prog 3 #[v0, v1, v2] W fun e w' => e = .returned (.bool true) ∧ Below W.heap.size W w' := by
  obtain ⟨lv, hv1, l1⟩ := g1
  obtain ⟨ld, hv2, _⟩ := g2
  injection hv1 with hv1
  injection hv2 with hv2
  subst hv1 hv2
  have l2 : 0 ≤ lv ∧ lv ≤ 255 := by
    simp [Lit.wf, IntKind.min, IntKind.max, IntKind.signed, IntKind.bits] at l1
    omega
  obtain ⟨cs, rfl, hl, hr⟩ := g0
  simp only [Sh.size] at hl
  match cs, hl, hr with
  | [c0, c1, c2, c3, c4, c5], _, hr =>
    simp only [Reads, Sh.size, List.take_succ_cons, List.take_zero, List.drop_succ_cons, List.drop_zero, List.cons.injEq, and_true] at hr
    obtain ⟨⟨x0, rfl, _⟩, ⟨x1, rfl, _⟩, ⟨x2, rfl, _⟩, ⟨x3, rfl, _⟩, ⟨x4, rfl, _⟩, ⟨x5, rfl, _⟩⟩ := hr
    by_cases hM : May x0 x1 x2 x3 x4 x5
    · exact law_yes hM lv ld l2.1 l2.2
    · exact law_no hM _ _
end
end Go.Proofs.Ytnefniinnjolbaa.ScZ
