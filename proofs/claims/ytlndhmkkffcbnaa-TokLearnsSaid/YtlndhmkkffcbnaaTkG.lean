/-
  big; the document's sizes.
-/
import Derived.Test.YtlndhmkkffcbnaaTkF
namespace Go.Proofs.Ytlndhmkkffcbnaa.TkG
open Go.RowKit Go.Proofs.Ytlndhmkkffcbnaa.Kit Go.Proofs.Ytlndhmkkffcbnaa.TkM Go.Proofs.Ytlndhmkkffcbnaa.TkP Go.Proofs.Ytlndhmkkffcbnaa.TkQ Go.Proofs.Ytlndhmkkffcbnaa.TkW Go.Proofs.Ytlndhmkkffcbnaa.TkA Go.Proofs.Ytlndhmkkffcbnaa.TkN Go.Proofs.Ytlndhmkkffcbnaa.TkO Go.Proofs.Ytlndhmkkffcbnaa.TkL Go.Proofs.Ytlndhmkkffcbnaa.TkR Go.Proofs.Ytlndhmkkffcbnaa.TkS Go.Proofs.Ytlndhmkkffcbnaa.TkT Go.Proofs.Ytlndhmkkffcbnaa.TkU Go.Proofs.Ytlndhmkkffcbnaa.TkD Go.Proofs.Ytlndhmkkffcbnaa.TkF
attribute [local go_sem high] max_imax min_imin
attribute [local go_sem ↓] Go.wp_at_zero Go.wp_at_succ
set_option linter.unusedVariables false
section
variable {w : World}
/-- A size, out of a slice of sizes. -/
theorem size_at {w : World} {L : List Pr} {sa : Option Addr} {n c : Nat} (h : Rd w 1 sa n c (ints (szs L))) {t : Int} (h0 : 1 ≤ t) (h1 : t < 17 + (L.length : Int)) :
    ∃ b o, sa = some ⟨b, o, none⟩ ∧ (t.toNat : Int) = t ∧ t < (n : Int) ∧ w.cell? ⟨b, o + t.toNat, none⟩ = some (.int .i64 (szG (szs L) t)) := by
  have hl := szs_len L
  have hn := h.len
  rw [ints_len, hl] at hn
  obtain ⟨b, o, u, hb, hu, hc⟩ := h.get (k := t.toNat) (by omega)
  obtain ⟨v, hv, rfl⟩ := ints_get hu
  have h2 := szs_get (L := L) (t := t) (by omega) h1
  rw [h2] at hv
  injection hv with hv
  exact ⟨b, o, hb, by omega, by omega, by rw [hc, hv]⟩
def BigR (w : World) (L : List Pr) (e : Ending) (w' : World) : Prop := Below w.heap.size w w' ∧ ∃ v : Bool, e = .returned (.bool v) ∧ (v = false → ∀ t x, Xp L t x → x.length ≤ 300)
theorem small_of {L : List Pr} (hg : TkP.Good L) (h : ∀ s ∈ szs L, s ≤ 300) : ∀ t x, Xp L t x → x.length ≤ 300 := by
  intro t x hx
  have h1 := hx.size hg
  have h2 := hx.range
  have h3 := szs_get (L := L) (t := t) (by omega) h2.2
  have h4 := h _ (List.mem_of_getElem? h3)
  rw [h1] at h4
  unfold imin at h4
  split at h4 <;> omega
theorem run_zl0 (w : World) : (Instr.makeSlice 24 (.int .i64 17) (.int .i64 17)).run Try.prog w = .ok (.slice (some ⟨w.heap.size, 0, none⟩) 17 17) (w.alloc (.cells (zl 0).toArray 3)) := run_make17 w
theorem zl_len {k : Nat} (hk : k ≤ 16) : (zl k).toArray.size = 17 := by simp [zl]; omega
theorem zl_own {w : World} {g B : Nat} (hz : Blk w g 3 (zl 16).toArray) (hB : B ≤ g) : Own w B 3 1 (some ⟨g, 0, none⟩) 17 17 (ints (szs [])) :=
  own_of hz hB (Nat.le_refl _) (by unfold maxLen; omega) rfl (by rw [← zl_end]; rfl)
set_option maxHeartbeats 2000000 in
theorem big_any {a : Option Addr} {c : Nat} {L : List Pr} (h : Rd w 2 a L.length c (prs L)) (hg : TkP.Good L) (hL : L.length ≤ 1000) : Calls Try.prog 11 #[.slice a L.length c] w (BigR w L) := by
  have HR := Lib.hid h
  have HG := Lib.hid hg
  have hmk := run_zl0
  obtain ⟨n, HN⟩ : ∃ n, Hid (L.length = n) := ⟨_, Lib.hid rfl⟩
  rw [HN.out] at HR hL ⊢
  clear h hg
  go_enter Try.func11, Try.ntmps11
  go_wp2_with fail
  have HZ0 := Lib.hid (Blk.new w (zl 0).toArray 3)
  have HB0 := Lib.hid ((Below.refl _ w).alloc (Nat.le_refl _) (.cells (zl 0).toArray 3))
  obtain ⟨gb, HGB⟩ : ∃ x, Hid (w.heap.size = x) := ⟨_, Lib.hid rfl⟩
  rw [HGB.out] at HZ0 ⊢
  clear hmk
  go_loopw [4] (fun i wr => ∃ k : Nat, k ≤ 16 ∧ i = .int .i64 ((k : Int) + 1) ∧ Hid (Blk wr gb 3 (zl k).toArray) ∧ Hid (Below w.heap.size w wr)) (fun i _ => 17 - (intOf i).toNat)
  case atStart => exact ⟨0, by omega, rfl, HZ0, HB0⟩
  case round =>
    obtain ⟨k, hk, rfl, HZ, HB⟩ := hrel
    by_cases hlt : k < 16
    · have k0 : (0 : Int) ≤ (k : Int) := by omega
      have k1 : (k : Int) < 16 := by omega
      have f1 := HZ.out.frozen (k + 1)
      have hzl := zl_len hk
      obtain ⟨u, hu⟩ : ∃ u, (zl k).toArray[k + 1]? = some u := ⟨_, Array.getElem?_eq_getElem (show k + 1 < (zl k).toArray.size by omega)⟩
      have c3 := HZ.out.cell (k + 1) hu
      have HZ2 : Hid (Blk (wr.setCell ⟨gb, k + 1, none⟩ (.int .i64 1)) gb 3 (zl (k + 1)).toArray) := Lib.hid (by rw [← zl_set hlt]; exact HZ.out.set (k + 1) _)
      have HB2 : Hid (Below w.heap.size w (wr.setCell ⟨gb, k + 1, none⟩ (.int .i64 1))) := Lib.hid (HB.out.setCell (by show w.heap.size ≤ gb; rw [HGB.out]; exact Nat.le_refl _) _)
      have HLT := Lib.hid hlt
      clear hu hlt hzl
      go_wp2_with fail
      go_roundw
      case rel => exact ⟨k + 1, HLT.out, by go_num, HZ2, HB2⟩
      case measure => have := HLT.out; simp [intOf]; omega
    · obtain rfl : k = 16 := by omega
      have HO0 := Lib.hid (zl_own (B := w.heap.size) HZ.out (by rw [HGB.out]; exact Nat.le_refl _))
      clear hlt
      go_wp2_with fail
      go_loopw [3, 18] (fun v i wr => ∃ (k : Nat) (a1 : Option Addr) (c1 : Nat), k ≤ n ∧ i = .int .i64 k ∧ v = .slice a1 (17 + k) c1 ∧ Hid (Own wr w.heap.size 3 1 a1 (17 + k) c1 (ints (szs (L.take k)))) ∧ Hid (∀ s ∈ szs (L.take k), s ≤ 300) ∧ Hid (Below w.heap.size w wr)) (fun _ i _ => n - (intOf i).toNat)
      case atStart => exact ⟨0, _, _, by omega, rfl, rfl, HO0, Lib.hid (by rw [List.take_zero, szs_nil]; intro s hs; simp [szB] at hs; omega), HB⟩
      case round =>
        obtain ⟨k, a1, c1, hk, rfl, rfl, HO, HS, HB2⟩ := hrel
        by_cases hlt : k < n
        · obtain ⟨b0, off, ⟨x, y⟩, rfl, hp, hc0, hc1⟩ := rd_pair (rd_on (by omega) HR.out HB2.out) hlt
          dsimp only at hc0 hc1
          have HP := Lib.hid hp
          have hoka := HG.out k _ hp
          unfold okAt at hoka
          rw [List.length_take, Nat.min_eq_left (by have := HN.out; omega)] at hoka
          obtain ⟨ho1, ho2, ho3, ho4, _⟩ := hoka
          dsimp only at ho1 ho2 ho3 ho4
          have htl : (L.take k).length = k := by rw [List.length_take, Nat.min_eq_left (by have := HN.out; omega)]
          have HZC : Hid (Chg (fun _ => False) wr (wr.alloc (.cells #[.int .i64 x, .int .i64 y] 49))) := Lib.hid ((Chg.refl _ _).alloc _)
          have HO2 := Lib.hid (HO.out.chg HZC.out (fun _ _ => id))
          have HB3 := Lib.hid (HB2.out.trans (HZC.out.none.mono HB2.out.size))
          have bz := Blk.new wr #[.int .i64 x, .int .i64 y] 49
          obtain ⟨b1, o1, hb1, e1, l1, cx⟩ := size_at HO2.out.rd ho1 (by rw [htl]; exact ho2)
          obtain ⟨b1', o1', hb1', e2, l2, cy⟩ := size_at HO2.out.rd ho3 (by rw [htl]; exact ho4)
          subst hb1
          injection hb1' with hb1'
          injection hb1' with e3 e4
          subst e3 e4
          obtain ⟨sx, HSX⟩ : ∃ s, Hid (szG (szs (L.take k)) x = s) := ⟨_, Lib.hid rfl⟩
          obtain ⟨sy, HSY⟩ : ∃ s, Hid (szG (szs (L.take k)) y = s) := ⟨_, Lib.hid rfl⟩
          have hsx := szG_in (L.take k) x
          have hsy := szG_in (L.take k) y
          rw [HSX.out] at cx hsx
          rw [HSY.out] at cy hsy
          have hsx0 := hsx.1
          have hsx1 := hsx.2
          have hsy0 := hsy.1
          have hsy1 := hsy.2
          obtain ⟨xn, rfl⟩ : ∃ xn : Nat, x = xn := ⟨x.toNat, e1.symm⟩
          obtain ⟨yn, rfl⟩ : ∃ yn : Nat, y = yn := ⟨y.toNat, e2.symm⟩
          rw [Int.toNat_natCast] at cx cy
          have k0 : (0 : Int) ≤ (k : Int) := by omega
          have k1 : (k : Int) < (n : Int) := by omega
          have x0 : (0 : Int) ≤ (xn : Int) := by omega
          have y0 : (0 : Int) ≤ (yn : Int) := by omega
          have HLT := Lib.hid hlt
          have HLL := Lib.hid hL
          clear hp hlt e1 e2 hsx hsy htl
          go_upto_region 9 with (fail)
          obtain ⟨wp, HWP⟩ : ∃ ww, Hid (wr.alloc (.cells #[.int .i64 (xn : Int), .int .i64 (yn : Int)] 49) = ww) := ⟨_, Lib.hid rfl⟩
          obtain ⟨gp, HGP⟩ : ∃ gg, Hid (wr.heap.size = gg) := ⟨_, Lib.hid rfl⟩
          rw [HWP.out, HGP.out] at bz
          rw [HWP.out] at HO2 HB3 cx cy
          rw [HWP.out, HGP.out]
          have p0 : wp.cell? ⟨gp, 0, none⟩ = some (.int .i64 (xn : Int)) := bz.cell 0 rfl
          have p1 : wp.cell? ⟨gp, 1, none⟩ = some (.int .i64 (yn : Int)) := bz.cell 1 rfl
          clear hc0 hc1 bz
          go_big_quiet (fail)
          clear cx cy p0 p1
          by_cases hbg : 300 < sx + sy
          · have HF : Hid (∀ m, BigR w L (.returned (.bool true)) (wp.drewN m)) := Lib.hid (fun m => ⟨below_drewN HB3.out m, true, rfl, fun h => by cases h⟩)
            go_wp2_with fail
            go_ret
            exact HF.out _
          · have HST : Hid (szs (L.take (k + 1)) = szs (L.take k) ++ [sx + sy] ∧ sx + sy ≤ 300) := Lib.hid (by
              refine ⟨?_, by omega⟩
              rw [List.take_add_one, HP.out, Option.toList_some, szs_snoc]
              congr 2
              unfold szN
              dsimp only
              rw [HSX.out, HSY.out]
              unfold imin
              rw [if_neg (by omega)])
            have HWP' : Hid (Chg (fun _ => False) wp ((wp.drewN nq).alloc (.cells #[.int .i64 (sx + sy)] 3))) := Lib.hid (((Chg.refl _ _).drewN nq).alloc _)
            have HO3 := Lib.hid (HO2.out.chg HWP'.out (fun _ _ => id))
            have HZR := Lib.hid (Own.made (B := wp.heap.size) (size := 1) (wp.drewN nq) #[.int .i64 (sx + sy)] 3 1 (Nat.le_refl _) (by unfold maxLen; omega) rfl).rd
            rw [show (wp.drewN nq).heap.size = wp.heap.size from rfl] at HZR
            have H1C : Hid (∀ u ∈ [Value.int .i64 (sx + sy)], u.oneCell' = true) := Lib.hid (by simp [Value.oneCell'])
            have HSZ : Hid (w.heap.size ≤ ((wp.drewN nq).alloc (.cells #[.int .i64 (sx + sy)] 3)).heap.size) := Lib.hid (Nat.le_trans HB3.out.size HWP'.out.size)
            have HBZ := Lib.hid (HB3.out.trans (HWP'.out.none.mono HB3.out.size))
            have hle : sx + sy ≤ 300 := by omega
            have hdc : decide (300 < sx + sy) = false := by simp; omega
            clear hbg
            go_wp2_with (at_builtin; go_loud (refine wpList_app el24 (by omega) rfl (.tmp 35) (.tmp 37) rfl (B := w.heap.size) (by rfl) HO3.out (by rfl) HZR.out H1C.out (by have := HLL.out; have := HLT.out; omega) (by have := HLL.out; have := HLT.out; omega) HSZ.out ?_); intro a' c' w' hown hg hat)
            have HO4 : Hid (Own w' w.heap.size 3 1 a' (17 + (k + 1)) c' (ints (szs (L.take (k + 1))))) := Lib.hid (by
              rw [HST.out.1, ← ints_append]
              exact hown)
            have HB4 : Hid (Below w.heap.size w w') := Lib.hid ((Chg.of_grown' hg).below HBZ.out HSZ.out (fun k hk => (HO3.out.lt k hk).1))
            have HS4 : Hid (∀ s ∈ szs (L.take (k + 1)), s ≤ 300) := Lib.hid (by
              rw [HST.out.1]
              intro s hs
              rcases List.mem_append.1 hs with hs | hs
              · exact HS.out s hs
              · simp at hs
                rw [hs]
                exact HST.out.2)
            clear hown hg hat
            go_roundw
            case rel => exact ⟨_, .slice a' (17 + (k + 1)) c', _, _, .int .i64 ((k + 1 : Nat) : Int), ⟨k + 1, HLT.out, rfl, _, _, rfl, HO4, HS4, HB4⟩, rfl, rfl, rfl, rfl, by go_num⟩
            case measure => have := HLT.out; simp [intOf]; omega
        · obtain rfl : k = n := by omega
          have HF : Hid (BigR w L (.returned (.bool false)) wr) := Lib.hid (by
            have hs := HS.out
            rw [List.take_of_length_le (by have := HN.out; omega)] at hs
            exact ⟨HB2.out, false, rfl, fun _ => small_of HG.out hs⟩)
          clear hlt
          go_wp2_with fail
          go_ret
          exact HF.out
end
end Go.Proofs.Ytlndhmkkffcbnaa.TkG
