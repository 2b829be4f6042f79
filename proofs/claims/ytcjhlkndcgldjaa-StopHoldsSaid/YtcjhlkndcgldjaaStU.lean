/-
  StopHolds: what is not held can be told.
-/
import Derived.Test.YtcjhlkndcgldjaaStT
namespace Go.Proofs.Ytcjhlkndcgldjaa.StU
open Go.RowKit Go.Proofs.Ytcjhlkndcgldjaa.Kit Go.Proofs.Ytcjhlkndcgldjaa.StP Go.Proofs.Ytcjhlkndcgldjaa.StM Go.Proofs.Ytcjhlkndcgldjaa.StN Go.Proofs.Ytcjhlkndcgldjaa.StR Go.Proofs.Ytcjhlkndcgldjaa.StE Go.Proofs.Ytcjhlkndcgldjaa.StF Go.Proofs.Ytcjhlkndcgldjaa.StG Go.Proofs.Ytcjhlkndcgldjaa.StH Go.Proofs.Ytcjhlkndcgldjaa.StI Go.Proofs.Ytcjhlkndcgldjaa.StJ Go.Proofs.Ytcjhlkndcgldjaa.StT
attribute [local go_sem high] max_imax min_imin
attribute [local go_sem ↓] Go.wp_at_zero Go.wp_at_succ
set_option linter.unusedVariables false

section
variable {w : World} {S : List Wd}
set_option maxHeartbeats 1000000 in
theorem law_any {a : Option Addr} {c : Nat} (hs : StopsAt w a c S) {t : Wd} {b : Option Addr} {d : Nat} (ht : Rd w 1 b t.length d (ints t)) (hok : ∀ x ∈ t, okT x) (x : Int) :
    Calls Try.prog 5 #[.slice a S.length c, .slice b t.length d, .int .i64 x] w fun e w' => e = .returned (.bool true) ∧ Below w.heap.size w w' := by
  have hmax := Nat.le_trans ht.cap ht.max
  have hcap := ht.cap
  unfold maxLen at hmax
  have HS := Lib.hid hs
  have R2 := Lib.hid ht
  have HOK := Lib.hid hok
  have TF := Lib.hid (far_any hs (b := b) (m := t.length) (d := d) (by omega))
  have TN := Lib.hid (new_any hs)
  obtain ⟨n, HN⟩ : ∃ n, Hid (t.length = n) := ⟨_, rfl⟩
  obtain ⟨sn, HSN⟩ : ∃ sn, Hid (S.length = sn) := ⟨_, rfl⟩
  obtain ⟨q, HQ⟩ : ∃ q : Nat, Hid (imin (imax x 0) (n : Int) = (q : Int)) := ⟨(imin (imax x 0) (n : Int)).toNat, Lib.hid (by unfold imin imax; split <;> split <;> omega)⟩
  have hqn : q ≤ n := by
    have h1 := HQ.out
    unfold imin imax at h1
    split at h1 <;> split at h1 <;> omega
  have hat := HQ.out
  clear hs ht hok
  rw [HN.out] at TF hmax hcap R2 ⊢
  rw [HSN.out] at TF TN ⊢
  go_enter Try.func5, Try.ntmps5
  go_wp2_with fail
  refine TF.out.mono ?_
  rintro e w1 ⟨⟨far, rfl, hfar⟩, rfl⟩
  cases far with
  | true =>
    go_wp2_with fail
    refine alive_any.mono ?_
    rintro e w2 ⟨rfl, hb⟩
    have HB := Lib.hid hb
    clear hb
    go_wp2
    go_ret
    exact ⟨rfl, HB.out⟩
  | false =>
    clear hfar
    go_wp2_with fail
    refine TN.out.mono ?_
    rintro e w2 ⟨hb1, p, rfl, hp⟩
    have HB := Lib.hid hb1
    clear hb1
    rcases hp with ⟨hne, rfl⟩ | ⟨h0, gs, A, cc, g0, m0, rfl, hm⟩
    · obtain ⟨q, HQ⟩ : ∃ q, Hid (newE S = q) := ⟨_, rfl⟩
      rw [HQ.out] at hne ⊢
      go_wp2_with fail
      refine alive_any.mono ?_
      rintro e w4 ⟨rfl, hb4⟩
      have HB4 := Lib.hid (HB.out.trans (hb4.mono HB.out.size))
      clear hb4
      go_wp2
      go_ret
      exact ⟨rfl, HB4.out⟩
    · rw [h0]
      have HM := Lib.hid hm
      clear hm h0
      go_wp2_with fail
      refine (start_any HM.out).mono ?_
      rintro e w1 ⟨rfl, hb1⟩
      have HM1 := Lib.hid (HM.out.on hb1)
      have HL1 := Lib.hid (HB.out.trans (hb1.mono HB.out.size))
      have HS1 := Lib.hid (HS.out.on HL1.out)
      have R21 := Lib.hid (rd_on R2.out HL1.out)
      have z1 := Blk.new w1 (mt none none) 37
      have hb2 := ((Below.refl w1.heap.size w1).alloc (Nat.le_refl _) (.cells (mt none none) 37))
      obtain ⟨gm, HGM⟩ : ∃ gm, Hid (w1.heap.size = gm) := ⟨_, rfl⟩
      have HGE : Hid (w1.heap.size ≤ gm) := Lib.hid (by rw [← HGM.out]; exact Nat.le_refl _)
      rw [HGM.out] at z1
      obtain ⟨Z, HZ⟩ : ∃ Z, Hid (w1.alloc (.cells (mt none none) 37) = Z) := ⟨_, rfl⟩
      rw [HZ.out] at z1 hb2
      have t0 : Z.cell? ⟨gm, 0, none⟩ = some (.pointer none) := z1.cell 0 rfl
      have t1 : Z.cell? ⟨gm, 1, none⟩ = some (.pointer none) := z1.cell 1 rfl
      have f0 := z1.frozen 0
      have f1 := z1.frozen 1
      have K0 : Kp w1 gm none none Z := ⟨hb2, z1⟩
      have HK3 := Lib.hid (K0.set HGE.out (some ⟨gs, 0, none⟩) (some ⟨g0, 0, none⟩))
      have HZ' := HZ.out
      have HGM' := HGM.out
      have q0 : (0 : Int) ≤ (q : Int) := by omega
      have q1 : (q : Int) ≤ (n : Int) := by omega
      have q2 : (n : Int) ≤ (d : Int) := by omega
      have q3 : (q : Int) ≤ (d : Int) := by omega
      unfold StR.mt at HZ' ⊢
      clear z1 hb1 hb2 HZ HGM K0 HM HB HS R2
      go_wp2_with fail
      clear t0 t1 f0 f1 HZ'
      clear hat
      go_loopw [44] (fun i wr => ∃ (k g m : Nat), k ≤ q ∧ i = .int .i64 k ∧ Hid (A (lsuf S (t.take k)) = some (g, m)) ∧ Hid (Kp w1 gm (some ⟨gs, 0, none⟩) (some ⟨g, 0, none⟩) wr)) (fun i _ => q - (intOf i).toNat)
      case atStart => exact ⟨0, g0, m0, Nat.zero_le _, rfl, Lib.hid HM1.out.root, HK3⟩
      case round =>
        obtain ⟨k, g, m, hk, rfl, HA, HK⟩ := hrel
        by_cases hlt : k < q
        · have i0 : (0 : Int) ≤ (k : Int) := by omega
          have i1 : (k : Int) < (q : Int) := by omega
          obtain ⟨c0, c1⟩ := HK.out.cells
          obtain ⟨b0, off, u, rfl, hu, hcu⟩ := (rd_on R21.out HK.out.below).get (show k < n by omega)
          obtain ⟨t0, ht0, rfl⟩ := ints_get hu
          have hls := lsuf_take (S := S) ht0
          obtain ⟨gr, mr, hr⟩ := SetM.get HM1.out (p := lsuf S (t.take (k + 1))) (lsuf_in S _)
          have TX := Lib.hid (next_any (HM1.out.on HK.out.below) (lsuf_in S _) HA.out (HOK.out t0 (List.mem_of_getElem? ht0)) (by rw [hls]; exact hr))
          have HRr := Lib.hid hr
          clear hu ht0 hls hr
          unfold StR.mt at TX
          go_wp2_with fail
          refine TX.out.mono ?_
          rintro e w10 ⟨rfl, hb10⟩
          have HK10 := Lib.hid (HK.out.on hb10)
          have r0 := HK10.out.cells.1
          have r1 := HK10.out.cells.2
          have f0 := HK10.out.var.frozen 0
          have f1 := HK10.out.var.frozen 1
          clear hb10
          go_wp2_with fail
          go_roundw
          case rel => exact ⟨k + 1, gr, mr, by omega, by go_num, HRr, Lib.hid (HK10.out.set HGE.out _ _)⟩
          case measure => simp [intOf]; omega
        · obtain rfl : q = k := by omega
          obtain ⟨c0, c1⟩ := HK.out.cells
          have TH := held_any (HM1.out.on HK.out.below) (lsuf_in S _) HA.out
          rw [heldOf_lsuf] at TH
          have hle : heldOf S (t.take q) ≤ q := by
            have := heldOf_le S (t.take q)
            simp at this
            omega
          obtain ⟨hv, HHV⟩ : ∃ x, Hid (heldOf S (t.take q) = x) := ⟨_, rfl⟩
          rw [HHV.out] at TH hle
          have TH := Lib.hid TH
          unfold StR.mt at TH
          have h1 : (0 : Int) ≤ (hv : Int) := by omega
          have h2 : (hv : Int) ≤ (q : Int) := by omega
          clear hlt
          go_wp2_with fail
          refine TH.out.mono ?_
          rintro e w5 ⟨rfl, hb5⟩
          have HK5 := Lib.hid (HK.out.on hb5)
          clear hb5 c0 c1
          go_upto_region 14 with (fail)
          obtain ⟨fr, HFR⟩ : ∃ fr : Nat, Hid ((q : Int) - hv = fr) := ⟨q - hv, Lib.hid (by omega)⟩
          rw [HFR.out]
          have h3 : (0 : Int) ≤ (fr : Int) := by omega
          have h4 : decide ((fr : Int) < 0) = false := decide_eq_false (by omega)
          clear h1 h2 hle
          by_cases hdq : d = q
          · subst hdq
            obtain rfl : n = d := by omega
            go_wp2_with fail
            go_loopw [62] (fun i wr => i = .int .i64 0 ∧ Hid (Kp w1 gm (some ⟨gs, 0, none⟩) (some ⟨g, 0, none⟩) wr)) (fun i _ => 0)
            case atStart => exact ⟨rfl, HK5⟩
            case round =>
              obtain ⟨rfl, HK6⟩ := hrel
              go_wp2_with fail
              refine alive_any.mono ?_
              rintro e w9 ⟨rfl, hb9⟩
              have HB9 := Lib.hid (HL1.out.trans ((HK6.out.on hb9).below.mono HL1.out.size))
              clear hb9
              go_wp2
              go_ret
              exact ⟨rfl, HB9.out⟩
          · have hRQ := R21.out.drop_ q (by omega)
            rw [if_neg hdq, Nat.mul_one, show (ints t).drop q = ints (t.drop q) by simp [ints]] at hRQ
            go_wp2_with fail
            obtain ⟨bq, HBQ⟩ : ∃ bq, Hid (Option.map (fun x => x.add q) b = bq) := ⟨_, rfl⟩
            rw [HBQ.out] at hRQ ⊢
            have HRQ := Lib.hid hRQ
            clear hRQ
            have HA5 := HA
            obtain ⟨ga, hga⟩ : ∃ x, x = g := ⟨_, rfl⟩
            have HK5' : Hid (Kp w1 gm (some ⟨gs, 0, none⟩) (some ⟨ga, 0, none⟩) w5) := by rw [hga]; exact HK5
            go_loopw [62] (fun i wr => ∃ (k g m : Nat), k ≤ n - q ∧ i = .int .i64 k ∧ Hid (A (lsuf S (t.take (q + k))) = some (g, m)) ∧ Hid (Kp w1 gm (some ⟨gs, 0, none⟩) (some ⟨g, 0, none⟩) wr)) (fun i _ => n - q - (intOf i).toNat)
            case atStart => exact ⟨0, g, m, Nat.zero_le _, rfl, HA, HK5⟩
            case round =>
              clear HA HK HA5 HK5 HK5' hga
              obtain ⟨k, g, m, hk, rfl, HA, HK⟩ := hrel
              by_cases hlt : k < n - q
              · have i0 : (0 : Int) ≤ (k : Int) := by omega
                have i1 : (k : Int) < ((n - q : Nat) : Int) := by omega
                have i1' : (k : Int) < (n : Int) - (q : Int) := by omega
                obtain ⟨c0, c1⟩ := HK.out.cells
                obtain ⟨b0, off, u, rfl, hu, hcu⟩ := (rd_on HRQ.out HK.out.below).get hlt
                obtain ⟨t0, ht0, rfl⟩ := ints_get hu
                rw [List.getElem?_drop] at ht0
                have hls := lsuf_take (S := S) ht0
                obtain ⟨gr, mr, hr⟩ := SetM.get HM1.out (p := lsuf S (t.take (q + k + 1))) (lsuf_in S _)
                have TX := Lib.hid (next_any (HM1.out.on HK.out.below) (lsuf_in S _) HA.out (HOK.out t0 (List.mem_of_getElem? ht0)) (by rw [hls]; exact hr))
                have HRr := Lib.hid hr
                clear hu ht0 hls hr
                unfold StR.mt at TX
                go_wp2_with fail
                refine TX.out.mono ?_
                rintro e w10 ⟨rfl, hb10⟩
                have HK10 := Lib.hid (HK.out.on hb10)
                have r0 := HK10.out.cells.1
                have r1 := HK10.out.cells.2
                have f0 := HK10.out.var.frozen 0
                have f1 := HK10.out.var.frozen 1
                have HK11 := Lib.hid (HK10.out.set HGE.out (some ⟨gs, 0, none⟩) (some ⟨gr, 0, none⟩))
                clear hb10 c0 c1
                go_upto_region 20 with (fail)
                obtain ⟨w11, HW11⟩ : ∃ w11, Hid ((w10.setCell ⟨gm, 0, none⟩ (.pointer (some ⟨gs, 0, none⟩))).setCell ⟨gm, 1, none⟩ (.pointer (some ⟨gr, 0, none⟩)) = w11) := ⟨_, rfl⟩
                rw [HW11.out] at HK11 ⊢
                clear HW11 r0 r1 f0 f1
                obtain ⟨c0, c1⟩ := HK11.out.cells
                have TE := Lib.hid (ended_any (HM1.out.on HK11.out.below) (lsuf_in S _) HRr.out)
                rw [endOf_lsuf] at TE
                unfold StR.mt at TE
                have HIS := Lib.hid (endOf_is S (t.take (q + k + 1)))
                obtain ⟨v, HV⟩ : ∃ v, Hid (endOf S (t.take (q + k + 1)) = v) := ⟨_, rfl⟩
                rw [HV.out] at TE HIS
                go_wp2_with fail
                refine TE.out.mono ?_
                rintro e w12 ⟨rfl, hb12⟩
                have HK12 := Lib.hid (HK11.out.on hb12)
                clear hb12 c0 c1
                by_cases hv0 : 0 ≤ v
                · have ed : decide (0 ≤ v) = true := decide_eq_true hv0
                  rw [ed]
                  rcases HIS.out with ⟨hv1, _⟩ | ⟨i, y, hi, rfl, hsf, _⟩
                  · omega
                  have hHolds := holds_law (S := S) (text := t) (at_ := q) (n := q + k + 1) (k := i) (x := y) (by omega) (by rw [HN.out]; omega) hi hsf
                  have hyl : y.length ≤ q + k + 1 := by
                    have := hsf.length_le
                    simp at this
                    omega
                  rw [HHV.out] at hHolds
                  obtain ⟨⟨vs, hr, hrow⟩, _⟩ := HS1.out.on HK12.out.below
                  have hil : i < sn := by rw [← HSN.out]; exact (List.getElem?_eq_some_iff.1 hi).1
                  rw [HSN.out] at hr
                  have hsm := Nat.le_trans hr.cap hr.max
                  unfold maxLen at hsm
                  obtain ⟨b1, o1, u1, rfl, hu1, hcu1⟩ := hr.get hil
                  obtain ⟨ax, cx, hvx, _⟩ := hrow i y hi
                  rw [hu1] at hvx
                  injection hvx with hvx
                  subst hvx
                  obtain ⟨yn, HYN⟩ : ∃ yn, Hid (y.length = yn) := ⟨_, rfl⟩
                  rw [HYN.out] at hcu1 hyl hHolds
                  have hfr := HFR.out
                  have j0 : (0 : Int) ≤ (i : Int) := by omega
                  have j1 : (i : Int) < (sn : Int) := by omega
                  have j2 : (fr : Int) ≤ (q : Int) + (k : Int) + 1 - (yn : Int) := by omega
                  have j3 : (0 : Int) ≤ (yn : Int) := by omega
                  have j4 : (yn : Int) ≤ (q : Int) + (k : Int) + 1 := by omega
                  have j5 : (q : Int) + (k : Int) + 1 ≤ (n : Int) := by omega
                  clear hfr hHolds hyl hr hrow hu1 hi hsf ed hv0 hsm
                  go_wp2_with fail
                  go_roundw
                  case rel => exact ⟨k + 1, gr, mr, by omega, by go_num, HRr, HK12⟩
                  case measure => simp [intOf]; omega
                · have ed : decide (0 ≤ v) = false := decide_eq_false hv0
                  rw [ed]
                  clear hv0
                  go_wp2_with fail
                  go_roundw
                  case rel => exact ⟨k + 1, gr, mr, by omega, by go_num, HRr, HK12⟩
                  case measure => simp [intOf]; omega
              · have hke : k = n - q := by omega
                subst hke
                go_wp2_with fail
                refine alive_any.mono ?_
                rintro e w9 ⟨rfl, hb9⟩
                have HB9 := Lib.hid (HL1.out.trans ((HK.out.on hb9).below.mono HL1.out.size))
                clear hb9
                go_wp2
                go_ret
                exact ⟨rfl, HB9.out⟩
theorem entry (W : World) (v0 v1 v2 : Value) (g0 : Arg W (.slice (.slice (.int .i64))) v0) (g1 : Arg W (.slice (.int .i64)) v1) (g2 : Arg W (.int .i64) v2) : Calls Try.prog 5 #[v0, v1, v2] W fun e w' => e = .returned (.bool true) ∧ Below W.heap.size W w' := by
  obtain ⟨S, a, c, rfl, hs⟩ := isStops W v0 g0
  obtain ⟨t, b, d, rfl, ht, hok⟩ := rd_ints g1
  obtain ⟨x, hx, _⟩ := g2
  injection hx with hx
  subst hx
  exact law_any hs ht hok x
end
end Go.Proofs.Ytcjhlkndcgldjaa.StU
