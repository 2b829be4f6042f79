/-
  StopMatches: a match that is fed token by token.
-/
import Derived.Test.YtcjhlkndcgldjaaStJ
namespace Go.Proofs.Ytcjhlkndcgldjaa.StT
open Go.RowKit Go.Proofs.Ytcjhlkndcgldjaa.Kit Go.Proofs.Ytcjhlkndcgldjaa.StP Go.Proofs.Ytcjhlkndcgldjaa.StM Go.Proofs.Ytcjhlkndcgldjaa.StN Go.Proofs.Ytcjhlkndcgldjaa.StR Go.Proofs.Ytcjhlkndcgldjaa.StE Go.Proofs.Ytcjhlkndcgldjaa.StF Go.Proofs.Ytcjhlkndcgldjaa.StG Go.Proofs.Ytcjhlkndcgldjaa.StH Go.Proofs.Ytcjhlkndcgldjaa.StI Go.Proofs.Ytcjhlkndcgldjaa.StJ
attribute [local go_sem high] max_imax min_imin
attribute [local go_sem ↓] Go.wp_at_zero Go.wp_at_succ
set_option linter.unusedVariables false

/-- All as it was, but for what was made since; and the match's variable. -/
structure Kp (w : World) (gm : Nat) (s p : Option Addr) (w' : World) : Prop where
  below : Below w.heap.size w w'
  var : Blk w' gm 37 (mt s p)
theorem Kp.on {w w1 w2 : World} {gm : Nat} {s p : Option Addr} (h : Kp w gm s p w1) (hb : Below w1.heap.size w1 w2) : Kp w gm s p w2 := ⟨h.below.trans (hb.mono h.below.size), blk_below h.var hb⟩
theorem Kp.drewN {w w1 : World} {gm : Nat} {s p : Option Addr} (h : Kp w gm s p w1) (n : Nat) : Kp w gm s p (w1.drewN n) := h.on (below_drewN (Below.refl _ _) n)
theorem Kp.drew {w w1 : World} {gm : Nat} {s p : Option Addr} (h : Kp w gm s p w1) : Kp w gm s p w1.drew := h.on (below_drew (Below.refl _ _))
theorem Kp.set {w w1 : World} {gm : Nat} {s p : Option Addr} (h : Kp w gm s p w1) (hg : w.heap.size ≤ gm) (s' p' : Option Addr) : Kp w gm s' p' ((w1.setCell ⟨gm, 0, none⟩ (.pointer s')).setCell ⟨gm, 1, none⟩ (.pointer p')) :=
  ⟨(chg_two w1 gm (.pointer s') (.pointer p')).below h.below h.below.size (fun i hi => by omega), set_two h.var⟩
theorem Kp.cells {w w1 : World} {gm : Nat} {s p : Option Addr} (h : Kp w gm s p w1) : w1.cell? ⟨gm, 0, none⟩ = some (.pointer s) ∧ w1.cell? ⟨gm, 1, none⟩ = some (.pointer p) := ⟨h.var.cell 0 rfl, h.var.cell 1 rfl⟩

section
variable {w : World} {S : List Wd}
set_option maxHeartbeats 1000000 in
theorem law_any {a : Option Addr} {c : Nat} (hs : StopsAt w a c S) {t : Wd} {b : Option Addr} {d : Nat} (ht : Rd w 1 b t.length d (ints t)) (hok : ∀ x ∈ t, okT x) :
    Calls Try.prog 4 #[.slice a S.length c, .slice b t.length d] w fun e w' => e = .returned (.bool true) ∧ Below w.heap.size w w' := by
  have hmax := Nat.le_trans ht.cap ht.max
  have hcap := ht.cap
  unfold maxLen at hmax
  have HS := Lib.hid hs
  have R2 := Lib.hid ht
  have HOK := Lib.hid hok
  have TF := Lib.hid (far_any hs (b := b) (m := t.length) (d := d) (by omega))
  have TN := Lib.hid (new_any hs)
  obtain ⟨n, HN⟩ : ∃ n, Hid (t.length = n) := ⟨_, rfl⟩
  obtain ⟨sn, HSN⟩ : ∃ sn, Hid (S.length = sn) := ⟨_, rfl⟩
  clear hs ht hok
  rw [HN.out] at TF hmax hcap R2 ⊢
  rw [HSN.out] at TF TN ⊢
  go_enter Try.func4, Try.ntmps4
  go_wp2_with fail
  refine TF.out.mono ?_
  rintro e w1 ⟨⟨far, rfl, hfar⟩, rfl⟩
  cases far with
  | true =>
    go_wp2_with fail
    refine alive_any.mono ?_
    rintro e w2 ⟨rfl, hb⟩
    have HB := Lib.hid hb
    clear hb
    go_wp2
    go_ret
    exact ⟨rfl, HB.out⟩
  | false =>
    clear hfar
    go_wp2_with fail
    refine TN.out.mono ?_
    rintro e w2 ⟨hb1, p, rfl, hp⟩
    have HB := Lib.hid hb1
    clear hb1
    rcases hp with ⟨hne, rfl⟩ | ⟨h0, gs, A, cc, g0, m0, rfl, hm⟩
    · obtain ⟨q, HQ⟩ : ∃ q, Hid (newE S = q) := ⟨_, rfl⟩
      rw [HQ.out] at hne ⊢
      go_wp2_with fail
      refine alive_any.mono ?_
      rintro e w4 ⟨rfl, hb4⟩
      have HB4 := Lib.hid (HB.out.trans (hb4.mono HB.out.size))
      clear hb4
      go_wp2
      go_ret
      exact ⟨rfl, HB4.out⟩
    · rw [h0]
      have HM := Lib.hid hm
      clear hm h0
      go_wp2_with fail
      refine (start_any HM.out).mono ?_
      rintro e w1 ⟨rfl, hb1⟩
      have HM1 := Lib.hid (HM.out.on hb1)
      have HL1 := Lib.hid (HB.out.trans (hb1.mono HB.out.size))
      have HS1 := Lib.hid (HS.out.on HL1.out)
      have R21 := Lib.hid (rd_on R2.out HL1.out)
      have z1 := Blk.new w1 (mt none none) 37
      have hb2 := ((Below.refl w1.heap.size w1).alloc (Nat.le_refl _) (.cells (mt none none) 37))
      obtain ⟨gm, HGM⟩ : ∃ gm, Hid (w1.heap.size = gm) := ⟨_, rfl⟩
      have HGE : Hid (w1.heap.size ≤ gm) := Lib.hid (by rw [← HGM.out]; exact Nat.le_refl _)
      rw [HGM.out] at z1
      obtain ⟨Z, HZ⟩ : ∃ Z, Hid (w1.alloc (.cells (mt none none) 37) = Z) := ⟨_, rfl⟩
      rw [HZ.out] at z1 hb2
      have t0 : Z.cell? ⟨gm, 0, none⟩ = some (.pointer none) := z1.cell 0 rfl
      have t1 : Z.cell? ⟨gm, 1, none⟩ = some (.pointer none) := z1.cell 1 rfl
      have f0 := z1.frozen 0
      have f1 := z1.frozen 1
      have K0 : Kp w1 gm none none Z := ⟨hb2, z1⟩
      have HK3 := Lib.hid (K0.set HGE.out (some ⟨gs, 0, none⟩) (some ⟨g0, 0, none⟩))
      have HZ' := HZ.out
      have HGM' := HGM.out
      unfold StR.mt at HZ' ⊢
      clear z1 hb1 hb2 HZ HGM K0 HM HB HS R2
      go_wp2_with fail
      clear t0 t1 f0 f1 HZ'
      go_loopw [34] (fun i wr => ∃ (k g m : Nat), k ≤ n ∧ i = .int .i64 k ∧ Hid (A (lsuf S (t.take k)) = some (g, m)) ∧ Hid (Kp w1 gm (some ⟨gs, 0, none⟩) (some ⟨g, 0, none⟩) wr)) (fun i _ => n - (intOf i).toNat)
      case atStart => exact ⟨0, g0, m0, Nat.zero_le _, rfl, Lib.hid HM1.out.root, HK3⟩
      case round =>
        obtain ⟨k, g, m, hk, rfl, HA, HK⟩ := hrel
        obtain ⟨q0, q1⟩ := HK.out.cells
        have TE := Lib.hid (ended_any (HM1.out.on HK.out.below) (lsuf_in S _) HA.out)
        rw [endOf_lsuf] at TE
        unfold StR.mt at TE
        obtain ⟨v, HV⟩ : ∃ v, Hid (endOf S (t.take k) = v) := ⟨_, rfl⟩
        rw [HV.out] at TE
        by_cases hlt : k < n
        · have i0 : (0 : Int) ≤ (k : Int) := by omega
          have i1 : (k : Int) < (n : Int) := by omega
          have i2 : (n : Int) ≤ (d : Int) := by omega
          have i3 : (k : Int) ≤ (d : Int) := by omega
          have i4 : k ≤ d := by omega
          go_wp2_with fail
          refine TE.out.mono ?_
          rintro e w5 ⟨rfl, hb5⟩
          have HK5 := Lib.hid (HK.out.on hb5)
          have R5 := Lib.hid (by
            have h3 := (rd_on R21.out HK5.out.below).take_ k (by omega)
            rw [Nat.mul_one, ints_take] at h3
            exact h3)
          have TR := Lib.hid (rended_any (HS1.out.on HK5.out.below) R5.out)
          rw [HV.out, HSN.out] at TR
          clear hb5
          go_wp2_with fail
          refine TR.out.mono ?_
          rintro e w6 ⟨rfl, r6, rfl⟩
          have HKD := Lib.hid ((HK5.out.drewN r6).drew)
          have KEEP : Hid (∀ w' : World, Hid (Kp w1 gm (some ⟨gs, 0, none⟩) (some ⟨g, 0, none⟩) w') → w'.cell? ⟨gm, 0, none⟩ = some (.pointer (some ⟨gs, 0, none⟩)) ∧ w'.cell? ⟨gm, 1, none⟩ = some (.pointer (some ⟨g, 0, none⟩)) ∧ Hid (Kp w1 gm (some ⟨gs, 0, none⟩) (some ⟨g, 0, none⟩) w')) := Lib.hid (fun w' h => ⟨h.out.cells.1, h.out.cells.2, h⟩)
          have HH := heldOf_lsuf S (t.take k)
          obtain ⟨hv, HHV⟩ : ∃ x, Hid (heldOf S (t.take k) = x) := ⟨_, rfl⟩
          rw [HHV.out] at HH
          have TH : Hid (∀ w' : World, Hid (Kp w1 gm (some ⟨gs, 0, none⟩) (some ⟨g, 0, none⟩) w') → Calls Try.prog 17 #[.agg #[.pointer (some ⟨gs, 0, none⟩), .pointer (some ⟨g, 0, none⟩)]] w' fun e w'' => e = .returned (.int .i64 (hv : Int)) ∧ Hid (Kp w1 gm (some ⟨gs, 0, none⟩) (some ⟨g, 0, none⟩) w'')) := Lib.hid (fun w' h => by
            have h1 := held_any (HM1.out.on h.out.below) (lsuf_in S _) HA.out
            rw [HH] at h1
            exact h1.mono fun e w'' ⟨he, hb⟩ => ⟨he, Lib.hid (h.out.on hb)⟩)
          have TG : Hid (∀ w' : World, Hid (Kp w1 gm (some ⟨gs, 0, none⟩) (some ⟨g, 0, none⟩) w') → Calls Try.prog 18 #[.slice a sn c, .slice b k d] w' fun e w'' => e = .returned (.int .i64 (hv : Int)) ∧ Hid (Kp w1 gm (some ⟨gs, 0, none⟩) (some ⟨g, 0, none⟩) w'')) := Lib.hid (fun w' h => by
            have h3 := (rd_on R21.out h.out.below).take_ k (by omega)
            rw [Nat.mul_one, ints_take] at h3
            have h1 := rheld_any (HS1.out.on h.out.below) h3
            rw [HHV.out, HSN.out] at h1
            exact h1.mono fun e w'' ⟨he, q, hw⟩ => ⟨he, by subst hw; exact Lib.hid (h.out.drewN q)⟩)
          have dv : (decide (0 ≤ v)) = (decide (v ≥ 0)) := rfl
          clear HH q0 q1
          by_cases hv0 : 0 ≤ v
          · have ed : decide (0 ≤ v) = true := decide_eq_true hv0
            rw [ed]
            clear ed dv
            go_upto_region 12 with (fail)
            go_region_held3 (fun w' => w'.cell? ⟨gm, 0, none⟩ = some (.pointer (some ⟨gs, 0, none⟩)) ∧ w'.cell? ⟨gm, 1, none⟩ = some (.pointer (some ⟨g, 0, none⟩)) ∧ Hid (Kp w1 gm (some ⟨gs, 0, none⟩) (some ⟨g, 0, none⟩) w')) (exact KEEP.out _ (by assumption)) (first | (go_at_call 17; (go_loud (refine (TH.out _ (by go_split_ands; assumption)).mono ?_)); rintro e w9 ⟨rfl, hbb⟩) | (go_at_call 18; (with_reducible refine (TG.out _ (by go_split_ands; assumption)).mono ?_); rintro e w9 ⟨rfl, hbb⟩))
            go_upto_region 14 with (fail)
            have HK9 := hbb
            have HKD9 := Lib.hid hbb.out.drew
            obtain ⟨q0, q1⟩ := hbb.out.cells
            obtain ⟨b0, off, u, rfl, hu, hcu⟩ := (rd_on R21.out hbb.out.below).get hlt
            obtain ⟨t0, ht0, rfl⟩ := ints_get hu
            have hls := lsuf_take (S := S) ht0
            obtain ⟨gr, mr, hr⟩ := SetM.get HM1.out (p := lsuf S (t.take (k + 1))) (lsuf_in S _)
            have TX := Lib.hid (next_any (HM1.out.on HKD9.out.below) (lsuf_in S _) HA.out (HOK.out t0 (List.mem_of_getElem? ht0)) (by rw [hls]; exact hr))
            have HRr := Lib.hid hr
            clear hu ht0 hls hr
            unfold StR.mt at TX
            go_region_law (go_simp; (with_reducible refine TX.out.mono ?_); rintro e w10 ⟨rfl, hb10⟩; have HK10 := Lib.hid (HKD9.out.on hb10); have r0 := HK10.out.cells.1; have r1 := HK10.out.cells.2; have f0 := HK10.out.var.frozen 0; have f1 := HK10.out.var.frozen 1; clear hb10)
            all_goals (
              go_wp2
              go_roundw
              case rel => exact ⟨k + 1, gr, mr, by omega, by go_num, HRr, Lib.hid (HK10.out.set HGE.out _ _)⟩
              case measure => simp [intOf]; omega)
          · have ed : decide (0 ≤ v) = false := decide_eq_false hv0
            have hv1 : v < 0 := by omega
            have hv2 : (decide (v ≥ 0)) = false := ed
            rw [ed]
            clear dv hv0
            go_upto_region 12 with (fail)
            go_region_held3 (fun w' => w'.cell? ⟨gm, 0, none⟩ = some (.pointer (some ⟨gs, 0, none⟩)) ∧ w'.cell? ⟨gm, 1, none⟩ = some (.pointer (some ⟨g, 0, none⟩)) ∧ Hid (Kp w1 gm (some ⟨gs, 0, none⟩) (some ⟨g, 0, none⟩) w')) (exact KEEP.out _ (by assumption)) (first | (go_at_call 17; (go_loud (refine (TH.out _ (by go_split_ands; assumption)).mono ?_)); rintro e w9 ⟨rfl, hbb⟩) | (go_at_call 18; (with_reducible refine (TG.out _ (by go_split_ands; assumption)).mono ?_); rintro e w9 ⟨rfl, hbb⟩))
            go_upto_region 14 with (fail)
            have HK9 := hbb
            have HKD9 := Lib.hid hbb.out.drew
            obtain ⟨q0, q1⟩ := hbb.out.cells
            obtain ⟨b0, off, u, rfl, hu, hcu⟩ := (rd_on R21.out hbb.out.below).get hlt
            obtain ⟨t0, ht0, rfl⟩ := ints_get hu
            have hls := lsuf_take (S := S) ht0
            obtain ⟨gr, mr, hr⟩ := SetM.get HM1.out (p := lsuf S (t.take (k + 1))) (lsuf_in S _)
            have TX := Lib.hid (next_any (HM1.out.on HKD9.out.below) (lsuf_in S _) HA.out (HOK.out t0 (List.mem_of_getElem? ht0)) (by rw [hls]; exact hr))
            have HRr := Lib.hid hr
            clear hu ht0 hls hr
            unfold StR.mt at TX
            go_region_law (go_simp; (with_reducible refine TX.out.mono ?_); rintro e w10 ⟨rfl, hb10⟩; have HK10 := Lib.hid (HKD9.out.on hb10); have r0 := HK10.out.cells.1; have r1 := HK10.out.cells.2; have f0 := HK10.out.var.frozen 0; have f1 := HK10.out.var.frozen 1; clear hb10)
            all_goals (
              go_wp2
              go_roundw
              case rel => exact ⟨k + 1, gr, mr, by omega, by go_num, HRr, Lib.hid (HK10.out.set HGE.out _ _)⟩
              case measure => simp [intOf]; omega)
        · have hke : k = n := by omega
          subst hke
          go_wp2_with fail
          refine TE.out.mono ?_
          rintro e w5 ⟨rfl, hb5⟩
          have HK5 := Lib.hid (HK.out.on hb5)
          have TR := Lib.hid (rended_any (HS1.out.on HK5.out.below) (rd_on R21.out HK5.out.below))
          have et : t.take k = t := by rw [← HN.out]; exact List.take_length
          have e1 := HV.out
          rw [et] at e1
          rw [e1, HSN.out] at TR
          clear hb5
          obtain ⟨q0, q1⟩ := (HK5.out).cells
          have TH : ∀ q, Hid (Calls Try.prog 17 #[.agg (mt (some ⟨gs, 0, none⟩) (some ⟨g, 0, none⟩))] (w5.drewN q) fun e w' => e = .returned (.int .i64 (heldOf S t : Int)) ∧ Below (w5.drewN q).heap.size (w5.drewN q) w') := fun q => Lib.hid (by
            have h1 := held_any (HM1.out.on (HK5.out.drewN q).below) (lsuf_in S _) HA.out
            rw [et, heldOf_lsuf] at h1
            exact h1)
          unfold StR.mt at TH
          obtain ⟨hv, HHV⟩ : ∃ x, Hid (heldOf S t = x) := ⟨_, rfl⟩
          rw [HHV.out] at TH
          clear et e1
          go_wp2_with fail
          refine TR.out.mono ?_
          rintro e w6 ⟨rfl, q6, rfl⟩
          go_wp2_with fail
          refine (TH q6).out.mono ?_
          rintro e w7 ⟨rfl, hb7⟩
          have HK7 := Lib.hid ((HK5.out.drewN q6).on hb7)
          have TG := Lib.hid (rheld_any (HS1.out.on HK7.out.below) (rd_on R21.out HK7.out.below))
          rw [HHV.out, HSN.out] at TG
          clear hb7
          go_wp2_with fail
          refine TG.out.mono ?_
          rintro e w8 ⟨rfl, q8, rfl⟩
          go_wp2_with fail
          refine alive_any.mono ?_
          rintro e w9 ⟨rfl, hb9⟩
          have HB9 := Lib.hid (HL1.out.trans (((HK7.out.drewN q8).on hb9).below.mono HL1.out.size))
          clear hb9
          go_wp2
          go_ret
          exact ⟨rfl, HB9.out⟩
theorem entry (W : World) (v0 v1 : Value) (g0 : Arg W (.slice (.slice (.int .i64))) v0) (g1 : Arg W (.slice (.int .i64)) v1) : Calls Try.prog 4 #[v0, v1] W fun e w' => e = .returned (.bool true) ∧ Below W.heap.size W w' := by
  obtain ⟨S, a, c, rfl, hs⟩ := isStops W v0 g0
  obtain ⟨t, b, d, rfl, ht, hok⟩ := rd_ints g1
  exact law_any hs ht hok
end
end Go.Proofs.Ytcjhlkndcgldjaa.StT
