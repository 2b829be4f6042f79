/-
  Walks over the stops: Find.
-/
import Derived.Test.YtcjhlkndcgldjaaStE
namespace Go.Proofs.Ytcjhlkndcgldjaa.StF
open Go.RowKit Go.Proofs.Ytcjhlkndcgldjaa.Kit Go.Proofs.Ytcjhlkndcgldjaa.StP Go.Proofs.Ytcjhlkndcgldjaa.StM Go.Proofs.Ytcjhlkndcgldjaa.StK Go.Proofs.Ytcjhlkndcgldjaa.StN Go.Proofs.Ytcjhlkndcgldjaa.StR Go.Proofs.Ytcjhlkndcgldjaa.StE
attribute [local go_sem high] max_imax min_imin
attribute [local go_sem ↓] Go.wp_at_zero Go.wp_at_succ
set_option linter.unusedVariables false

theorem lsuf_take {S : List Wd} {tx : Wd} {i : Nat} {t : Int} (h : tx[i]? = some t) : lsuf S (lsuf S (tx.take i) ++ [t]) = lsuf S (tx.take (i + 1)) := by
  rw [lsuf_snoc, StW.take_snoc h]
theorem blk_below {w w' : World} {g : Nat} {t : TypeId} {cs : Array Value} (h : Blk w g t cs) (hb : Below w.heap.size w w') : Blk w' g t cs := (hb.block _ h.lt).trans h
/-- Both cells of a match's variable are written. -/
theorem set_two {w : World} {g : Nat} {s p s' p' : Option Addr} (h : Blk w g 37 (mt s p)) : Blk ((w.setCell ⟨g, 0, none⟩ (.pointer s')).setCell ⟨g, 1, none⟩ (.pointer p')) g 37 (mt s' p') := (h.set 0 _).set 1 _
theorem chg_two (w : World) (g : Nat) (u v : Value) : Chg (fun i => i = g) w ((w.setCell ⟨g, 0, none⟩ u).setCell ⟨g, 1, none⟩ v) := ((Chg.refl (fun i => i = g) w).set (p := ⟨g, 0, none⟩) (.inl rfl) u).set (p := ⟨g, 1, none⟩) (.inl rfl) v

section
variable {w : World} {B gs c g0 m0 : Nat} {S : List Wd} {A : Adr}
def Found (w : World) (S : List Wd) (tx : Wd) (e : Ending) (w' : World) : Prop := ∃ n k, e = .returned (.tuple #[.int .i64 n, .int .i64 k]) ∧ IsFind S tx n k ∧ Below w.heap.size w w'

set_option maxHeartbeats 1000000 in
theorem find_any (h : SetM w B gs S A c g0 m0) {tx : Wd} {a : Option Addr} {cp : Nat} (hr : Rd w 1 a tx.length cp (ints tx)) (hok : ∀ t ∈ tx, okT t) :
    Calls Try.prog 11 #[.pointer (some ⟨gs, 0, none⟩), .slice a tx.length cp] w (Found w S tx) := by
  have hmax := Nat.le_trans hr.cap hr.max
  unfold maxLen at hmax
  have HM := Lib.hid h
  have HR := Lib.hid hr
  have HOK := Lib.hid hok
  clear h hr hok
  obtain ⟨n, HN⟩ : ∃ n, Hid (tx.length = n) := ⟨_, rfl⟩
  rw [HN.out] at HR hmax ⊢
  go_enter Try.func11, Try.ntmps11
  go_wp2_with fail
  refine (start_any HM.out).mono ?_
  rintro e w1 ⟨rfl, hb1⟩
  have z1 := Blk.new w1 (mt none none) 37
  have hb2 := hb1.trans (((Below.refl w1.heap.size w1).alloc (Nat.le_refl _) (.cells (mt none none) 37)).mono hb1.size)
  obtain ⟨gm, HGM⟩ : ∃ gm, Hid (w1.heap.size = gm) := ⟨_, rfl⟩
  have hgm : w.heap.size ≤ gm := by rw [← HGM.out]; exact hb1.size
  rw [HGM.out] at z1
  obtain ⟨Z, HZ⟩ : ∃ Z, Hid (w1.alloc (.cells (mt none none) 37) = Z) := ⟨_, rfl⟩
  rw [HZ.out] at z1 hb2
  have t0 : Z.cell? ⟨gm, 0, none⟩ = some (.pointer none) := z1.cell 0 rfl
  have t1 : Z.cell? ⟨gm, 1, none⟩ = some (.pointer none) := z1.cell 1 rfl
  have f0 := z1.frozen 0
  have f1 := z1.frozen 1
  have HB3 := Lib.hid (show Blk ((Z.setCell ⟨gm, 0, none⟩ (.pointer (some ⟨gs, 0, none⟩))).setCell ⟨gm, 1, none⟩ (.pointer (some ⟨g0, 0, none⟩))) gm 37 (mt (some ⟨gs, 0, none⟩) (some ⟨g0, 0, none⟩)) from set_two z1)
  have HL3 := Lib.hid ((chg_two Z gm (.pointer (some ⟨gs, 0, none⟩)) (.pointer (some ⟨g0, 0, none⟩))).below hb2 hb2.size (fun i hi => by omega))
  have HZ' := HZ.out
  have HGM' := HGM.out
  unfold StR.mt at HZ' ⊢
  clear z1 hb1 hb2 HZ HGM
  go_wp2_with fail
  clear t0 t1 f0 f1 HZ'
  go_loopw [15] (fun i wr => ∃ (k g m : Nat), k ≤ n ∧ i = .int .i64 k ∧ Hid (A (lsuf S (tx.take k)) = some (g, m)) ∧ Hid (∀ j, 1 ≤ j → j ≤ k → endOf S (tx.take j) < 0) ∧ Hid (Blk wr gm 37 (mt (some ⟨gs, 0, none⟩) (some ⟨g, 0, none⟩))) ∧ Hid (Below w.heap.size w wr)) (fun i _ => n - (intOf i).toNat)
  case atStart => exact ⟨0, g0, m0, Nat.zero_le _, rfl, Lib.hid HM.out.root, Lib.hid (fun j h1 h2 => by omega), HB3, HL3⟩
  case round =>
    obtain ⟨k, g, m, hk, rfl, HA, HNO, HBm, HBe⟩ := hrel
    by_cases hlt : k < n
    · obtain ⟨b, off, u, rfl, hu, hcu⟩ := (rd_on HR.out HBe.out).get hlt
      obtain ⟨t, ht, rfl⟩ := ints_get hu
      have k0 : (0 : Int) ≤ (k : Int) := by omega
      have k1 : (k : Int) < (n : Int) := by omega
      have q0 : wr.cell? ⟨gm, 0, none⟩ = some (.pointer (some ⟨gs, 0, none⟩)) := HBm.out.cell 0 rfl
      have q1 : wr.cell? ⟨gm, 1, none⟩ = some (.pointer (some ⟨g, 0, none⟩)) := HBm.out.cell 1 rfl
      have hMr := HM.out.on HBe.out
      have hls := lsuf_take (S := S) ht
      obtain ⟨gr, mr, hr⟩ := SetM.get HM.out (p := lsuf S (tx.take (k + 1))) (lsuf_in S _)
      have TN := Lib.hid (next_any hMr (lsuf_in S _) HA.out (HOK.out t (List.mem_of_getElem? ht)) (by rw [hls]; exact hr))
      have HRr := Lib.hid hr
      clear hu ht hls hMr hr
      unfold StR.mt at TN
      go_wp2_with fail
      refine TN.out.mono ?_
      rintro e w5 ⟨rfl, hb5⟩
      have hBm5 := blk_below HBm.out hb5
      have r0 : w5.cell? ⟨gm, 0, none⟩ = some (.pointer (some ⟨gs, 0, none⟩)) := hBm5.cell 0 rfl
      have r1 : w5.cell? ⟨gm, 1, none⟩ = some (.pointer (some ⟨g, 0, none⟩)) := hBm5.cell 1 rfl
      have f0 := hBm5.frozen 0
      have f1 := hBm5.frozen 1
      have hb6 := HBe.out.trans (hb5.mono HBe.out.size)
      have HB6 := Lib.hid (show Blk ((w5.setCell ⟨gm, 0, none⟩ (.pointer (some ⟨gs, 0, none⟩))).setCell ⟨gm, 1, none⟩ (.pointer (some ⟨gr, 0, none⟩))) gm 37 (mt (some ⟨gs, 0, none⟩) (some ⟨gr, 0, none⟩)) from set_two hBm5)
      have HL6 := Lib.hid ((chg_two w5 gm (.pointer (some ⟨gs, 0, none⟩)) (.pointer (some ⟨gr, 0, none⟩))).below hb6 hb6.size (fun i hi => by omega))
      clear hBm5 hb5 hb6 q0 q1
      go_upto_region 6 with (fail)
      obtain ⟨w6, HW6⟩ : ∃ w6, Hid ((w5.setCell ⟨gm, 0, none⟩ (.pointer (some ⟨gs, 0, none⟩))).setCell ⟨gm, 1, none⟩ (.pointer (some ⟨gr, 0, none⟩)) = w6) := ⟨_, rfl⟩
      rw [HW6.out] at HB6 HL6 ⊢
      clear HW6 r0 r1 f0 f1
      have q0 : w6.cell? ⟨gm, 0, none⟩ = some (.pointer (some ⟨gs, 0, none⟩)) := HB6.out.cell 0 rfl
      have q1 : w6.cell? ⟨gm, 1, none⟩ = some (.pointer (some ⟨gr, 0, none⟩)) := HB6.out.cell 1 rfl
      have TE := Lib.hid (ended_any (HM.out.on HL6.out) (lsuf_in S _) HRr.out)
      rw [endOf_lsuf] at TE
      unfold StR.mt at TE
      obtain ⟨v, HV⟩ : ∃ v, Hid (endOf S (tx.take (k + 1)) = v) := ⟨_, rfl⟩
      rw [HV.out] at TE
      go_wp2_with fail
      refine TE.out.mono ?_
      rintro e w7 ⟨rfl, hb7⟩
      have HB7 := Lib.hid (blk_below HB6.out hb7)
      have HL7 := Lib.hid (HL6.out.trans (hb7.mono HL6.out.size))
      clear hb7 q0 q1
      by_cases hv : 0 ≤ v
      · have FIN : Hid (Found w S tx (.returned (.tuple #[.int .i64 ((k : Int) + 1), .int .i64 v])) w7) := Lib.hid ⟨_, _, rfl, .inr ⟨k + 1, by omega, by omega, by rw [HN.out]; omega, HV.out.symm, hv, fun j h1 h2 => HNO.out j h1 (by omega)⟩, HL7.out⟩
        have hd : decide (0 ≤ v) = true := decide_eq_true hv
        clear hv
        rw [hd]
        go_wp2_with fail
        go_ret2
        exact FIN.out
      · have hd : decide (0 ≤ v) = false := decide_eq_false hv
        have HNO2 : Hid (∀ j, 1 ≤ j → j ≤ k + 1 → endOf S (tx.take j) < 0) := Lib.hid (fun j h1 h2 => by
          rcases Nat.lt_or_ge k j with h | h
          · obtain rfl : j = k + 1 := by omega
            rw [HV.out]
            omega
          · exact HNO.out j h1 h)
        clear hv
        rw [hd]
        go_wp2_with fail
        go_roundw
        case rel => exact ⟨k + 1, gr, mr, by omega, by go_num, HRr, HNO2, HB7, HL7⟩
        case measure => simp [intOf]; omega
    · have hke : k = n := by omega
      subst hke
      have FIN : Hid (Found w S tx (.returned (.tuple #[.int .i64 (-1), .int .i64 (-1)])) wr) := Lib.hid ⟨_, _, rfl, .inl ⟨rfl, rfl, fun j h1 h2 => HNO.out j h1 (by rw [HN.out] at h2; exact h2)⟩, HBe.out⟩
      go_wp2_with fail
      go_ret2
      exact FIN.out
end
end Go.Proofs.Ytcjhlkndcgldjaa.StF
