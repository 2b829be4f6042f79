/-
  Walks over the stops: Find of a set of none; alive; the arguments opened.
-/
import Derived.Test.YtcjhlkndcgldjaaStI
namespace Go.Proofs.Ytcjhlkndcgldjaa.StJ
open Go.RowKit Go.Proofs.Ytcjhlkndcgldjaa.Kit Go.Proofs.Ytcjhlkndcgldjaa.StP Go.Proofs.Ytcjhlkndcgldjaa.StM Go.Proofs.Ytcjhlkndcgldjaa.StN Go.Proofs.Ytcjhlkndcgldjaa.StR Go.Proofs.Ytcjhlkndcgldjaa.StE Go.Proofs.Ytcjhlkndcgldjaa.StF Go.Proofs.Ytcjhlkndcgldjaa.StG
attribute [local go_sem high] max_imax min_imin
attribute [local go_sem ↓] Go.wp_at_zero Go.wp_at_succ
set_option linter.unusedVariables false

section
variable {w : World}
/-- A set that nobody made. -/
def NoSet (w : World) (v : Option Addr) : Prop := v = none ∨ ∃ g, v = some ⟨g, 0, none⟩ ∧ w.cell? ⟨g, 0, none⟩ = some (.pointer none)
theorem NoSet.on {w w' : World} {v : Option Addr} (h : NoSet w v) (hb : Below w.heap.size w w') : NoSet w' v := h.imp id (fun ⟨g, h1, h2⟩ => ⟨g, h1, (hb.cell (p := ⟨g, 0, none⟩) (World.block_lt_of_cell? w _ h2)).trans h2⟩)

theorem findn_any {v : Option Addr} (h : NoSet w v) {tx : Wd} {a : Option Addr} {cp : Nat} (hr : Rd w 1 a tx.length cp (ints tx)) :
    Calls Try.prog 11 #[.pointer v, .slice a tx.length cp] w fun e w' => e = .returned (.tuple #[.int .i64 (-1), .int .i64 (-1)]) ∧ Below w.heap.size w w' := by
  have hmax := Nat.le_trans hr.cap hr.max
  unfold maxLen at hmax
  have HM := Lib.hid h
  have HR := Lib.hid hr
  clear h hr
  obtain ⟨n, HN⟩ : ∃ n, Hid (tx.length = n) := ⟨_, rfl⟩
  rw [HN.out] at HR hmax ⊢
  go_enter Try.func11, Try.ntmps11
  go_wp2_with fail
  refine (start_not HM.out).mono ?_
  rintro e w1 ⟨rfl, hb1⟩
  have z1 := Blk.new w1 (mt none none) 37
  have hb2 := hb1.trans (((Below.refl w1.heap.size w1).alloc (Nat.le_refl _) (.cells (mt none none) 37)).mono hb1.size)
  obtain ⟨gm, HGM⟩ : ∃ gm, Hid (w1.heap.size = gm) := ⟨_, rfl⟩
  have hgm : w.heap.size ≤ gm := by rw [← HGM.out]; exact hb1.size
  rw [HGM.out] at z1
  obtain ⟨Z, HZ⟩ : ∃ Z, Hid (w1.alloc (.cells (mt none none) 37) = Z) := ⟨_, rfl⟩
  rw [HZ.out] at z1 hb2
  have t0 : Z.cell? ⟨gm, 0, none⟩ = some (.pointer none) := z1.cell 0 rfl
  have t1 : Z.cell? ⟨gm, 1, none⟩ = some (.pointer none) := z1.cell 1 rfl
  have f0 := z1.frozen 0
  have f1 := z1.frozen 1
  have HB3 := Lib.hid (show Blk ((Z.setCell ⟨gm, 0, none⟩ (.pointer none)).setCell ⟨gm, 1, none⟩ (.pointer none)) gm 37 (mt none none) from set_two z1)
  have HL3 := Lib.hid ((chg_two Z gm (.pointer none) (.pointer none)).below hb2 hb2.size (fun i hi => by omega))
  have HZ' := HZ.out
  have HGM' := HGM.out
  unfold StR.mt at HZ' ⊢
  clear z1 hb1 hb2 HZ HGM
  go_wp2_with fail
  clear t0 t1 f0 f1 HZ'
  go_loopw [15] (fun i wr => ∃ (k : Nat), k ≤ n ∧ i = .int .i64 k ∧ Hid (Blk wr gm 37 (mt none none)) ∧ Hid (Below w.heap.size w wr)) (fun i _ => n - (intOf i).toNat)
  case atStart => exact ⟨0, Nat.zero_le _, rfl, HB3, HL3⟩
  case round =>
    obtain ⟨k, hk, rfl, HBm, HBe⟩ := hrel
    by_cases hlt : k < n
    · obtain ⟨b, off, u, rfl, hu, hcu⟩ := (rd_on HR.out HBe.out).get hlt
      obtain ⟨t, ht, rfl⟩ := ints_get hu
      have k0 : (0 : Int) ≤ (k : Int) := by omega
      have k1 : (k : Int) < (n : Int) := by omega
      have q0 : wr.cell? ⟨gm, 0, none⟩ = some (.pointer none) := HBm.out.cell 0 rfl
      have q1 : wr.cell? ⟨gm, 1, none⟩ = some (.pointer none) := HBm.out.cell 1 rfl
      have TN := Lib.hid (next_none (w := wr) t)
      clear hu ht
      unfold StR.mt at TN
      go_wp2_with fail
      refine TN.out.mono ?_
      rintro e w5 ⟨rfl, hb5⟩
      have hBm5 := blk_below HBm.out hb5
      have r0 : w5.cell? ⟨gm, 0, none⟩ = some (.pointer none) := hBm5.cell 0 rfl
      have r1 : w5.cell? ⟨gm, 1, none⟩ = some (.pointer none) := hBm5.cell 1 rfl
      have f0 := hBm5.frozen 0
      have f1 := hBm5.frozen 1
      have hb6 := HBe.out.trans (hb5.mono HBe.out.size)
      have HB6 := Lib.hid (show Blk ((w5.setCell ⟨gm, 0, none⟩ (.pointer none)).setCell ⟨gm, 1, none⟩ (.pointer none)) gm 37 (mt none none) from set_two hBm5)
      have HL6 := Lib.hid ((chg_two w5 gm (.pointer none) (.pointer none)).below hb6 hb6.size (fun i hi => by omega))
      clear hBm5 hb5 hb6 q0 q1
      go_upto_region 6 with (fail)
      obtain ⟨w6, HW6⟩ : ∃ w6, Hid ((w5.setCell ⟨gm, 0, none⟩ (.pointer none)).setCell ⟨gm, 1, none⟩ (.pointer none) = w6) := ⟨_, rfl⟩
      rw [HW6.out] at HB6 HL6 ⊢
      clear HW6 r0 r1 f0 f1
      have q0 : w6.cell? ⟨gm, 0, none⟩ = some (.pointer none) := HB6.out.cell 0 rfl
      have q1 : w6.cell? ⟨gm, 1, none⟩ = some (.pointer none) := HB6.out.cell 1 rfl
      have TE := Lib.hid (ended_none (w := w6))
      unfold StR.mt at TE
      go_wp2_with fail
      refine TE.out.mono ?_
      rintro e w7 ⟨rfl, hb7⟩
      have HB7 := Lib.hid (blk_below HB6.out hb7)
      have HL7 := Lib.hid (HL6.out.trans (hb7.mono HL6.out.size))
      clear hb7 q0 q1
      go_wp2_with fail
      go_roundw
      case rel => exact ⟨k + 1, by omega, by go_num, HB7, HL7⟩
      case measure => simp [intOf]; omega
    · have hke : k = n := by omega
      subst hke
      go_wp2_with fail
      go_ret2
      exact ⟨rfl, HBe.out⟩

theorem ok_small {x : Int} (h : 0 ≤ x ∧ x ≤ 100) : okT x := by
  unfold okT
  simp [Lit.wf, IntKind.min, IntKind.max, IntKind.signed, IntKind.bits]
  omega
def S2 : List Wd := [[1, 2], [2, 3]]
theorem find2 : IsFind S2 [1, 1, 2] 3 0 := .inr ⟨3, rfl, by omega, by simp, by decide, by omega, fun j h1 h2 => by
  rcases (show j = 1 ∨ j = 2 by omega) with rfl | rfl <;> decide⟩
theorem alive_any : Calls Try.prog 8 #[] w fun e w' => e = .returned (.bool true) ∧ Below w.heap.size w w' := by
  -- the two sequences
  have r0 := (Own.made (B := w.heap.size) (size := 1) w #[.int .i64 1, .int .i64 2] 3 2 (Nat.le_refl _) (by unfold maxLen; omega) rfl).rd
  have L1 : Below w.heap.size w (w.alloc (.cells #[.int .i64 1, .int .i64 2] 3)) := (Below.refl _ w).alloc (Nat.le_refl _) _
  have r1 := (Own.made (B := w.heap.size) (size := 1) (w.alloc (.cells #[.int .i64 1, .int .i64 2] 3)) #[.int .i64 2, .int .i64 3] 3 2 (by simp) (by unfold maxLen; omega) rfl).rd
  have b2 : Below (w.alloc (.cells #[.int .i64 1, .int .i64 2] 3)).heap.size (w.alloc (.cells #[.int .i64 1, .int .i64 2] 3)) ((w.alloc (.cells #[.int .i64 1, .int .i64 2] 3)).alloc (.cells #[.int .i64 2, .int .i64 3] 3)) := (Below.refl _ _).alloc (Nat.le_refl _) _
  have L2 := L1.trans (b2.mono L1.size)
  have r0' := rd_on r0 b2
  have r2 := (Own.made (B := w.heap.size) (size := 1) ((w.alloc (.cells #[.int .i64 1, .int .i64 2] 3)).alloc (.cells #[.int .i64 2, .int .i64 3] 3)) #[.slice (some ⟨w.heap.size, 0, none⟩) 2 2, .slice (some ⟨w.heap.size + 1, 0, none⟩) 2 2] 23 2 L2.size (by unfold maxLen; omega) rfl).rd
  have b3 : Below ((w.alloc (.cells #[.int .i64 1, .int .i64 2] 3)).alloc (.cells #[.int .i64 2, .int .i64 3] 3)).heap.size ((w.alloc (.cells #[.int .i64 1, .int .i64 2] 3)).alloc (.cells #[.int .i64 2, .int .i64 3] 3)) (((w.alloc (.cells #[.int .i64 1, .int .i64 2] 3)).alloc (.cells #[.int .i64 2, .int .i64 3] 3)).alloc (.cells #[.slice (some ⟨w.heap.size, 0, none⟩) 2 2, .slice (some ⟨w.heap.size + 1, 0, none⟩) 2 2] 23)) := (Below.refl _ _).alloc (Nat.le_refl _) _
  have L3 := L2.trans (b3.mono L2.size)
  have r0'' := rd_on r0' b3
  have r1' := rd_on r1 b3
  have e1 : (w.alloc (.cells #[.int .i64 1, .int .i64 2] 3)).heap.size = w.heap.size + 1 := by simp
  have e2 : ((w.alloc (.cells #[.int .i64 1, .int .i64 2] 3)).alloc (.cells #[.int .i64 2, .int .i64 3] 3)).heap.size = w.heap.size + 1 + 1 := by simp
  rw [e2] at r2
  rw [e1] at r1'
  obtain ⟨W, HW⟩ : ∃ W, Hid (((w.alloc (.cells #[.int .i64 1, .int .i64 2] 3)).alloc (.cells #[.int .i64 2, .int .i64 3] 3)).alloc (.cells #[.slice (some ⟨w.heap.size, 0, none⟩) 2 2, .slice (some ⟨w.heap.size + 1, 0, none⟩) 2 2] 23) = W) := ⟨_, rfl⟩
  rw [HW.out] at r0'' r1' r2 L3
  have hst : StopsAt W (some ⟨w.heap.size + 1 + 1, 0, none⟩) 2 S2 := by
    refine ⟨⟨_, r2, fun i x hx => ?_⟩, fun x hx t ht => ?_⟩
    · match i, hx with
      | 0, hx =>
        simp [S2] at hx
        subst hx
        exact ⟨_, 2, rfl, r0''⟩
      | 1, hx =>
        simp [S2] at hx
        subst hx
        exact ⟨_, 2, rfl, r1'⟩
      | i + 2, hx => simp [S2] at hx
    · simp [S2] at hx
      rcases hx with rfl | rfl <;> simp at ht <;> rcases ht with rfl | rfl <;> exact ok_small (by omega)
  have TN := Lib.hid (new_any hst)
  have HL3 := Lib.hid L3
  have HW' := HW.out
  clear r0 r0' r0'' r1 r1' r2 b2 b3 L1 L2 L3 e1 e2 hst HW
  go_enter Try.func8, Try.ntmps8
  go_wp2_with fail
  refine TN.out.mono ?_
  rintro e w1 ⟨hb1, p, rfl, hp⟩
  have en : newE S2 = 0 := by decide
  rcases hp with ⟨h1, _⟩ | ⟨_, gs, A, c, g0, m0, rfl, hm⟩
  · exact absurd en h1
  rw [en]
  have HM := Lib.hid hm
  have HL4 := Lib.hid (HL3.out.trans (hb1.mono HL3.out.size))
  -- the text
  have hrt := (Own.made (B := w1.heap.size) (size := 1) w1 #[.int .i64 1, .int .i64 1, .int .i64 2] 3 3 (Nat.le_refl _) (by unfold maxLen; omega) rfl).rd
  have bt : Below w1.heap.size w1 (w1.alloc (.cells #[.int .i64 1, .int .i64 1, .int .i64 2] 3)) := (Below.refl _ _).alloc (Nat.le_refl _) _
  have TF := Lib.hid (find_any (hm.on bt) (tx := [1, 1, 2]) hrt (fun t ht => by simp at ht; rcases ht with rfl | rfl <;> exact ok_small (by omega)))
  have HM2 := Lib.hid (hm.on bt)
  have HL5 := Lib.hid (HL4.out.trans (bt.mono HL4.out.size))
  clear hm hb1 hrt bt HW' en
  go_wp2_with fail
  refine TF.out.mono ?_
  rintro e w2 ⟨fn, fk, rfl, hf, hb2⟩
  obtain ⟨rfl, rfl⟩ := hf.one find2
  have HM3 := Lib.hid (HM2.out.on hb2)
  have HL6 := Lib.hid (HL5.out.trans (hb2.mono HL5.out.size))
  clear hf hb2
  go_wp2_with fail
  refine (start_any HM3.out).mono ?_
  rintro e w3 ⟨rfl, hb3⟩
  have hM4 := HM3.out.on hb3
  obtain ⟨gr, mr, hr⟩ := SetM.get hM4 (p := lsuf S2 ([] ++ [1])) (lsuf_in S2 _)
  have TX := Lib.hid (next_any hM4 (p := []) (wd_nil S2) hM4.root (t := 1) (ok_small (by omega)) hr)
  have HR := Lib.hid hr
  have HM4 := Lib.hid hM4
  have HL7 := Lib.hid (HL6.out.trans (hb3.mono HL6.out.size))
  clear hb3 hM4 hr
  unfold StR.mt at TX ⊢
  go_wp2_with fail
  refine TX.out.mono ?_
  rintro e w4 ⟨rfl, hb4⟩
  have z1 := Blk.new w4 (mt none none) 37
  have hb5 := hb4.trans (((Below.refl w4.heap.size w4).alloc (Nat.le_refl _) (.cells (mt none none) 37)).mono hb4.size)
  obtain ⟨gm, HGM⟩ : ∃ gm, Hid (w4.heap.size = gm) := ⟨_, rfl⟩
  have hgm : w3.heap.size ≤ gm := by rw [← HGM.out]; exact hb4.size
  rw [HGM.out] at z1
  obtain ⟨Z, HZ⟩ : ∃ Z, Hid (w4.alloc (.cells (mt none none) 37) = Z) := ⟨_, rfl⟩
  rw [HZ.out] at z1 hb5
  have t0 : Z.cell? ⟨gm, 0, none⟩ = some (.pointer none) := z1.cell 0 rfl
  have t1 : Z.cell? ⟨gm, 1, none⟩ = some (.pointer none) := z1.cell 1 rfl
  have f0 := z1.frozen 0
  have f1 := z1.frozen 1
  have HB6 := Lib.hid (show Blk ((Z.setCell ⟨gm, 0, none⟩ (.pointer (some ⟨gs, 0, none⟩))).setCell ⟨gm, 1, none⟩ (.pointer (some ⟨gr, 0, none⟩))) gm 37 (mt (some ⟨gs, 0, none⟩) (some ⟨gr, 0, none⟩)) from set_two z1)
  have HL8 := Lib.hid ((chg_two Z gm (.pointer (some ⟨gs, 0, none⟩)) (.pointer (some ⟨gr, 0, none⟩))).below hb5 hb5.size (fun i hi => by omega))
  have HZ' := HZ.out
  have HGM' := HGM.out
  unfold StR.mt at HZ'
  clear z1 hb4 hb5 HZ HGM
  go_upto_region 6 with (fail)
  obtain ⟨w6, HW6⟩ : ∃ w6, Hid ((Z.setCell ⟨gm, 0, none⟩ (.pointer (some ⟨gs, 0, none⟩))).setCell ⟨gm, 1, none⟩ (.pointer (some ⟨gr, 0, none⟩)) = w6) := ⟨_, rfl⟩
  rw [HW6.out] at HB6 HL8 ⊢
  clear HW6 t0 t1 f0 f1 HZ'
  have q0 : w6.cell? ⟨gm, 0, none⟩ = some (.pointer (some ⟨gs, 0, none⟩)) := HB6.out.cell 0 rfl
  have q1 : w6.cell? ⟨gm, 1, none⟩ = some (.pointer (some ⟨gr, 0, none⟩)) := HB6.out.cell 1 rfl
  have HM6 := Lib.hid (HM4.out.on HL8.out)
  have TH := Lib.hid (held_any HM6.out (lsuf_in S2 _) HR.out)
  have eh : heldOf S2 (lsuf S2 ([] ++ [1])) = 1 := by decide
  rw [eh] at TH
  unfold StR.mt at TH
  have HL9 := Lib.hid (HL7.out.trans (HL8.out.mono HL7.out.size))
  go_wp2_with fail
  refine TH.out.mono ?_
  rintro e w7 ⟨rfl, hb7⟩
  have TL := Lib.hid (len_any (HM6.out.on hb7))
  have HL10 := Lib.hid (HL9.out.trans (hb7.mono HL9.out.size))
  clear hb7 eh
  go_wp2_with fail
  refine TL.out.mono ?_
  rintro e w8 ⟨rfl, rfl⟩
  go_wp2
  go_ret
  exact ⟨rfl, HL10.out⟩

/-- The sequences that come in. -/
theorem isStops (W : World) (v : Value) (h : Arg W (.slice (.slice (.int .i64))) v) : ∃ S a c, v = .slice a (List.length S) c ∧ StopsAt W a c S := by
  obtain ⟨rows, a, c, rfl, hr, hrows⟩ := rd_of (by simp [Sh.size]) h
  have key : ∀ rows : List (List Value), (∀ row ∈ rows, row.length = (Sh.slice (.int .i64)).size ∧ Reads W (.slice (.int .i64)) row) →
      ∃ S : List Wd, S.length = rows.length ∧ (∀ (i : Nat) (x : Wd), S[i]? = some x → ∃ a' c', rows.flatten[i]? = some (.slice a' x.length c') ∧ Rd W 1 a' x.length c' (ints x)) ∧ ∀ x ∈ S, ∀ t ∈ x, okT t := by
    intro rows
    induction rows with
    | nil => exact fun _ => ⟨[], rfl, fun i x hx => by simp at hx, fun x hx => by simp at hx⟩
    | cons row rest ih =>
      intro hx
      obtain ⟨S, h1, h2, h3⟩ := ih (fun r hr => hx r (List.mem_cons_of_mem _ hr))
      obtain ⟨hl, hrd⟩ := hx row (List.mem_cons_self ..)
      match row, hl, hrd with
      | [v], _, hrd =>
        obtain ⟨l, a', c', rfl, hr', hok⟩ := rd_ints hrd
        refine ⟨l :: S, by simp [h1], fun i x hi => ?_, fun x hx' => ?_⟩
        · cases i with
          | zero =>
            simp at hi
            subst hi
            exact ⟨a', c', by simp, hr'⟩
          | succ i =>
            simp at hi
            obtain ⟨a2, c2, h4, h5⟩ := h2 i x hi
            exact ⟨a2, c2, by simpa using h4, h5⟩
        · rcases List.mem_cons.1 hx' with rfl | hx'
          · exact hok
          · exact h3 x hx'
  obtain ⟨S, h1, h2, h3⟩ := key rows hrows
  exact ⟨S, a, c, by rw [h1], ⟨⟨_, by rw [h1]; exact hr, h2⟩, h3⟩⟩
end
end Go.Proofs.Ytcjhlkndcgldjaa.StJ
