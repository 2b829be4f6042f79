/-
  StopNobody: a set that nobody made; a match of none.
-/
import Derived.Test.YtcjhlkndcgldjaaStT
namespace Go.Proofs.Ytcjhlkndcgldjaa.StV
open Go.RowKit Go.Proofs.Ytcjhlkndcgldjaa.Kit Go.Proofs.Ytcjhlkndcgldjaa.StP Go.Proofs.Ytcjhlkndcgldjaa.StM Go.Proofs.Ytcjhlkndcgldjaa.StN Go.Proofs.Ytcjhlkndcgldjaa.StR Go.Proofs.Ytcjhlkndcgldjaa.StE Go.Proofs.Ytcjhlkndcgldjaa.StF Go.Proofs.Ytcjhlkndcgldjaa.StG Go.Proofs.Ytcjhlkndcgldjaa.StH Go.Proofs.Ytcjhlkndcgldjaa.StI Go.Proofs.Ytcjhlkndcgldjaa.StJ Go.Proofs.Ytcjhlkndcgldjaa.StT
attribute [local go_sem high] max_imax min_imin
attribute [local go_sem ↓] Go.wp_at_zero Go.wp_at_succ
set_option linter.unusedVariables false

section
variable {w : World} {S : List Wd}
/-- A pointer of the law's list: to a set that nobody made. -/
structure Nob (w : World) (v : Option Addr) : Prop where
  no : NoSet w v
  len : v = none ∨ ∃ g, v = some ⟨g, 0, none⟩ ∧ w.cell? ⟨g, 1, none⟩ = some (.int .i64 0)
theorem Nob.on {w w' : World} {v : Option Addr} (h : Nob w v) (hb : Below w.heap.size w w') : Nob w' v :=
  ⟨h.no.on hb, h.len.imp id (fun ⟨g, h1, h2⟩ => ⟨g, h1, (hb.cell (p := ⟨g, 1, none⟩) (World.block_lt_of_cell? w _ h2)).trans h2⟩)⟩
theorem Nob.len_ {v : Option Addr} (h : Nob w v) : Calls Try.prog 13 #[.pointer v] w fun e w' => e = .returned (.int .i64 0) ∧ w = w' := by
  rcases h.len with rfl | ⟨g, rfl, h2⟩
  · exact len_nil
  · exact len_zero h2
theorem held_nil (S : List Wd) : heldOf S [] = 0 := by have := heldOf_le S []; simpa using this
set_option maxHeartbeats 1000000 in
set_option maxRecDepth 4000 in
theorem law_any {a : Option Addr} {c : Nat} (hs : StopsAt w a c S) {t : Wd} {b : Option Addr} {d : Nat} (ht : Rd w 1 b t.length d (ints t)) (hok : ∀ x ∈ t, okT x) :
    Calls Try.prog 6 #[.slice a S.length c, .slice b t.length d] w fun e w' => e = .returned (.bool true) ∧ Below w.heap.size w w' := by
  have hmax := Nat.le_trans ht.cap ht.max
  have hcap := ht.cap
  unfold maxLen at hmax
  have HS := Lib.hid hs
  have R2 := Lib.hid ht
  have HOK := Lib.hid hok
  have TF := Lib.hid (far_any hs (b := b) (m := t.length) (d := d) (by omega))
  obtain ⟨n, HN⟩ : ∃ n, Hid (t.length = n) := ⟨_, rfl⟩
  obtain ⟨sn, HSN⟩ : ∃ sn, Hid (S.length = sn) := ⟨_, rfl⟩
  clear hs ht hok
  rw [HN.out] at TF hmax hcap R2 ⊢
  rw [HSN.out] at TF ⊢
  -- the list of two
  have z1 := Blk.new w #[.pointer none, .int .i64 0] 45
  have l1 := (Below.refl w.heap.size w).alloc (Nat.le_refl _) (.cells #[.pointer none, .int .i64 0] 45)
  have z2 := z1.alloc (.cells #[.pointer none, .pointer (some ⟨w.heap.size, 0, none⟩)] 26)
  have y2 := Blk.new (w.alloc (.cells #[.pointer none, .int .i64 0] 45)) #[.pointer none, .pointer (some ⟨w.heap.size, 0, none⟩)] 26
  have l2 := l1.alloc l1.size (.cells #[.pointer none, .pointer (some ⟨w.heap.size, 0, none⟩)] 26)
  have es : (w.alloc (.cells #[.pointer none, .int .i64 0] 45)).heap.size = w.heap.size + 1 := by simp
  rw [es] at y2
  obtain ⟨W3, HW3⟩ : ∃ W3, Hid ((w.alloc (.cells #[.pointer none, .int .i64 0] 45)).alloc (.cells #[.pointer none, .pointer (some ⟨w.heap.size, 0, none⟩)] 26) = W3) := ⟨_, rfl⟩
  rw [HW3.out] at z2 y2 l2
  have HNB : Hid (∀ k, k < 2 → ∃ v, W3.cell? ⟨w.heap.size + 1, k, none⟩ = some (.pointer v) ∧ Nob W3 v) := Lib.hid (fun k hk => by
    rcases (show k = 0 ∨ k = 1 by omega) with rfl | rfl
    · exact ⟨none, y2.cell 0 rfl, .inl rfl, .inl rfl⟩
    · exact ⟨some ⟨w.heap.size, 0, none⟩, y2.cell 1 rfl, .inr ⟨w.heap.size, rfl, z2.cell 0 rfl⟩, .inr ⟨w.heap.size, rfl, z2.cell 1 rfl⟩⟩)
  have HL3 := Lib.hid l2
  have HW3' := HW3.out
  clear z1 l1 z2 y2 l2 es HW3
  go_enter Try.func6, Try.ntmps6
  go_wp2_with fail
  refine TF.out.mono ?_
  rintro e w1 ⟨⟨far, rfl, hfar⟩, rfl⟩
  cases far with
  | true =>
    clear HW3'
    go_wp2_with fail
    refine alive_any.mono ?_
    rintro e w2 ⟨rfl, hb⟩
    have HB := Lib.hid hb
    clear hb
    go_wp2
    go_ret
    exact ⟨rfl, HB.out⟩
  | false =>
    clear hfar
    go_wp2_with fail
    go_loopw [30] (fun i wr => ∃ k : Nat, k ≤ 2 ∧ i = .int .i64 k ∧ Hid (Below W3.heap.size W3 wr)) (fun i _ => 2 - (intOf i).toNat)
    case atStart => exact ⟨0, by omega, rfl, Lib.hid (Below.refl _ _)⟩
    case round =>
      obtain ⟨k, hk, rfl, HBr⟩ := hrel
      by_cases hlt : k < 2
      · obtain ⟨v, hcv, hnv⟩ := HNB.out k hlt
        have i0 : (0 : Int) ≤ (k : Int) := by omega
        have i1 : (k : Int) < 2 := by omega
        have hcv' := (HBr.out.cell (p := ⟨w.heap.size + 1, k, none⟩) (World.block_lt_of_cell? W3 _ hcv)).trans hcv
        have hn1 := hnv.on HBr.out
        have HNV := Lib.hid hnv
        have T1 := Lib.hid (findn_any (tx := t) hn1.no (by rw [HN.out]; exact rd_on (rd_on R2.out HL3.out) HBr.out))
        rw [HN.out] at T1
        clear hcv hn1 hnv HW3'
        go_wp2_with fail
        refine T1.out.mono ?_
        rintro e w4 ⟨rfl, hb4⟩
        have HB4 := Lib.hid (HBr.out.trans (hb4.mono HBr.out.size))
        clear hb4 hcv'
        have T2 := Lib.hid (start_not (HNV.out.on HB4.out).no)
        go_wp2_with fail
        refine T2.out.mono ?_
        rintro e w5 ⟨rfl, hb5⟩
        have HB5 := Lib.hid (HB4.out.trans (hb5.mono HB4.out.size))
        clear hb5
        have z1 := Blk.new w5 (mt none none) 37
        have hb2 := ((Below.refl w5.heap.size w5).alloc (Nat.le_refl _) (.cells (mt none none) 37))
        obtain ⟨gm, HGM⟩ : ∃ gm, Hid (w5.heap.size = gm) := ⟨_, rfl⟩
        have HGE : Hid (w5.heap.size ≤ gm) := Lib.hid (by rw [← HGM.out]; exact Nat.le_refl _)
        rw [HGM.out] at z1
        obtain ⟨Z, HZ⟩ : ∃ Z, Hid (w5.alloc (.cells (mt none none) 37) = Z) := ⟨_, rfl⟩
        rw [HZ.out] at z1 hb2
        have t0 : Z.cell? ⟨gm, 0, none⟩ = some (.pointer none) := z1.cell 0 rfl
        have t1 : Z.cell? ⟨gm, 1, none⟩ = some (.pointer none) := z1.cell 1 rfl
        have f0 := z1.frozen 0
        have f1 := z1.frozen 1
        have K0 : Kp w5 gm none none Z := ⟨hb2, z1⟩
        have HK3 := Lib.hid (K0.set HGE.out none none)
        have R25 := Lib.hid (rd_on (rd_on R2.out HL3.out) HB5.out)
        have HZ' := HZ.out
        have HGM' := HGM.out
        unfold StR.mt at HZ' ⊢
        clear z1 hb2 HZ HGM K0
        go_wp2_with fail
        clear t0 t1 f0 f1 HZ'
        go_loopw [44] (fun i wr => ∃ (k : Nat), k ≤ n ∧ i = .int .i64 k ∧ Hid (Kp w5 gm none none wr)) (fun i _ => n - (intOf i).toNat)
        case atStart => exact ⟨0, Nat.zero_le _, rfl, HK3⟩
        case round =>
          obtain ⟨j, hj, rfl, HK⟩ := hrel
          obtain ⟨c0, c1⟩ := HK.out.cells
          by_cases hlt2 : j < n
          · have j0 : (0 : Int) ≤ (j : Int) := by omega
            have j1 : (j : Int) < (n : Int) := by omega
            obtain ⟨b0, off, u, rfl, hu, hcu⟩ := (rd_on R25.out HK.out.below).get hlt2
            obtain ⟨t0, ht0, rfl⟩ := ints_get hu
            have TX := Lib.hid (next_none (w := wr) t0)
            clear hu ht0
            unfold StR.mt at TX
            go_wp2_with fail
            refine TX.out.mono ?_
            rintro e w10 ⟨rfl, hb10⟩
            have HK10 := Lib.hid (HK.out.on hb10)
            have r0 := HK10.out.cells.1
            have r1 := HK10.out.cells.2
            have f0 := HK10.out.var.frozen 0
            have f1 := HK10.out.var.frozen 1
            clear hb10
            go_wp2_with fail
            go_roundw
            case rel => exact ⟨j + 1, by omega, by go_num, Lib.hid (HK10.out.set HGE.out _ _)⟩
            case measure => simp [intOf]; omega
          · have TE : ∀ w' : World, Hid (Calls Try.prog 15 #[.agg #[.pointer none, .pointer none]] w' fun e w'' => e = .returned (.tuple #[.int .i64 (-1), .bool false]) ∧ Below w'.heap.size w' w'') := fun w' => Lib.hid ended_none
            have TX : ∀ w' : World, Hid (Calls Try.prog 19 #[.agg #[.pointer none, .pointer none], .int .i64 1] w' fun e w'' => e = .returned (.agg #[.pointer none, .pointer none]) ∧ Below w'.heap.size w' w'') := fun w' => Lib.hid (next_none 1)
            have TH : ∀ w' : World, Hid (Calls Try.prog 17 #[.agg #[.pointer none, .pointer none]] w' fun e w'' => e = .returned (.int .i64 0) ∧ Below w'.heap.size w' w'') := fun w' => Lib.hid held_none
            have hke : j = n := by omega
            subst hke
            clear hlt2
            go_wp2_with fail
            refine (TE _).out.mono ?_
            rintro e w6 ⟨rfl, hb6⟩
            have HK6 := Lib.hid (HK.out.on hb6)
            clear hb6 c0 c1
            go_wp2_with fail
            refine (TX _).out.mono ?_
            rintro e w7 ⟨rfl, hb7⟩
            have HK7 := Lib.hid (HK6.out.on hb7)
            clear hb7
            go_wp2_with fail
            refine (TE _).out.mono ?_
            rintro e w8 ⟨rfl, hb8⟩
            have HK8 := Lib.hid (HK7.out.on hb8)
            clear hb8
            obtain ⟨c0, c1⟩ := HK8.out.cells
            go_wp2_with fail
            refine (TH _).out.mono ?_
            rintro e w9 ⟨rfl, hb9⟩
            have HK9 := Lib.hid (HK8.out.on hb9)
            have TL := Lib.hid (Nob.len_ (HNV.out.on (HB5.out.trans (HK9.out.below.mono HB5.out.size))))
            clear hb9 c0 c1
            go_wp2_with fail
            refine TL.out.mono ?_
            rintro e w10 ⟨rfl, rfl⟩
            go_wp2_with fail
            go_roundw
            case rel => exact ⟨k + 1, by omega, by go_num, Lib.hid (HB5.out.trans (HK9.out.below.mono HB5.out.size))⟩
            case measure => simp [intOf]; omega
      · have hke : k = 2 := by omega
        subst hke
        have HBw := Lib.hid (HL3.out.trans (HBr.out.mono HL3.out.size))
        have TN := Lib.hid (new_any (HS.out.on HBw.out))
        rw [HSN.out] at TN
        clear hlt HW3'
        go_wp2_with fail
        refine TN.out.mono ?_
        rintro e w2 ⟨hb1, p, rfl, hp⟩
        have HB := Lib.hid (HBw.out.trans (hb1.mono HBw.out.size))
        clear hb1
        rcases hp with ⟨hne, rfl⟩ | ⟨h0, gs, A, cc, g0, m0, rfl, hm⟩
        · obtain ⟨q, HQ⟩ : ∃ q, Hid (newE S = q) := ⟨_, rfl⟩
          rw [HQ.out] at hne ⊢
          go_wp2_with fail
          refine alive_any.mono ?_
          rintro e w4 ⟨rfl, hb4⟩
          have HB4 := Lib.hid (HB.out.trans (hb4.mono HB.out.size))
          clear hb4
          go_wp2
          go_ret
          exact ⟨rfl, HB4.out⟩
        · rw [h0]
          have HM := Lib.hid hm
          clear hm h0
          go_wp2_with fail
          refine (start_any HM.out).mono ?_
          rintro e w1 ⟨rfl, hb1⟩
          have HM1 := Lib.hid (HM.out.on hb1)
          have HL1 := Lib.hid (HB.out.trans (hb1.mono HB.out.size))
          have R21 := Lib.hid (rd_on R2.out HL1.out)
          have z1 := Blk.new w1 (mt none none) 37
          have hb2 := ((Below.refl w1.heap.size w1).alloc (Nat.le_refl _) (.cells (mt none none) 37))
          obtain ⟨gm, HGM⟩ : ∃ gm, Hid (w1.heap.size = gm) := ⟨_, rfl⟩
          have HGE : Hid (w1.heap.size ≤ gm) := Lib.hid (by rw [← HGM.out]; exact Nat.le_refl _)
          rw [HGM.out] at z1
          obtain ⟨Z, HZ⟩ : ∃ Z, Hid (w1.alloc (.cells (mt none none) 37) = Z) := ⟨_, rfl⟩
          rw [HZ.out] at z1 hb2
          have t0 : Z.cell? ⟨gm, 0, none⟩ = some (.pointer none) := z1.cell 0 rfl
          have t1 : Z.cell? ⟨gm, 1, none⟩ = some (.pointer none) := z1.cell 1 rfl
          have f0 := z1.frozen 0
          have f1 := z1.frozen 1
          have K0 : Kp w1 gm none none Z := ⟨hb2, z1⟩
          have HK3 := Lib.hid (K0.set HGE.out (some ⟨gs, 0, none⟩) (some ⟨g0, 0, none⟩))
          have TH : ∀ w' : World, Hid (Kp w1 gm (some ⟨gs, 0, none⟩) (some ⟨g0, 0, none⟩) w') → Hid (Calls Try.prog 17 #[.agg #[.pointer (some ⟨gs, 0, none⟩), .pointer (some ⟨g0, 0, none⟩)]] w' fun e w'' => e = .returned (.int .i64 0) ∧ Below w'.heap.size w' w'') := fun w' h => Lib.hid (by
            have h1 := held_any (HM1.out.on h.out.below) (wd_nil S) HM1.out.root
            rw [held_nil] at h1
            exact h1)
          have HZ' := HZ.out
          have HGM' := HGM.out
          unfold StR.mt at HZ' ⊢
          clear z1 hb1 hb2 HZ HGM K0 HM HB HS R2
          go_upto_region 22 with (fail)
          obtain ⟨w4, HW4⟩ : ∃ w4, Hid ((Z.setCell ⟨gm, 0, none⟩ (.pointer (some ⟨gs, 0, none⟩))).setCell ⟨gm, 1, none⟩ (.pointer (some ⟨g0, 0, none⟩)) = w4) := ⟨_, rfl⟩
          rw [HW4.out] at HK3 ⊢
          clear t0 t1 f0 f1 HZ' HW4
          obtain ⟨c0, c1⟩ := HK3.out.cells
          go_wp2_with fail
          refine (TH _ HK3).out.mono ?_
          rintro e w5 ⟨rfl, hb5⟩
          have HK5 := Lib.hid (HK3.out.on hb5)
          clear hb5 c0 c1
          go_wp2_with fail
          go_loopw [108] (fun i wr => ∃ (k : Nat), k ≤ n ∧ i = .int .i64 k ∧ Hid (Kp w1 gm (some ⟨gs, 0, none⟩) (some ⟨g0, 0, none⟩) wr)) (fun i _ => n - (intOf i).toNat)
          case atStart => exact ⟨0, Nat.zero_le _, rfl, HK5⟩
          case round =>
            obtain ⟨j, hj, rfl, HK⟩ := hrel
            obtain ⟨c0, c1⟩ := HK.out.cells
            by_cases hlt2 : j < n
            · have j0 : (0 : Int) ≤ (j : Int) := by omega
              have j1 : (j : Int) < (n : Int) := by omega
              obtain ⟨b0, off, u, rfl, hu, hcu⟩ := (rd_on R21.out HK.out.below).get hlt2
              obtain ⟨t0, ht0, rfl⟩ := ints_get hu
              obtain ⟨gr, mr, hr⟩ := SetM.get HM1.out (p := lsuf S ([] ++ [t0])) (lsuf_in S _)
              have TX := Lib.hid (next_any (HM1.out.on HK.out.below) (wd_nil S) HM1.out.root (HOK.out t0 (List.mem_of_getElem? ht0)) hr)
              clear hu ht0 hr
              unfold StR.mt at TX
              go_wp2_with fail
              refine TX.out.mono ?_
              rintro e w10 ⟨rfl, hb10⟩
              have HK10 := Lib.hid (HK.out.on hb10)
              clear hb10
              go_wp2_with fail
              go_roundw
              case rel => exact ⟨j + 1, by omega, by go_num, HK10⟩
              case measure => simp [intOf]; omega
            · have hke : j = n := by omega
              subst hke
              clear hlt2
              go_wp2_with fail
              refine (TH _ HK).out.mono ?_
              rintro e w6 ⟨rfl, hb6⟩
              have HK6 := Lib.hid (HK.out.on hb6)
              clear hb6 c0 c1
              go_wp2_with fail
              refine alive_any.mono ?_
              rintro e w9 ⟨rfl, hb9⟩
              have HB9 := Lib.hid (HL1.out.trans ((HK6.out.on hb9).below.mono HL1.out.size))
              clear hb9
              go_wp2
              go_ret
              exact ⟨rfl, HB9.out⟩
theorem entry (W : World) (v0 v1 : Value) (g0 : Arg W (.slice (.slice (.int .i64))) v0) (g1 : Arg W (.slice (.int .i64)) v1) : Calls Try.prog 6 #[v0, v1] W fun e w' => e = .returned (.bool true) ∧ Below W.heap.size W w' := by
  obtain ⟨S, a, c, rfl, hs⟩ := isStops W v0 g0
  obtain ⟨t, b, d, rfl, ht, hok⟩ := rd_ints g1
  exact law_any hs ht hok
end
end Go.Proofs.Ytcjhlkndcgldjaa.StV
