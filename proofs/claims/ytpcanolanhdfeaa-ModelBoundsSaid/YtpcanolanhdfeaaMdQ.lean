/-
  ModelTables: any configuration's model, each row and each table of it, are the document's, or refused.
-/
import Derived.Test.YtpcanolanhdfeaaMdP
import Derived.Test.YtpcanolanhdfeaaMdG
import Derived.Test.YtpcanolanhdfeaaMdE
namespace Go.Proofs.Ytpcanolanhdfeaa.MdQ
open Go.RowKit Go.Proofs.Ytpcanolanhdfeaa.Kit Go.Proofs.Ytpcanolanhdfeaa.Math Go.Proofs.Ytpcanolanhdfeaa.MdR Go.Proofs.Ytpcanolanhdfeaa.MdW Go.Proofs.Ytpcanolanhdfeaa.MdT Go.Proofs.Ytpcanolanhdfeaa.MdM Go.Proofs.Ytpcanolanhdfeaa.MdN Go.Proofs.Ytpcanolanhdfeaa.MdV Go.Proofs.Ytpcanolanhdfeaa.MdL Go.Proofs.Ytpcanolanhdfeaa.MdP
attribute [local go_sem high] max_imax min_imin
attribute [local go_sem ↓] Go.wp_at_zero Go.wp_at_succ
set_option linter.unusedVariables false
set_option linter.unusedSimpArgs false

section
variable {W : World} {B g : Nat} {c : Cfg} {vocab dim layers : Nat} {a : Option Addr} {n k : Nat} {T : List (Nat × Nat)}
theorem config_in (h : Mo W B g c vocab dim (2 + 6 * layers) a n k T) {w : World} (hb : Hid (Below W.heap.size W w)) :
    Calls Try.prog 15 #[.pointer (some ⟨g, 0, none⟩)] w fun e w' => e = .returned (.agg (cf c)) ∧ Hid (Below W.heap.size W w') := by
  have h1 := h.below hb.out
  have h2 := h1.chg0 ((Chg.refl (fun _ => False) w).alloc (.cells #[.int .u64 0, .int .i64 0, .int .i64 0, .int .i64 0, .int .i64 0, .int .i64 0] 24))
  exact (MdF.config_any h1.blk (ok_any h2 (by omega))).mono fun e w' ⟨he, hb'⟩ => ⟨he, Lib.hid (hb.out.trans (hb'.mono hb.out.size))⟩
theorem rtoken_in (hN : Nats c vocab dim layers) (r : Int) {w : World} (hb : Hid (Below W.heap.size W w)) : Calls Try.prog 16 #[.agg (cf c), .int .i64 r] w (MdP.Told W w (want c dim vocab 0 r)) :=
  (MdF.rtoken_any hN r).mono fun e w' h => told_of hb h
theorem rplace_in (hN : Nats c vocab dim layers) (r : Int) {w : World} (hb : Hid (Below W.heap.size W w)) : Calls Try.prog 17 #[.agg (cf c), .int .i64 r] w (MdP.Told W w (want c dim 256 1 r)) :=
  (MdF.rplace_any hN r).mono fun e w' h => told_of hb h
theorem rrows_in (hN : Nats c vocab dim layers) (ly wh : Int) {w : World} (hb : Hid (Below W.heap.size W w)) : Calls Try.prog 18 #[.agg (cf c), .int .i64 ly, .int .i64 wh] w (TolT W w (rowsN layers dim ly wh) dim (rowsF c dim ly wh)) :=
  (MdG.rrows_any hN ly wh).mono fun e w' h => tolT_of hb h
end

section
variable {w : World}
set_option maxHeartbeats 4000000 in
theorem law_any (c : Cfg) (x y : Int) : Calls Try.prog 4 #[.agg (cf c), .agg #[.int .i64 x, .int .i64 y]] w fun e w' => e = .returned (.bool true) ∧ Below w.heap.size w w' := by
  obtain ⟨u, HU⟩ : ∃ x, Hid (U c.seed = x) := ⟨_, rfl⟩
  have HC : Hid (cf c = #[.int .u64 u, .int .i64 c.vocab, .int .i64 c.dim, .int .i64 c.layers, .int .i64 c.top, .int .i64 c.heat]) := Lib.hid (by unfold cf; rw [HU.out])
  have B0 : Blk ((w.alloc (.cells (cf c) 24)).alloc (.cells #[.int .i64 x, .int .i64 y] 25)) w.heap.size 24 (cf c) := (Blk.new w (cf c) 24).alloc _
  have B1 : Blk ((w.alloc (.cells (cf c) 24)).alloc (.cells #[.int .i64 x, .int .i64 y] 25)) (w.heap.size + 1) 25 #[.int .i64 x, .int .i64 y] := by
    have := Blk.new (w.alloc (.cells (cf c) 24)) #[.int .i64 x, .int .i64 y] 25
    simpa using this
  have L0 : Below w.heap.size w ((w.alloc (.cells (cf c) 24)).alloc (.cells #[.int .i64 x, .int .i64 y] 25)) := ((Below.refl _ w).alloc (Nat.le_refl _) _).alloc (by simp) _
  obtain ⟨W, HW⟩ : ∃ W, Hid ((w.alloc (.cells (cf c) 24)).alloc (.cells #[.int .i64 x, .int .i64 y] 25) = W) := ⟨_, rfl⟩
  rw [HW.out] at B0 B1 L0
  have HW2 := HW.out
  rw [HC.out] at HW2
  obtain ⟨g1, HG1⟩ : ∃ g1, Hid (w.heap.size + 1 = g1) := ⟨_, rfl⟩
  have h01 : w.heap.size < g1 := by have := HG1.out; omega
  rw [HG1.out] at B1
  rw [HC.out] at B0 ⊢
  have TN := fun w => Lib.hid (new_any (w := w) c)
  have TM := fun w => Lib.hid (may_any (w := w) c)
  have TR := fun w => Lib.hid (rmay_any (w := w) c)
  have TN' := fun w => Lib.hid (TN w).out
  have TM' := fun w => Lib.hid (TM w).out
  have TR' := fun w => Lib.hid (TR w).out
  rw [HC.out] at TN' TM' TR'
  have t0 : W.cell? ⟨w.heap.size, 0, none⟩ = some (.int .u64 u) := B0.cell 0 rfl
  have t1 : W.cell? ⟨w.heap.size, 1, none⟩ = some (.int .i64 c.vocab) := B0.cell 1 rfl
  have t2 : W.cell? ⟨w.heap.size, 2, none⟩ = some (.int .i64 c.dim) := B0.cell 2 rfl
  have t3 : W.cell? ⟨w.heap.size, 3, none⟩ = some (.int .i64 c.layers) := B0.cell 3 rfl
  have t4 : W.cell? ⟨w.heap.size, 4, none⟩ = some (.int .i64 c.top) := B0.cell 4 rfl
  have t5 : W.cell? ⟨w.heap.size, 5, none⟩ = some (.int .i64 c.heat) := B0.cell 5 rfl
  have HB0 := Lib.hid B0
  have HB1 := Lib.hid B1
  have HL0 := Lib.hid L0
  clear HW B0 B1 L0 TN TM TR
  go_enter Try.func4, Try.ntmps4
  go_upto_region 1 with (fail)
  rw [HG1.out]
  go_wp2_with fail
  refine (TN' _).out.mono ?_
  rintro e w1 ⟨hb1, p1, er1, rfl, hr1⟩
  have HD0 : Hid (Blk w1 w.heap.size 24 #[.int .u64 u, .int .i64 c.vocab, .int .i64 c.dim, .int .i64 c.layers, .int .i64 c.top, .int .i64 c.heat]) := Lib.hid ((hb1.block _ HB0.out.lt).trans HB0.out)
  have HD1 : Hid (Blk w1 g1 25 #[.int .i64 x, .int .i64 y]) := Lib.hid ((hb1.block _ HB1.out.lt).trans HB1.out)
  have HDL := Lib.hid (HL0.out.trans (hb1.mono HL0.out.size))
  have HR1 := Lib.hid hr1
  clear hr1 hb1 t0 t1 t2 t3 t4 t5 TN' HW2
  have b0 := HD0.out
  have t0 : w1.cell? ⟨w.heap.size, 0, none⟩ = some (.int .u64 u) := b0.cell 0 rfl
  have t1 : w1.cell? ⟨w.heap.size, 1, none⟩ = some (.int .i64 c.vocab) := b0.cell 1 rfl
  have t2 : w1.cell? ⟨w.heap.size, 2, none⟩ = some (.int .i64 c.dim) := b0.cell 2 rfl
  have t3 : w1.cell? ⟨w.heap.size, 3, none⟩ = some (.int .i64 c.layers) := b0.cell 3 rfl
  have t4 : w1.cell? ⟨w.heap.size, 4, none⟩ = some (.int .i64 c.top) := b0.cell 4 rfl
  have t5 : w1.cell? ⟨w.heap.size, 5, none⟩ = some (.int .i64 c.heat) := b0.cell 5 rfl
  clear b0
  go_wp2_with fail
  refine (TR' _).out.mono ?_
  rintro e w' ⟨rfl, rfl⟩
  have hk1 := (Chg.refl (fun _ => False) w1).alloc (.cells #[.int .u64 u, .int .i64 c.vocab, .int .i64 c.dim, .int .i64 c.layers, .int .i64 c.top, .int .i64 c.heat] 24)
  obtain ⟨w2, HW2⟩ : ∃ w2, Hid (w1.alloc (.cells #[.int .u64 u, .int .i64 c.vocab, .int .i64 c.dim, .int .i64 c.layers, .int .i64 c.top, .int .i64 c.heat] 24) = w2) := ⟨_, rfl⟩
  rw [HW2.out] at hk1 ⊢
  have HE0 := Lib.hid (hk1.blk HD0.out id)
  have HE1 := Lib.hid (hk1.blk HD1.out id)
  have HEL := Lib.hid (HDL.out.trans (hk1.none.mono HDL.out.size))
  have HK := Lib.hid hk1.none
  clear hk1 HW2 t0 t1 t2 t3 t4 t5
  have b0 := HE0.out
  have t0 : w2.cell? ⟨w.heap.size, 0, none⟩ = some (.int .u64 u) := b0.cell 0 rfl
  have t1 : w2.cell? ⟨w.heap.size, 1, none⟩ = some (.int .i64 c.vocab) := b0.cell 1 rfl
  have t2 : w2.cell? ⟨w.heap.size, 2, none⟩ = some (.int .i64 c.dim) := b0.cell 2 rfl
  have t3 : w2.cell? ⟨w.heap.size, 3, none⟩ = some (.int .i64 c.layers) := b0.cell 3 rfl
  have t4 : w2.cell? ⟨w.heap.size, 4, none⟩ = some (.int .i64 c.top) := b0.cell 4 rfl
  have t5 : w2.cell? ⟨w.heap.size, 5, none⟩ = some (.int .i64 c.heat) := b0.cell 5 rfl
  clear b0
  go_wp2_with fail
  refine (TM' _).out.mono ?_
  rintro e w' ⟨rfl, rfl⟩
  have hk1 := (Chg.refl (fun _ => False) w2).alloc (.cells #[.int .u64 u, .int .i64 c.vocab, .int .i64 c.dim, .int .i64 c.layers, .int .i64 c.top, .int .i64 c.heat] 24)
  obtain ⟨w3, HW3⟩ : ∃ w3, Hid (w2.alloc (.cells #[.int .u64 u, .int .i64 c.vocab, .int .i64 c.dim, .int .i64 c.layers, .int .i64 c.top, .int .i64 c.heat] 24) = w3) := ⟨_, rfl⟩
  rw [HW3.out] at hk1 ⊢
  have HF0 := Lib.hid (hk1.blk HE0.out id)
  have HF1 := Lib.hid (hk1.blk HE1.out id)
  have HFL := Lib.hid (HEL.out.trans (hk1.none.mono HEL.out.size))
  have HK2 := Lib.hid (HK.out.trans (hk1.none.mono HK.out.size))
  clear hk1 HW3 t0 t1 t2 t3 t4 t5 HE0 HE1 HEL HD0 HD1 HDL
  rcases HR1.out with ⟨rfl, hm, rfl⟩ | ⟨rfl, hm, m1, vocab, dim, layers, a1, n1, k1, T1, rfl, hN, hm1⟩
  · rw [hm] at TM' ⊢
    clear hm HR1
    have b0 := HF0.out
    have t0 : w3.cell? ⟨w.heap.size, 0, none⟩ = some (.int .u64 u) := b0.cell 0 rfl
    have t1 : w3.cell? ⟨w.heap.size, 1, none⟩ = some (.int .i64 c.vocab) := b0.cell 1 rfl
    have t2 : w3.cell? ⟨w.heap.size, 2, none⟩ = some (.int .i64 c.dim) := b0.cell 2 rfl
    have t3 : w3.cell? ⟨w.heap.size, 3, none⟩ = some (.int .i64 c.layers) := b0.cell 3 rfl
    have t4 : w3.cell? ⟨w.heap.size, 4, none⟩ = some (.int .i64 c.top) := b0.cell 4 rfl
    have t5 : w3.cell? ⟨w.heap.size, 5, none⟩ = some (.int .i64 c.heat) := b0.cell 5 rfl
    clear b0
    go_wp2_with fail
    refine (TM' _).out.mono ?_
    rintro e w' ⟨rfl, rfl⟩
    have hk1 := (Chg.refl (fun _ => False) w3).alloc (.cells #[.int .u64 u, .int .i64 c.vocab, .int .i64 c.dim, .int .i64 c.layers, .int .i64 c.top, .int .i64 c.heat] 24)
    obtain ⟨w4, HW4⟩ : ∃ w4, Hid (w3.alloc (.cells #[.int .u64 u, .int .i64 c.vocab, .int .i64 c.dim, .int .i64 c.layers, .int .i64 c.top, .int .i64 c.heat] 24) = w4) := ⟨_, rfl⟩
    rw [HW4.out] at hk1 ⊢
    have HGL := Lib.hid (HFL.out.trans (hk1.none.mono HFL.out.size))
    clear hk1 HW4 t0 t1 t2 t3 t4 t5
    go_wp2_with fail
    refine alive_any.mono ?_
    rintro e w5 ⟨rfl, hb5⟩
    go_wp2
    go_ret
    exact ⟨rfl, HGL.out.trans (hb5.mono HGL.out.size)⟩
  · rw [hm] at TM' ⊢
    clear hm HR1 TM' TR'
    have hm3 := hm1.below HK2.out
    obtain ⟨w2', rfl⟩ : ∃ w2' : World, w2' = w2 := ⟨_, rfl⟩
    clear HK HK2 HB0 HB1 HL0 hm1
    rename_i w2x
    obtain ⟨w2, rfl⟩ : ∃ w2 : World, w2 = w3 := ⟨_, rfl⟩
    have b0 := HF0.out
    have b1 := HF1.out
    have u0 : w2.cell? ⟨w.heap.size, 0, none⟩ = some (.int .u64 u) := b0.cell 0 rfl
    have u1 : w2.cell? ⟨w.heap.size, 1, none⟩ = some (.int .i64 c.vocab) := b0.cell 1 rfl
    have u2 : w2.cell? ⟨w.heap.size, 2, none⟩ = some (.int .i64 c.dim) := b0.cell 2 rfl
    have u3 : w2.cell? ⟨w.heap.size, 3, none⟩ = some (.int .i64 c.layers) := b0.cell 3 rfl
    have u4 : w2.cell? ⟨w.heap.size, 4, none⟩ = some (.int .i64 c.top) := b0.cell 4 rfl
    have u5 : w2.cell? ⟨w.heap.size, 5, none⟩ = some (.int .i64 c.heat) := b0.cell 5 rfl
    have x0 : w2.cell? ⟨g1, 0, none⟩ = some (.int .i64 x) := b1.cell 0 rfl
    have x1 : w2.cell? ⟨g1, 1, none⟩ = some (.int .i64 y) := b1.cell 1 rfl
    have KEEP : Hid (∀ w' : World, Hid (Below w2.heap.size w2 w') → w'.cell? ⟨w.heap.size, 0, none⟩ = some (.int .u64 u) ∧ w'.cell? ⟨w.heap.size, 1, none⟩ = some (.int .i64 c.vocab) ∧ w'.cell? ⟨w.heap.size, 2, none⟩ = some (.int .i64 c.dim) ∧ w'.cell? ⟨w.heap.size, 3, none⟩ = some (.int .i64 c.layers) ∧ w'.cell? ⟨w.heap.size, 4, none⟩ = some (.int .i64 c.top) ∧ w'.cell? ⟨w.heap.size, 5, none⟩ = some (.int .i64 c.heat) ∧ w'.cell? ⟨g1, 0, none⟩ = some (.int .i64 x) ∧ w'.cell? ⟨g1, 1, none⟩ = some (.int .i64 y) ∧ Hid (Below w2.heap.size w2 w')) := Lib.hid (fun w' h => ⟨(h.out.cell (p := ⟨w.heap.size, 0, none⟩) b0.lt).trans u0, (h.out.cell (p := ⟨w.heap.size, 1, none⟩) b0.lt).trans u1, (h.out.cell (p := ⟨w.heap.size, 2, none⟩) b0.lt).trans u2, (h.out.cell (p := ⟨w.heap.size, 3, none⟩) b0.lt).trans u3, (h.out.cell (p := ⟨w.heap.size, 4, none⟩) b0.lt).trans u4, (h.out.cell (p := ⟨w.heap.size, 5, none⟩) b0.lt).trans u5, (h.out.cell (p := ⟨g1, 0, none⟩) b1.lt).trans x0, (h.out.cell (p := ⟨g1, 1, none⟩) b1.lt).trans x1, h⟩)
    have HFIN : Hid (∀ w', Hid (Below w2.heap.size w2 w') → Below w.heap.size w w') := Lib.hid (fun w' h => HFL.out.trans (h.out.mono HFL.out.size))
    have CF : Hid (∀ {w} (hb : Hid (Below w2.heap.size w2 w)), Calls Try.prog 15 #[.pointer (some ⟨m1, 0, none⟩)] w fun e w' => e = .returned (.agg #[.int .u64 u, .int .i64 c.vocab, .int .i64 c.dim, .int .i64 c.layers, .int .i64 c.top, .int .i64 c.heat]) ∧ Hid (Below w2.heap.size w2 w')) := Lib.hid (fun hb => by
      have := config_in hm3 hb
      rw [HC.out] at this
      exact this)
    have K1 : Hid (∀ {w} (hb : Hid (Below w2.heap.size w2 w)), Calls Try.prog 9 #[.pointer (some ⟨m1, 0, none⟩), .int .i64 x] w (MdP.Told w2 w (want c dim vocab 0 x))) := Lib.hid (fun hb => token_in hm3 hN x hb)
    have P1 : Hid (∀ {w} (hb : Hid (Below w2.heap.size w2 w)), Calls Try.prog 12 #[.pointer (some ⟨m1, 0, none⟩), .int .i64 y] w (MdP.Told w2 w (want c dim 256 1 y))) := Lib.hid (fun hb => place_in hm3 hN y hb)
    have R1 : Hid (∀ {w} (hb : Hid (Below w2.heap.size w2 w)), Calls Try.prog 11 #[.pointer (some ⟨m1, 0, none⟩), .int .i64 x, .int .i64 y] w (TolT w2 w (rowsN layers dim x y) dim (rowsF c dim x y))) := Lib.hid (fun hb => rows_in hm3 hN x y hb)
    have K2 : Hid (∀ {w} (hb : Hid (Below w2.heap.size w2 w)), Calls Try.prog 16 #[.agg #[.int .u64 u, .int .i64 c.vocab, .int .i64 c.dim, .int .i64 c.layers, .int .i64 c.top, .int .i64 c.heat], .int .i64 x] w (MdP.Told w2 w (want c dim vocab 0 x))) := Lib.hid (fun hb => by
      have := rtoken_in hN x hb
      rw [HC.out] at this
      exact this)
    have P2 : Hid (∀ {w} (hb : Hid (Below w2.heap.size w2 w)), Calls Try.prog 17 #[.agg #[.int .u64 u, .int .i64 c.vocab, .int .i64 c.dim, .int .i64 c.layers, .int .i64 c.top, .int .i64 c.heat], .int .i64 y] w (MdP.Told w2 w (want c dim 256 1 y))) := Lib.hid (fun hb => by
      have := rplace_in hN y hb
      rw [HC.out] at this
      exact this)
    have R2 : Hid (∀ {w} (hb : Hid (Below w2.heap.size w2 w)), Calls Try.prog 18 #[.agg #[.int .u64 u, .int .i64 c.vocab, .int .i64 c.dim, .int .i64 c.layers, .int .i64 c.top, .int .i64 c.heat], .int .i64 x, .int .i64 y] w (TolT w2 w (rowsN layers dim x y) dim (rowsF c dim x y))) := Lib.hid (fun hb => by
      have := rrows_in hN x y hb
      rw [HC.out] at this
      exact this)
    have HDRAW : Hid (Below w2.heap.size w2 w2.drew) := Lib.hid (below_drew (Below.refl _ _))
    obtain ⟨l1, HL1⟩ : ∃ l, Hid (want c dim vocab 0 x = l) := ⟨_, rfl⟩
    obtain ⟨l2, HL2⟩ : ∃ l, Hid (want c dim 256 1 y = l) := ⟨_, rfl⟩
    obtain ⟨nr, HNR⟩ : ∃ l, Hid (rowsN layers dim x y = l) := ⟨_, rfl⟩
    obtain ⟨fr, HFR⟩ : ∃ l, Hid (rowsF c dim x y = l) := ⟨_, rfl⟩
    rw [HL1.out] at K1 K2
    rw [HL2.out] at P1 P2
    rw [HNR.out, HFR.out] at R1 R2
    clear hN hm3 HFL HF0 HF1 b0 b1 u0 u1 u2 u3 u4 u5 x0 x1 HL1 HL2 HNR HFR HC HU HG1
    go_upto_region 5 with (fail)
    go_region_held3 (fun w' => w'.cell? ⟨w.heap.size, 0, none⟩ = some (.int .u64 u) ∧ w'.cell? ⟨w.heap.size, 1, none⟩ = some (.int .i64 c.vocab) ∧ w'.cell? ⟨w.heap.size, 2, none⟩ = some (.int .i64 c.dim) ∧ w'.cell? ⟨w.heap.size, 3, none⟩ = some (.int .i64 c.layers) ∧ w'.cell? ⟨w.heap.size, 4, none⟩ = some (.int .i64 c.top) ∧ w'.cell? ⟨w.heap.size, 5, none⟩ = some (.int .i64 c.heat) ∧ w'.cell? ⟨g1, 0, none⟩ = some (.int .i64 x) ∧ w'.cell? ⟨g1, 1, none⟩ = some (.int .i64 y) ∧ Hid (Below w2.heap.size w2 w')) (exact KEEP.out _ (by assumption)) (first | (go_at_call 15; (with_reducible refine (CF.out (by go_split_ands; assumption)).mono ?_); rintro e w9 ⟨rfl, hbb⟩) | (go_at_call 9; (with_reducible refine (K1.out (by go_split_ands; assumption)).mono ?_); rintro e w9 ⟨aHA1, cHA1, rfl, hrHA1, hbb, hbc⟩; (try have HA2 := Lib.hid (rd_on HA2.out hbc)); have HA1 := Lib.hid hrHA1; clear hrHA1 hbc) | (go_at_call 16; (with_reducible refine (K2.out (by go_split_ands; assumption)).mono ?_); rintro e w9 ⟨aHA2, cHA2, rfl, hrHA2, hbb, hbc⟩; (try have HA1 := Lib.hid (rd_on HA1.out hbc)); have HA2 := Lib.hid hrHA2; clear hrHA2 hbc) | (go_at_call 12; (with_reducible refine (P1.out (by go_split_ands; assumption)).mono ?_); rintro e w9 ⟨aHA1, cHA1, rfl, hrHA1, hbb, hbc⟩; (try have HA2 := Lib.hid (rd_on HA2.out hbc)); have HA1 := Lib.hid hrHA1; clear hrHA1 hbc) | (go_at_call 17; (with_reducible refine (P2.out (by go_split_ands; assumption)).mono ?_); rintro e w9 ⟨aHA2, cHA2, rfl, hrHA2, hbb, hbc⟩; (try have HA1 := Lib.hid (rd_on HA1.out hbc)); have HA2 := Lib.hid hrHA2; clear hrHA2 hbc) | (go_at_call 8; (with_reducible refine (same_in (by go_split_ands; assumption) HA1 HA2).mono ?_); rintro e w9 ⟨rfl, hbb⟩) | (go_at_call 11; (with_reducible refine (R1.out (by go_split_ands; assumption)).mono ?_); rintro e w9 ⟨aHQ1, cHQ1, rfl, hrHQ1, hbb, hbc⟩; (try have HQ2 := Lib.hid (Tl.below HQ2.out hbc)); have HQ1 := Lib.hid hrHQ1; clear hrHQ1 hbc) | (go_at_call 18; (with_reducible refine (R2.out (by go_split_ands; assumption)).mono ?_); rintro e w9 ⟨aHQ2, cHQ2, rfl, hrHQ2, hbb, hbc⟩; (try have HQ1 := Lib.hid (Tl.below HQ1.out hbc)); have HQ2 := Lib.hid hrHQ2; clear hrHQ2 hbc) | (go_at_call 10; (with_reducible refine (rows_same_in (by go_split_ands; assumption) HQ1 HQ2).mono ?_); rintro e w9 ⟨rfl, hbb⟩) | (go_at_call 7; (with_reducible refine (alive_in (by go_split_ands; assumption)).mono ?_); rintro e w9 ⟨rfl, hbb⟩))
    all_goals go_wp2
    all_goals go_ret
    all_goals exact ⟨rfl, HFIN.out _ (by assumption)⟩
theorem entry (W : World) (v0 v1 : Value) (g0 : Arg W MdE.cfgSh v0) (g1 : Arg W (.arr 2 (.int .i64)) v1) : Calls Try.prog 4 #[v0, v1] W fun e w' => e = .returned (.bool true) ∧ Below W.heap.size W w' := by
  obtain ⟨c, rfl⟩ := MdE.isCfg W v0 g0
  obtain ⟨x, y, rfl⟩ := MdE.isTwo W v1 g1
  exact law_any c x y
end
end Go.Proofs.Ytpcanolanhdfeaa.MdQ
