/-
  Walks over the model's document: Rows.
-/
import Derived.Test.YtpcanolanhdfeaaMdF
namespace Go.Proofs.Ytpcanolanhdfeaa.MdG
open Go.RowKit Go.Proofs.Ytpcanolanhdfeaa.Kit Go.Proofs.Ytpcanolanhdfeaa.Math Go.Proofs.Ytpcanolanhdfeaa.MdR Go.Proofs.Ytpcanolanhdfeaa.MdW Go.Proofs.Ytpcanolanhdfeaa.MdT Go.Proofs.Ytpcanolanhdfeaa.MdM Go.Proofs.Ytpcanolanhdfeaa.MdN Go.Proofs.Ytpcanolanhdfeaa.MdV Go.Proofs.Ytpcanolanhdfeaa.MdL Go.Proofs.Ytpcanolanhdfeaa.MdF
attribute [local go_sem high] max_imax min_imin
attribute [local go_sem ↓] Go.wp_at_zero Go.wp_at_succ
set_option linter.unusedVariables false

section
variable {w : World}
set_option maxRecDepth 20000 in
set_option maxHeartbeats 1000000 in
theorem rrows_any {c : Cfg} {vocab dim layers : Nat} (hN : Nats c vocab dim layers) (ly wh : Int) :
    Calls Try.prog 18 #[.agg (cf c), .int .i64 ly, .int .i64 wh] w (RowsR w (rowsN layers dim ly wh) dim (rowsF c dim ly wh)) := by
  have hd0 := hN.d0
  have hdm := hN.d1
  have hl0 := hN.l0
  have hl1 := hN.l1
  have b0 := Blk.new w (cf c) 24
  have l0 := (Below.refl w.heap.size w).alloc (Nat.le_refl _) (.cells (cf c) 24)
  obtain ⟨u, HU⟩ : ∃ u, Hid (U c.seed = u) := ⟨_, rfl⟩
  have HC : Hid (cf c = #[.int .u64 u, .int .i64 c.vocab, .int .i64 dim, .int .i64 layers, .int .i64 c.top, .int .i64 c.heat]) := Lib.hid (by unfold cf; rw [HU.out, hN.ed, hN.el])
  have HR : ∀ (w : World) (t r : Nat) (ht : t ≤ 1000) (hr : r ≤ 1000), Hid (Calls Try.prog 26 #[.agg (cf c), .int .i64 t, .int .i64 r] w (Cloned w dim (wrow (tseed c t) dim r))) := fun w t r ht hr => Lib.hid (rrow_any c hN.ed (by omega) t r ht hr)
  obtain ⟨W, HW⟩ : ∃ W, Hid (w.alloc (.cells (cf c) 24) = W) := ⟨_, rfl⟩
  rw [HW.out] at b0 l0
  have HW' := HW.out
  rw [HC.out] at HW' b0 ⊢
  simp only [HC.out] at HR
  have q0 : W.cell? ⟨w.heap.size, 0, none⟩ = some (.int .u64 u) := b0.cell 0 rfl
  have q1 : W.cell? ⟨w.heap.size, 1, none⟩ = some (.int .i64 c.vocab) := b0.cell 1 rfl
  have q2 : W.cell? ⟨w.heap.size, 2, none⟩ = some (.int .i64 dim) := b0.cell 2 rfl
  have q3 : W.cell? ⟨w.heap.size, 3, none⟩ = some (.int .i64 layers) := b0.cell 3 rfl
  have q4 : W.cell? ⟨w.heap.size, 4, none⟩ = some (.int .i64 c.top) := b0.cell 4 rfl
  have q5 : W.cell? ⟨w.heap.size, 5, none⟩ = some (.int .i64 c.heat) := b0.cell 5 rfl
  have HL0 := Lib.hid l0
  have HB0 := Lib.hid b0
  clear b0 l0 HW hN
  by_cases hr : 0 ≤ ly ∧ ly < layers ∧ 0 ≤ wh ∧ wh ≤ 5
  · have e3 : rowsN layers dim ly wh = dim := if_pos hr
    rw [e3]
    unfold rowsF
    obtain ⟨ly, rfl⟩ : ∃ q : Nat, ly = q := ⟨ly.toNat, by omega⟩
    obtain ⟨wh, rfl⟩ : ∃ q : Nat, wh = q := ⟨wh.toNat, by omega⟩
    rw [Int.toNat_natCast, Int.toNat_natCast]
    have a0 : (0 : Int) ≤ (ly : Int) := by omega
    have a1 : (ly : Int) < (layers : Int) := by omega
    have a2 : (layers : Int) ≤ 4 := by omega
    have a3 : (0 : Int) ≤ (wh : Int) := by omega
    have a4 : (wh : Int) ≤ 5 := by omega
    have HRR : ∀ (w : World) (r : Nat) (hr : r ≤ 1000), Hid (Calls Try.prog 26 #[.agg #[.int .u64 u, .int .i64 c.vocab, .int .i64 dim, .int .i64 layers, .int .i64 c.top, .int .i64 c.heat], .int .i64 (2 + 6 * (ly : Int) + (wh : Int)), .int .i64 r] w (Cloned w dim (frow c dim (2 + 6 * ly + wh) r))) := fun w r hr => Lib.hid (by
      have := (HR w (2 + 6 * ly + wh) r (by omega) hr).out
      rw [show ((2 + 6 * ly + wh : Nat) : Int) = 2 + 6 * (ly : Int) + (wh : Int) by omega] at this
      have e : frow c dim (2 + 6 * ly + wh) r = wrow (tseed c (2 + 6 * ly + wh)) dim r := if_neg (by omega)
      rw [e]
      exact this)
    have d0 : (0 : Int) ≤ (dim : Int) := by omega
    have d1 : (dim : Int) ≤ 16 := by omega
    clear HR hr e3
    obtain ⟨t, HT⟩ : ∃ t, Hid (2 + 6 * ly + wh = t) := ⟨_, rfl⟩
    simp only [HT.out] at HRR
    rw [HT.out]
    have z1 : decide ((ly : Int) < 0) = false := decide_eq_false (by omega)
    have z2 : decide (layers ≤ ly) = false := decide_eq_false (by omega)
    have z3 : decide ((wh : Int) < 0) = false := decide_eq_false (by omega)
    have z4 : decide (5 < (wh : Int)) = false := decide_eq_false (by omega)
    go_enter Try.func18, Try.ntmps18
    go_wp2_with fail
    go_loopw [8, 7] (fun i v wr => ∃ (r : Nat) (a : Option Addr) (k : Nat) (L : List (Option Addr × Nat)), r ≤ dim ∧ i = .int .i64 r ∧ v = .slice a r k ∧ Hid (L.length = r) ∧ Hid (Blk wr w.heap.size 24 #[.int .u64 u, .int .i64 c.vocab, .int .i64 dim, .int .i64 layers, .int .i64 c.top, .int .i64 c.heat]) ∧ Hid (Own wr w.heap.size 32 1 a r k (sl dim L)) ∧ Hid (Tb wr w.heap.size dim L (frow c dim t)) ∧ Hid (Below w.heap.size w wr)) (fun i _ _ => dim - (intOf i).toNat)
    case atStart => exact ⟨0, _, _, [], Nat.zero_le _, rfl, rfl, Lib.hid rfl, HB0, Lib.hid (Own.none_ _ _ _ _), Lib.hid (Tb.none_ _ _ _ _), HL0⟩
    case round =>
      obtain ⟨r, a, k, L, hr, rfl, rfl, HL, HB, HO, HTb, HBe⟩ := hrel
      have t0 : wr.cell? ⟨w.heap.size, 0, none⟩ = some (.int .u64 u) := HB.out.cell 0 rfl
      have t1 : wr.cell? ⟨w.heap.size, 1, none⟩ = some (.int .i64 c.vocab) := HB.out.cell 1 rfl
      have t2 : wr.cell? ⟨w.heap.size, 2, none⟩ = some (.int .i64 dim) := HB.out.cell 2 rfl
      have t3 : wr.cell? ⟨w.heap.size, 3, none⟩ = some (.int .i64 layers) := HB.out.cell 3 rfl
      have t4 : wr.cell? ⟨w.heap.size, 4, none⟩ = some (.int .i64 c.top) := HB.out.cell 4 rfl
      have t5 : wr.cell? ⟨w.heap.size, 5, none⟩ = some (.int .i64 c.heat) := HB.out.cell 5 rfl
      clear q0 q1 q2 q3 q4 q5
      by_cases hrl : r < dim
      · have r0 : (0 : Int) ≤ (r : Int) := by omega
        have r1 : (r : Int) < (dim : Int) := by omega
        have HR1 := fun w => HRR w r (by omega)
        go_wp2_with fail
        refine (HR1 _).out.mono ?_
        rintro e w5 ⟨a5, c5, rfl, ho5, hb5⟩
        have hsz := HBe.out.size
        have HZ := Lib.hid (hb5.alloc hb5.size (.cells #[.slice a5 dim c5] 32))
        have HQ := Lib.hid (Own.alloc' ho5 (.cells #[.slice a5 dim c5] 32))
        have HOZ := Lib.hid (HO.out.chg (Chg.of_below HZ.out (fun _ => False)) (fun _ _ => id))
        have HRZ := Lib.hid (rd_new w5 (.slice a5 dim c5) 32)
        have H1C := Lib.hid (show ∀ u ∈ [Value.slice a5 dim c5], u.oneCell' = true by simp [Value.oneCell'])
        have hs5 := hb5.size
        clear ho5 hb5 t0 t1 t2 t3 t4 t5
        go_wp2_with (at_builtin; refine wpList_app rows35 (by omega) rfl (.tmp 31) (.tmp 40) rfl (B := w.heap.size) (by rfl) HOZ.out (by rfl) HRZ.out H1C.out (by omega) (by omega) (by simp; omega) ?_; intro a' c' w' hown hg hat)
        go_roundw
        case rel =>
          have hps := rows_push (f := frow c dim t) hsz HL.out HO.out HTb.out HBe.out HZ.out HQ.out hg rfl hown hsz
          have hcg := ((Chg.of_below HZ.out (fun x => ob a = some x))).trans (Chg.of_grown' hg)
          exact ⟨r + 1, a', c', _, by omega, by go_num, rfl, Lib.hid hps.1, Lib.hid (hcg.blk HB.out (HO.out.ne HB.out (by decide))), Lib.hid hps.2.1, Lib.hid hps.2.2.1, Lib.hid hps.2.2.2⟩
        case measure => simp [intOf]; omega
      · have hre : r = dim := by omega
        subst hre
        go_wp2
        go_ret
        exact ⟨a, k, L, rfl, HL.out, HO.out, HTb.out, HBe.out⟩
  · have e3 : rowsN layers dim ly wh = 0 := if_neg hr
    rw [e3]
    have FIN : RowsR w 0 dim (rowsF c dim ly wh) (.returned (.slice none 0 0)) W := ⟨none, 0, [], rfl, rfl, Own.none_ _ _ _ _, Tb.none_ _ _ _ _, HL0.out⟩
    have HF := Lib.hid FIN
    clear FIN e3 HR
    by_cases h0 : ly < 0
    · clear hr
      go_enter Try.func18, Try.ntmps18
      go_wp2
      go_ret
      exact HF.out
    · by_cases h1 : (layers : Int) ≤ ly
      · have h2 : 0 ≤ ly := by omega
        clear hr h0
        go_enter Try.func18, Try.ntmps18
        go_wp2
        go_ret
        exact HF.out
      · have h2 : 0 ≤ ly := by omega
        have h3 : ly < (layers : Int) := by omega
        by_cases h4 : wh < 0
        · clear hr h0 h1
          go_enter Try.func18, Try.ntmps18
          go_wp2
          go_ret
          exact HF.out
        · have h5 : 0 ≤ wh := by omega
          have h6 : 5 < wh := by omega
          clear hr h0 h1 h4
          go_enter Try.func18, Try.ntmps18
          go_wp2
          go_ret
          exact HF.out
end
end Go.Proofs.Ytpcanolanhdfeaa.MdG
