/-
  ProbeUp: one that always answers in time is up behind Hit questions, and stays so; one that answers no more is down behind Miss questions.
-/
import Derived.Test.YtandaanfdpedhaaPrA
import Derived.Test.YtandaanfdpedhaaOpen
import Derived.Deep.RegionHeld3
import Derived.Deep.CutBlock
namespace Go.Proofs.Ytandaanfdpedhaa.PrU
open Go.RowKit Go.Proofs.Ytandaanfdpedhaa.Kit Go.Proofs.Ytandaanfdpedhaa.PrP Go.Proofs.Ytandaanfdpedhaa.PrN
open Go.Proofs.Ytandaanfdpedhaa.PrW (pc)
attribute [local go_sem high] max_imax min_imin
set_option linter.unusedVariables false

/-- A prober ahead of a question at the time t, the i-th in the first loop: nothing is open. -/
structure One (ev ms ht : Int) (i : Int) (t : Int) (p : Pb) : Prop where
  inv : Inv ms ht p
  i0 : 0 ≤ i
  t0 : 0 ≤ t
  t1 : t ≤ i * 4294967296
  now : p.now ≤ t
  next : p.next ≤ t
  ends : p.ends = -1
  asked : p.asked ≤ i
  miss : p.miss = 0
  hit : i < ht → p.hit = i ∧ p.up = false
  up : ht ≤ i → p.up = true

/-- The same in the second loop: j questions have been missed, m in all were asked. -/
structure Two (ev ms ht : Int) (j m : Int) (t : Int) (p : Pb) : Prop where
  inv : Inv ms ht p
  j0 : 0 ≤ j
  m0 : 0 ≤ m
  t0 : 0 ≤ t
  t1 : t ≤ (m + j) * 4294967296
  now : p.now ≤ t
  next : p.next ≤ t
  ends : p.ends = -1
  asked : p.asked ≤ m + j
  miss : j < ms → p.miss = j ∧ p.up = true

theorem one_q {ev wt ms ht i t : Int} {p : Pb} (h : One ev ms ht i t p) (hM : May ev wt ms ht) (hi : i ≤ 119) :
    (later ms p t) = ⟨t, p.next, p.asked, -1, 0, p.hit, p.up⟩ := by
  obtain ⟨⟨e0, e1⟩, ⟨w0, w1⟩, ⟨m0, m1⟩, ⟨h0, h1⟩⟩ := hM
  obtain ⟨hv, hi0, t0, t1, hn, hx, he, ha, hm, hh, hu⟩ := h
  have hnow : nowOf p.now t = t := nowOf_is _ _ hn (by omega)
  unfold later
  rw [if_neg (by rw [he]; omega), hnow, he, hm]

def oneA (ev wt t : Int) (p : Pb) : Pb := ⟨t, t + ev, p.asked + 1, t + wt, 0, p.hit, p.up⟩
theorem one_ask {ev wt ms ht i t : Int} {p : Pb} (h : One ev ms ht i t p) (hM : May ev wt ms ht) (hi : i ≤ 119) :
    PrP.ask ev wt ms (later ms p t) = oneA ev wt t p := by
  rw [one_q h hM hi]
  rfl
theorem one_inv {ev wt ms ht i t : Int} {p : Pb} (h : One ev ms ht i t p) (hM : May ev wt ms ht) (hi : i ≤ 119) : Inv ms ht (oneA ev wt t p) := by
  have := one_ask h hM hi
  rw [← this]
  obtain ⟨⟨e0, e1⟩, ⟨w0, w1⟩, ⟨m0, m1⟩, ⟨h0, h1⟩⟩ := hM
  exact (h.inv.later m0 h0 t).ask m0 h0 e0 e1 w0 w1
theorem one_later {ev wt ms ht i t : Int} {p : Pb} (h : One ev ms ht i t p) (hM : May ev wt ms ht) (hi : i ≤ 119) :
    later ms (oneA ev wt t p) (t + wt - 1) = ⟨t + wt - 1, t + ev, p.asked + 1, t + wt, 0, p.hit, p.up⟩ := by
  obtain ⟨⟨e0, e1⟩, ⟨w0, w1⟩, ⟨m0, m1⟩, ⟨h0, h1⟩⟩ := hM
  obtain ⟨hv, hi0, t0, t1, hn, hx, he, ha, hm, hh, hu⟩ := h
  have hnow : nowOf t (t + wt - 1) = t + wt - 1 := nowOf_is _ _ (by omega) (by omega)
  unfold later oneA
  simp only
  rw [hnow, if_neg (by omega)]
def oneC (ev wt ht t : Int) (p : Pb) : Pb := came ht ⟨t + wt - 1, t + ev, p.asked + 1, t + wt, 0, p.hit, p.up⟩
theorem one_next {ev wt ms ht i t : Int} {p : Pb} (h : One ev ms ht i t p) (hM : May ev wt ms ht) (hi : i ≤ 119) :
    One ev ms ht (i + 1) (t + ev) (oneC ev wt ht t p) ∧ (oneC ev wt ht t p).up = decide (ht ≤ i + 1) := by
  have hinv : Inv ms ht (oneC ev wt ht t p) := by
    have h1 := (one_inv h hM hi).later hM.2.2.1.1 hM.2.2.2.1 (t + wt - 1)
    rw [one_later h hM hi] at h1
    exact h1.came hM.2.2.1.1 hM.2.2.2.1
  obtain ⟨⟨e0, e1⟩, ⟨w0, w1⟩, ⟨m0, m1⟩, ⟨h0, h1⟩⟩ := hM
  obtain ⟨hv, hi0, t0, t1, hn, hx, he, ha, hm, hh, hu⟩ := h
  have key : (i + 1 < ht → (oneC ev wt ht t p).hit = i + 1 ∧ (oneC ev wt ht t p).up = false) ∧ (ht ≤ i + 1 → (oneC ev wt ht t p).up = true) := by
    unfold oneC came
    simp only
    by_cases hc : p.hit + 1 = ht
    · rw [if_pos hc]
      refine ⟨fun hlt => ?_, fun _ => rfl⟩
      have := (hh (by omega)).1
      omega
    · rw [if_neg hc]
      refine ⟨fun hlt => ⟨by rw [(hh (by omega)).1], (hh (by omega)).2⟩, fun hle => ?_⟩
      by_cases hq : i < ht
      · have := (hh hq).1
        omega
      · exact hu (by omega)
  have rest : (oneC ev wt ht t p).now = t + wt - 1 ∧ (oneC ev wt ht t p).next = t + ev ∧ (oneC ev wt ht t p).ends = -1 ∧ (oneC ev wt ht t p).asked = p.asked + 1 ∧ (oneC ev wt ht t p).miss = 0 := by
    unfold oneC came
    split <;> exact ⟨rfl, rfl, rfl, rfl, rfl⟩
  obtain ⟨r1, r2, r3, r4, r5⟩ := rest
  refine ⟨⟨hinv, by omega, by omega, by omega, by omega, by omega, r3, by omega, r5, key.1, key.2⟩, ?_⟩
  by_cases hc : ht ≤ i + 1
  · rw [key.2 hc, decide_eq_true hc]
  · rw [(key.1 (by omega)).2, decide_eq_false hc]

theorem one_two {ev ms ht i t : Int} {p : Pb} (h : One ev ms ht i t p) (hm : 1 ≤ ms) (hi : ht ≤ i) : Two ev ms ht 0 i t p :=
  ⟨h.inv, by omega, h.i0, h.t0, by have := h.t1; omega, h.now, h.next, h.ends, by have := h.asked; omega, fun _ => ⟨h.miss, h.up hi⟩⟩

theorem two_q {ev wt ms ht j m t : Int} {p : Pb} (h : Two ev ms ht j m t p) (hM : May ev wt ms ht) (hi : m + j ≤ 230) :
    (later ms p t) = ⟨t, p.next, p.asked, -1, p.miss, p.hit, p.up⟩ := by
  obtain ⟨hv, hj0, hm0, t0, t1, hn, hx, he, ha, hm⟩ := h
  have hnow : nowOf p.now t = t := nowOf_is _ _ hn (by omega)
  unfold later
  rw [if_neg (by rw [he]; omega), hnow, he]
def twoA (ev wt t : Int) (p : Pb) : Pb := ⟨t, t + ev, p.asked + 1, t + wt, p.miss, p.hit, p.up⟩
theorem two_ask {ev wt ms ht j m t : Int} {p : Pb} (h : Two ev ms ht j m t p) (hM : May ev wt ms ht) (hi : m + j ≤ 230) :
    PrP.ask ev wt ms (later ms p t) = twoA ev wt t p := by
  rw [two_q h hM hi]
  rfl
theorem two_inv {ev wt ms ht j m t : Int} {p : Pb} (h : Two ev ms ht j m t p) (hM : May ev wt ms ht) (hi : m + j ≤ 230) : Inv ms ht (twoA ev wt t p) := by
  have := two_ask h hM hi
  rw [← this]
  obtain ⟨⟨e0, e1⟩, ⟨w0, w1⟩, ⟨m0, m1⟩, ⟨h0, h1⟩⟩ := hM
  exact (h.inv.later m0 h0 t).ask m0 h0 e0 e1 w0 w1
def twoL (ev wt ms t : Int) (p : Pb) : Pb := missed ms ⟨t + wt, t + ev, p.asked + 1, t + wt, p.miss, p.hit, p.up⟩
theorem two_later {ev wt ms ht j m t : Int} {p : Pb} (h : Two ev ms ht j m t p) (hM : May ev wt ms ht) (hi : m + j ≤ 230) :
    later ms (twoA ev wt t p) (t + wt) = twoL ev wt ms t p := by
  obtain ⟨⟨e0, e1⟩, ⟨w0, w1⟩, ⟨m0, m1⟩, ⟨h0, h1⟩⟩ := hM
  obtain ⟨hv, hj0, hm0, t0, t1, hn, hx, he, ha, hm⟩ := h
  have hnow : nowOf t (t + wt) = t + wt := nowOf_is _ _ (by omega) (by omega)
  unfold later twoA twoL
  simp only
  rw [hnow, if_pos (by omega)]
theorem two_next {ev wt ms ht j m t : Int} {p : Pb} (h : Two ev ms ht j m t p) (hM : May ev wt ms ht) (hi : m + j ≤ 230) (hj : j < ms) :
    Two ev ms ht (j + 1) m (t + ev) (twoL ev wt ms t p) ∧ (twoL ev wt ms t p).up = decide (j + 1 < ms) ∧ (twoL ev wt ms t p).ends < 0 := by
  have hinv : Inv ms ht (twoL ev wt ms t p) := by
    have h1 := (two_inv h hM hi).later hM.2.2.1.1 hM.2.2.2.1 (t + wt)
    rw [two_later h hM hi] at h1
    exact h1
  obtain ⟨⟨e0, e1⟩, ⟨w0, w1⟩, ⟨m0, m1⟩, ⟨h0, h1⟩⟩ := hM
  obtain ⟨hv, hj0, hm0, t0, t1, hn, hx, he, ha, hm⟩ := h
  obtain ⟨hm1, hm2⟩ := hm hj
  have key : (j + 1 < ms → (twoL ev wt ms t p).miss = j + 1 ∧ (twoL ev wt ms t p).up = true) ∧ (¬ j + 1 < ms → (twoL ev wt ms t p).up = false) := by
    unfold twoL missed
    simp only
    by_cases hc : p.miss + 1 = ms
    · rw [if_pos hc]
      exact ⟨fun hlt => by omega, fun _ => rfl⟩
    · rw [if_neg hc]
      exact ⟨fun hlt => ⟨by rw [hm1], hm2⟩, fun hn => by omega⟩
  have rest : (twoL ev wt ms t p).now = t + wt ∧ (twoL ev wt ms t p).next = t + ev ∧ (twoL ev wt ms t p).ends = -1 ∧ (twoL ev wt ms t p).asked = p.asked + 1 := by
    unfold twoL missed
    split <;> exact ⟨rfl, rfl, rfl, rfl⟩
  obtain ⟨r1, r2, r3, r4⟩ := rest
  refine ⟨⟨hinv, by omega, hm0, by omega, by omega, by omega, by omega, r3, by omega, key.1⟩, ?_, by omega⟩
  by_cases hc : j + 1 < ms
  · rw [(key.1 hc).2, decide_eq_true hc]
  · rw [key.2 hc, decide_eq_false hc]
end Go.Proofs.Ytandaanfdpedhaa.PrU
