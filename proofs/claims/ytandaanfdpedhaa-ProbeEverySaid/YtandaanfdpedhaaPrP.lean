/-
  The prober, as the document has it, over whole numbers. No program is in sight.
-/
import Derived.Test.YtandaanfdpedhaaKit
set_option linter.unusedVariables false
namespace Go.Proofs.Ytandaanfdpedhaa.PrP
open Go Go.Proofs.Ytandaanfdpedhaa.Kit

/-- What a prober keeps besides its setting: ends below 0: none is open. -/
structure Pb where
  now : Int
  next : Int
  asked : Int
  ends : Int
  miss : Int
  hit : Int
  up : Bool

/-- The time behind a call. -/
def nowOf (now t : Int) : Int := if t ≤ 1099511627776 then imax now t else now
theorem nowOf_lo (now t : Int) (h : 0 ≤ now) : 0 ≤ nowOf now t := by unfold nowOf imax; split <;> (try split) <;> omega
theorem nowOf_hi (now t : Int) (h : now ≤ 1099511627776) : nowOf now t ≤ 1099511627776 := by unfold nowOf imax; split <;> (try split) <;> omega
theorem nowOf_ge (now t : Int) : now ≤ nowOf now t := by unfold nowOf imax; split <;> (try split) <;> omega
theorem nowOf_is (now t : Int) (h : now ≤ t) (h2 : t ≤ 1099511627776) : nowOf now t = t := by unfold nowOf imax; split <;> (try split) <;> omega

/-- The open question did not come. -/
def missed (ms : Int) (p : Pb) : Pb := if p.miss + 1 = ms then ⟨p.now, p.next, p.asked, -1, 0, 0, false⟩ else ⟨p.now, p.next, p.asked, -1, p.miss + 1, 0, p.up⟩
/-- The time goes on. -/
def later (ms : Int) (p : Pb) (t : Int) : Pb :=
  if 0 ≤ p.ends ∧ p.ends ≤ nowOf p.now t then missed ms ⟨nowOf p.now t, p.next, p.asked, p.ends, p.miss, p.hit, p.up⟩ else ⟨nowOf p.now t, p.next, p.asked, p.ends, p.miss, p.hit, p.up⟩
/-- One is asked, if it is time. -/
def ask (ev wt ms : Int) (p : Pb) : Pb :=
  let q := if 0 ≤ p.ends then missed ms p else p
  ⟨q.now, q.now + ev, q.asked + 1, q.now + wt, q.miss, q.hit, q.up⟩
/-- An answer came in time. -/
def came (ht : Int) (p : Pb) : Pb := if p.hit + 1 = ht then ⟨p.now, p.next, p.asked, -1, 0, 0, true⟩ else ⟨p.now, p.next, p.asked, -1, 0, p.hit + 1, p.up⟩

/-- What its numbers keep to. -/
structure Inv (ms ht : Int) (p : Pb) : Prop where
  now0 : 0 ≤ p.now
  now1 : p.now ≤ 1099511627776
  next0 : 0 ≤ p.next
  next1 : p.next ≤ 1103806595072
  asked0 : 0 ≤ p.asked
  ends0 : -1 ≤ p.ends
  ends1 : p.ends ≤ 1103806595072
  miss0 : 0 ≤ p.miss
  miss1 : p.miss < ms
  hit0 : 0 ≤ p.hit
  hit1 : p.hit < ht

theorem Inv.missed {ms ht : Int} {p : Pb} (h : Inv ms ht p) (hm : 1 ≤ ms) (hh : 1 ≤ ht) : Inv ms ht (missed ms p) := by
  obtain ⟨h1, h2, h3, h4, h5, h6, h7, h8, h9, h10, h11⟩ := h
  unfold PrP.missed
  split <;> constructor <;> simp only <;> omega
theorem Inv.later {ms ht : Int} {p : Pb} (h : Inv ms ht p) (hm : 1 ≤ ms) (hh : 1 ≤ ht) (t : Int) : Inv ms ht (later ms p t) := by
  have h1 : Inv ms ht ⟨nowOf p.now t, p.next, p.asked, p.ends, p.miss, p.hit, p.up⟩ := by
    obtain ⟨h1, h2, h3, h4, h5, h6, h7, h8, h9, h10, h11⟩ := h
    exact ⟨nowOf_lo _ _ h1, nowOf_hi _ _ h2, h3, h4, h5, h6, h7, h8, h9, h10, h11⟩
  unfold PrP.later
  split
  · exact h1.missed hm hh
  · exact h1
theorem Inv.ask {ev wt ms ht : Int} {p : Pb} (h : Inv ms ht p) (hm : 1 ≤ ms) (hh : 1 ≤ ht) (e0 : 1 ≤ ev) (e1 : ev ≤ 4294967296) (w0 : 1 ≤ wt) (w1 : wt ≤ ev) : Inv ms ht (ask ev wt ms p) := by
  have h1 : Inv ms ht (if 0 ≤ p.ends then PrP.missed ms p else p) := by
    split
    · exact h.missed hm hh
    · exact h
  unfold PrP.ask
  obtain ⟨h1, h2, h3, h4, h5, h6, h7, h8, h9, h10, h11⟩ := h1
  constructor <;> simp only <;> omega
theorem Inv.came {ms ht : Int} {p : Pb} (h : Inv ms ht p) (hm : 1 ≤ ms) (hh : 1 ≤ ht) : Inv ms ht (came ht p) := by
  obtain ⟨h1, h2, h3, h4, h5, h6, h7, h8, h9, h10, h11⟩ := h
  unfold PrP.came
  split <;> constructor <;> simp only <;> omega
end Go.Proofs.Ytandaanfdpedhaa.PrP
