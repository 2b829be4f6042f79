/-
  The scaler, as the document has it, over whole numbers: how many are wanted, and a step. No program is in sight.
-/
import Derived.Test.YtnefniinnjolbaaKit
namespace Go.Proofs.Ytnefniinnjolbaa.ScP
open Go Go.Proofs.Ytnefniinnjolbaa.Kit

/-- How many have room for a load, of at most f more than n. -/
def need (per load : Int) : Nat → Nat → Nat
  | 0, n => n
  | f + 1, n => if load ≤ (n : Int) * per then n else need per load f (n + 1)

theorem need_ge (per load : Int) (f : Nat) : ∀ n, n ≤ need per load f n := by
  induction f with
  | zero => intro n; exact Nat.le_refl _
  | succ f ih =>
    intro n
    unfold need
    split
    · exact Nat.le_refl _
    · have := ih (n + 1)
      omega
theorem need_le (per load : Int) (f : Nat) : ∀ n, need per load f n ≤ n + f := by
  induction f with
  | zero => intro n; exact Nat.le_refl _
  | succ f ih =>
    intro n
    unfold need
    split
    · omega
    · have := ih (n + 1)
      omega
/-- A lesser bound cuts. -/
theorem need_min (per load : Int) (f g : Nat) : ∀ n, min (need per load (f + g) n) (n + f) = need per load f n := by
  induction f with
  | zero =>
    intro n
    have := need_ge per load (0 + g) n
    simp only [need]
    omega
  | succ f ih =>
    intro n
    rw [show f + 1 + g = (f + g) + 1 by omega]
    unfold need
    split
    · omega
    · have := ih (n + 1)
      omega
/-- What has room for the load: it, or the bound. -/
theorem need_room (per load : Int) (f : Nat) : ∀ n, need per load f n = n + f ∨ load ≤ ((need per load f n : Nat) : Int) * per := by
  induction f with
  | zero => intro n; exact .inl rfl
  | succ f ih =>
    intro n
    unfold need
    split
    · rename_i h; exact .inr h
    · rcases ih (n + 1) with h | h
      · exact .inl (by omega)
      · exact .inr h

def want (mn mx per load : Int) : Int := imax ((need per load mx.toNat 0 : Nat) : Int) mn
theorem want_lo (mn mx per load : Int) : mn ≤ want mn mx per load := by unfold want imax; split <;> omega
theorem want_hi (mn mx per load : Int) (h0 : 0 ≤ mx) (h : mn ≤ mx) : want mn mx per load ≤ mx := by
  have := need_le per load mx.toNat 0
  unfold want imax
  split <;> omega
theorem want_ref (mn mx per load : Int) (h0 : 0 ≤ mn) (h : mn ≤ mx) (h8 : mx ≤ 8) : imin (imax ((need per load 8 0 : Nat) : Int) mn) mx = want mn mx per load := by
  have := need_min per load mx.toNat (8 - mx.toNat) 0
  rw [show mx.toNat + (8 - mx.toNat) = 8 by omega] at this
  unfold want imin imax
  split <;> split <;> split <;> omega

/-- Was something done so long ago, or never? -/
def rest (now at_ wait : Int) : Bool := at_ == -1 || decide (wait ≤ now - at_)
/-- Would one fewer do? -/
def spare (per sl live load : Int) : Bool := decide (100 * load ≤ (live - 1) * per * (100 - sl))
def few (mn mx uw now up live wnt : Int) : Bool := decide (live < mn) || (decide (live ≤ mx) && decide (live < wnt) && rest now up uw)
def many (mn mx per sl dw now up dn live load wnt : Int) : Bool := decide (mx < live) || (decide (wnt < live) && decide (mn < live) && spare per sl live load && rest now (imax up dn) dw)

/-- The time behind a call. -/
def nowOf (now t : Int) : Int := if t ≤ 1099511627776 then imax now t else now
theorem nowOf_lo (now t : Int) (h : 0 ≤ now) : 0 ≤ nowOf now t := by unfold nowOf imax; split <;> (try split) <;> omega
theorem nowOf_hi (now t : Int) (h : now ≤ 1099511627776) : nowOf now t ≤ 1099511627776 := by unfold nowOf imax; split <;> (try split) <;> omega
theorem nowOf_ge (now t : Int) : now ≤ nowOf now t := by unfold nowOf imax; split <;> (try split) <;> omega

/-- The step: up, down, or none. -/
def dir (mn mx per sl uw dw now up dn live load : Int) : Int :=
  let wnt := want mn mx per load
  if mx < live then -1 else if few mn mx uw now up live wnt = true then 1 else if many mn mx per sl dw now up dn live load wnt = true then -1 else 0
end Go.Proofs.Ytnefniinnjolbaa.ScP
