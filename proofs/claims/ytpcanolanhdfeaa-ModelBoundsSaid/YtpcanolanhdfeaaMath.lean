/-
  Plain facts on numbers below 2^64, as bit vectors: mixing, its way back, and the upper half of a product. No program is in sight.
-/
import Derived.Laws.Bits64b
import Derived.Laws.MathBits
import GoSem.ClaimData
namespace Go.Proofs.Ytpcanolanhdfeaa.Math
open Go

/-- A bit vector as a whole number. -/
def U (b : BitVec 64) : Int := (b.toNat : Int)

theorem U_lo (b : BitVec 64) : 0 ≤ U b := Int.natCast_nonneg _
theorem U_hi (b : BitVec 64) : U b < 18446744073709551616 := by
  have := b.isLt
  unfold U
  omega
theorem U_inj {a b : BitVec 64} (h : U a = U b) : a = b := BitVec.eq_of_toNat_eq (by unfold U at h; omega)
theorem of_wf {a : Int} (h : (Lit.int .u64 a).wf = true) : ∃ b, a = U b := by
  have h' : 0 ≤ a ∧ a < 18446744073709551616 := by
    simp [Lit.wf, IntKind.min, IntKind.max, IntKind.signed, IntKind.bits] at h
    omega
  refine ⟨BitVec.ofNat 64 a.toNat, ?_⟩
  unfold U
  rw [BitVec.toNat_ofNat]
  omega

theorem xor_U (a b : BitVec 64) : bits .xor .u64 (U a) (U b) = U (a ^^^ b) := by
  unfold U
  rw [bits_xor_u64_nat _ _ a.isLt b.isLt, BitVec.toNat_xor]

theorem div_U (a : BitVec 64) (s : Nat) (c : Int) (hc : c = ((2 ^ s : Nat) : Int)) : U a / c = U (a >>> s) := by
  unfold U
  rw [hc, BitVec.toNat_ushiftRight, Nat.shiftRight_eq_div_pow, Int.natCast_ediv]

theorem wrap_ofInt (n : Int) : IntKind.u64.wrap n = U (BitVec.ofInt 64 n) := by
  unfold U
  rw [IntKind.wrap_u64, BitVec.toNat_ofInt]
  omega

theorem mul_U (a b : BitVec 64) : IntKind.u64.wrap (U a * U b) = U (a * b) := by
  unfold U
  rw [IntKind.wrap_u64, BitVec.toNat_mul]
  omega
theorem add_U (a b : BitVec 64) : IntKind.u64.wrap (U a + U b) = U (a + b) := by
  unfold U
  rw [IntKind.wrap_u64, BitVec.toNat_add]
  omega
theorem sub_U (a b : BitVec 64) : IntKind.u64.wrap (U a - U b) = U (a - b) := by
  unfold U
  rw [IntKind.wrap_u64, BitVec.toNat_sub]
  have := b.isLt
  omega
theorem lit_U (n : Nat) (h : n < 18446744073709551616) : (n : Int) = U (BitVec.ofNat 64 n) := by
  unfold U
  rw [BitVec.toNat_ofNat, Nat.mod_eq_of_lt h]

/-! ### mixing -/
def c1 : BitVec 64 := 13787848793156543929#64
def c2 : BitVec 64 := 10723151780598845931#64
def mix (x : BitVec 64) : BitVec 64 :=
  let y := (x ^^^ x >>> 30) * c1
  let z := (y ^^^ y >>> 27) * c2
  z ^^^ z >>> 31

theorem lit1 : (13787848793156543929 : Int) = U c1 := by decide +kernel
theorem lit2 : (10723151780598845931 : Int) = U c2 := by decide +kernel

theorem shift_x (x : BitVec 64) (s : Nat) (c : Int) (hc : c = ((2 ^ s : Nat) : Int)) : bits .xor .u64 (U x) (U x / c) = U (x ^^^ x >>> s) := by
  rw [div_U x s c hc, xor_U]

theorem mix_int (x : BitVec 64) :
    bits .xor .u64 (IntKind.u64.wrap ((bits .xor .u64 (IntKind.u64.wrap ((bits .xor .u64 (U x) (U x / 1073741824)) * 13787848793156543929)) ((IntKind.u64.wrap ((bits .xor .u64 (U x) (U x / 1073741824)) * 13787848793156543929)) / 134217728)) * 10723151780598845931)) ((IntKind.u64.wrap ((bits .xor .u64 (IntKind.u64.wrap ((bits .xor .u64 (U x) (U x / 1073741824)) * 13787848793156543929)) ((IntKind.u64.wrap ((bits .xor .u64 (U x) (U x / 1073741824)) * 13787848793156543929)) / 134217728)) * 10723151780598845931)) / 2147483648) = U (mix x) := by
  rw [shift_x x 30 _ (by decide), lit1, mul_U, shift_x _ 27 _ (by decide), lit2, mul_U, shift_x _ 31 _ (by decide)]
  rfl

/-! ### the way back -/
theorem unshift3 (y : BitVec 64) (s : Nat) (h : 22 ≤ s) :
    (y ^^^ y >>> s) ^^^ (((y ^^^ y >>> s) ^^^ (((y ^^^ y >>> s) ^^^ ((y ^^^ y >>> s) >>> s)) >>> s)) >>> s) = y := by
  ext i hi
  simp only [BitVec.getElem_xor, BitVec.getElem_ushiftRight, BitVec.getLsbD_xor, BitVec.getLsbD_ushiftRight]
  have : y.getLsbD (s + (s + (s + i))) = false := BitVec.getLsbD_of_ge _ _ (by omega)
  have : y.getLsbD (s + (s + (s + (s + i)))) = false := BitVec.getLsbD_of_ge _ _ (by omega)
  simp_all

def i1 : BitVec 64 := 10871156337175269513#64
def i2 : BitVec 64 := 3573116690164977347#64
theorem inv1 : c1 * i1 = 1#64 := by decide +kernel
theorem inv2 : c2 * i2 = 1#64 := by decide +kernel

/-- Back from a mixed number. -/
def back (n s : Nat) (x : BitVec 64) : BitVec 64 := match n with
  | 0 => x
  | n + 1 => x ^^^ back n s x >>> s

theorem unmix (x : BitVec 64) : back 3 30 (back 3 27 (back 3 31 (mix x) * i2) * i1) = x := by
  have e3 : ∀ (z : BitVec 64) s, 22 ≤ s → back 3 s (z ^^^ z >>> s) = z := fun z s h => unshift3 z s h
  unfold mix
  rw [e3 _ 31 (by decide), BitVec.mul_assoc, inv2, BitVec.mul_one, e3 _ 27 (by decide), BitVec.mul_assoc, inv1, BitVec.mul_one, e3 _ 30 (by decide)]

theorem mix_inj {a b : BitVec 64} (h : mix a = mix b) : a = b := by rw [← unmix a, h, unmix b]

/-! ### a draw, and a draw below -/
def step : BitVec 64 := 11400714819323198485#64
theorem lit3 : (11400714819323198485 : Int) = U step := by decide +kernel
theorem lit_one : (1 : Int) = U 1#64 := by decide +kernel
def at_ (s n : BitVec 64) : BitVec 64 := mix (s + (n + 1#64) * step)
theorem at_arg (s n : BitVec 64) : IntKind.u64.wrap (U s + (IntKind.u64.wrap ((IntKind.u64.wrap (U n + 1)) * 11400714819323198485))) = U (s + (n + 1#64) * step) := by
  rw [lit_one, add_U, lit3, mul_U, add_U]

def below (s n : BitVec 64) (top : Int) : Int := U (at_ s n) * top / 18446744073709551616

theorem below_lo (s n t : BitVec 64) : 0 ≤ below s n (U t) := Int.ediv_nonneg (Int.mul_nonneg (U_lo _) (U_lo _)) (by decide)
theorem below_lt (s n t : BitVec 64) (h : 0 < U t) : below s n (U t) < U t := by
  unfold below
  have h1 := U_hi (at_ s n)
  have h0 := U_lo (at_ s n)
  generalize U (at_ s n) = a at *
  generalize U t = b at *
  have h2 : a * b < 18446744073709551616 * b := Int.mul_lt_mul_of_pos_right h1 h
  rw [Int.mul_comm 18446744073709551616 b] at h2
  exact Int.ediv_lt_of_lt_mul (by decide) h2
theorem below_hi (s n t : BitVec 64) : below s n (U t) < 18446744073709551616 := by
  rcases Int.lt_or_le 0 (U t) with h | h
  · exact Int.lt_trans (below_lt s n t h) (U_hi t)
  · have := U_lo t
    have h0 : U t = 0 := by omega
    unfold below
    rw [h0]
    simp
theorem below_one (s n : BitVec 64) : below s n 1 = 0 := by
  unfold below
  have h1 := U_hi (at_ s n)
  have h0 := U_lo (at_ s n)
  omega

/-- The upper half of a product, as the library reckons it. -/
theorem mul64 (x y : Int) (hx0 : 0 ≤ x) (hx : x < 18446744073709551616) (hy0 : 0 ≤ y) (hy : y < 18446744073709551616) :
    IntKind.u64.wrap ((IntKind.u64.wrap ((IntKind.u64.wrap ((x / 4294967296) * (y / 4294967296))) + ((IntKind.u64.wrap ((IntKind.u64.wrap ((x / 4294967296) * (bits .and .u64 y 4294967295))) + ((IntKind.u64.wrap ((bits .and .u64 x 4294967295) * (bits .and .u64 y 4294967295))) / 4294967296))) / 4294967296))) + ((IntKind.u64.wrap ((bits .and .u64 (IntKind.u64.wrap ((IntKind.u64.wrap ((x / 4294967296) * (bits .and .u64 y 4294967295))) + ((IntKind.u64.wrap ((bits .and .u64 x 4294967295) * (bits .and .u64 y 4294967295))) / 4294967296))) 4294967295) + (IntKind.u64.wrap ((bits .and .u64 x 4294967295) * (y / 4294967296))))) / 4294967296)) = x * y / 18446744073709551616 := by
  rw [and_low32 x hx0 hx, and_low32 y hy0 hy, and_low32 _ (by rw [IntKind.wrap_u64]; omega) (by rw [IntKind.wrap_u64]; omega)]
  simp only [IntKind.wrap_u64]
  exact mul64_arith x y hx0 hx hy0 hy

/-- .. and as the document does. -/
theorem upper (x y : Int) (hx0 : 0 ≤ x) (hx : x < 18446744073709551616) (hy0 : 0 ≤ y) (hy : y < 18446744073709551616) :
    IntKind.u64.wrap ((IntKind.u64.wrap ((IntKind.u64.wrap ((IntKind.u64.wrap (Int.tdiv x 4294967296)) * (IntKind.u64.wrap (Int.tdiv y 4294967296)))) + (IntKind.u64.wrap (Int.tdiv (IntKind.u64.wrap ((IntKind.u64.wrap ((IntKind.u64.wrap (Int.tdiv x 4294967296)) * (Int.tmod y 4294967296))) + (IntKind.u64.wrap (Int.tdiv (IntKind.u64.wrap ((Int.tmod x 4294967296) * (Int.tmod y 4294967296))) 4294967296)))) 4294967296)))) + (IntKind.u64.wrap (Int.tdiv (IntKind.u64.wrap ((Int.tmod (IntKind.u64.wrap ((IntKind.u64.wrap ((IntKind.u64.wrap (Int.tdiv x 4294967296)) * (Int.tmod y 4294967296))) + (IntKind.u64.wrap (Int.tdiv (IntKind.u64.wrap ((Int.tmod x 4294967296) * (Int.tmod y 4294967296))) 4294967296)))) 4294967296) + (IntKind.u64.wrap ((Int.tmod x 4294967296) * (IntKind.u64.wrap (Int.tdiv y 4294967296)))))) 4294967296))) = x * y / 18446744073709551616 := by
  have hw : ∀ n : Int, 0 ≤ IntKind.u64.wrap n ∧ IntKind.u64.wrap n < 18446744073709551616 := fun n => by rw [IntKind.wrap_u64]; omega
  have hd : ∀ n : Int, 0 ≤ n → n < 18446744073709551616 → IntKind.u64.wrap (Int.tdiv n 4294967296) = n / 4294967296 := fun n h0 h1 => by
    rw [Int.tdiv_eq_ediv_of_nonneg h0, IntKind.wrap_u64]
    omega
  have hm : ∀ n : Int, 0 ≤ n → Int.tmod n 4294967296 = n % 4294967296 := fun n h0 => Int.tmod_eq_emod_of_nonneg h0
  rw [hd x hx0 hx, hd y hy0 hy, hm x hx0, hm y hy0]
  rw [hd _ (hw _).1 (hw _).2, hd _ (hw _).1 (hw _).2, hd _ (hw _).1 (hw _).2, hm _ (hw _).1]
  simp only [IntKind.wrap_u64]
  exact mul64_arith x y hx0 hx hy0 hy

theorem at_zero : U (at_ 0#64 0#64) = 16294208416658607535 := by decide +kernel
end Go.Proofs.Ytpcanolanhdfeaa.Math
