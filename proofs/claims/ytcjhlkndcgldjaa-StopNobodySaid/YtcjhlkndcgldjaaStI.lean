/-
  Walks over the stops' document: Held, Find; Find of a set of none.
-/
import Derived.Test.YtcjhlkndcgldjaaStH
namespace Go.Proofs.Ytcjhlkndcgldjaa.StI
open Go.RowKit Go.Proofs.Ytcjhlkndcgldjaa.Kit Go.Proofs.Ytcjhlkndcgldjaa.StP Go.Proofs.Ytcjhlkndcgldjaa.StM Go.Proofs.Ytcjhlkndcgldjaa.StN Go.Proofs.Ytcjhlkndcgldjaa.StR Go.Proofs.Ytcjhlkndcgldjaa.StE Go.Proofs.Ytcjhlkndcgldjaa.StF Go.Proofs.Ytcjhlkndcgldjaa.StG Go.Proofs.Ytcjhlkndcgldjaa.StH
attribute [local go_sem high] max_imax min_imin
attribute [local go_sem ↓] Go.wp_at_zero Go.wp_at_succ
set_option linter.unusedVariables false

/-- The most that is held, as far as k tokens of sequence i have been tried. -/
def Trying (S : List Wd) (t : Wd) (i k v : Nat) : Prop :=
  (v = 0 ∨ ∃ x ∈ S, 1 ≤ v ∧ v < x.length ∧ x.take v <:+ t) ∧ ∀ (j : Nat) (x : Wd) (q : Nat), S[j]? = some x → (j < i ∨ (j = i ∧ q < k)) → 1 ≤ q → q < x.length → x.take q <:+ t → q ≤ v
theorem Trying.start (S : List Wd) (t : Wd) : Trying S t 0 1 0 := ⟨.inl rfl, fun j x q _ h h1 _ _ => by omega⟩
theorem Trying.next {S : List Wd} {t : Wd} {i k v : Nat} (h : Trying S t i k v) {x : Wd} (hx : S[i]? = some x) (hk : x.length ≤ k) : Trying S t (i + 1) 1 v :=
  ⟨h.1, fun j y q hy hj h1 h2 h3 => by
    rcases Nat.lt_or_ge j i with hji | hji
    · exact h.2 j y q hy (.inl hji) h1 h2 h3
    · obtain rfl : j = i := by omega
      rw [hx] at hy
      injection hy with hy
      subst hy
      exact h.2 j x q hx (.inr ⟨rfl, by omega⟩) h1 h2 h3⟩
theorem Trying.no {S : List Wd} {t : Wd} {i k v : Nat} (h : Trying S t i k v) {x : Wd} (hx : S[i]? = some x) (hs : ¬ x.take k <:+ t) : Trying S t i (k + 1) v :=
  ⟨h.1, fun j y q hy hj h1 h2 h3 => by
    by_cases hq : j = i ∧ q = k
    · obtain ⟨rfl, rfl⟩ := hq
      rw [hx] at hy
      injection hy with hy
      subst hy
      exact absurd h3 hs
    · exact h.2 j y q hy (by omega) h1 h2 h3⟩
theorem Trying.yes {S : List Wd} {t : Wd} {i k v : Nat} (h : Trying S t i k v) {x : Wd} (hx : S[i]? = some x) (hk0 : 1 ≤ k) (hk : k < x.length) (hs : x.take k <:+ t) : Trying S t i (k + 1) (max v k) := by
  refine ⟨?_, fun j y q hy hj h1 h2 h3 => ?_⟩
  · rcases Nat.le_total v k with hvk | hvk
    · rw [Nat.max_eq_right hvk]
      exact .inr ⟨x, List.mem_of_getElem? hx, hk0, hk, hs⟩
    · rw [Nat.max_eq_left hvk]
      exact h.1
  · by_cases hq : j = i ∧ q = k
    · rw [hq.2]
      exact Nat.le_max_right _ _
    · exact Nat.le_trans (h.2 j y q hy (by omega) h1 h2 h3) (Nat.le_max_left _ _)
theorem Trying.done {S : List Wd} {t : Wd} {i k v : Nat} (h : Trying S t i k v) (hi : S.length ≤ i) : v = heldOf S t :=
  IsHeld.one (S := S) (text := t) ⟨h.1, fun x hx q h1 h2 h3 => by
    obtain ⟨j, hj⟩ := List.getElem?_of_mem hx
    exact h.2 j x q hj (.inl (by have := (List.getElem?_eq_some_iff.1 hj).1; omega)) h1 h2 h3⟩ (heldOf_is S t)

section
variable {w : World} {S : List Wd}
theorem ints_take (l : List Int) (k : Nat) : (ints l).take k = ints (l.take k) := by simp [ints]
set_option maxHeartbeats 1000000 in
theorem rheld_any {a : Option Addr} {c : Nat} (h : StopsAt w a c S) {t : Wd} {b : Option Addr} {m d : Nat} (h2 : Rd w 1 b m d (ints t)) :
    Calls Try.prog 18 #[.slice a S.length c, .slice b m d] w fun e w' => e = .returned (.int .i64 (heldOf S t : Int)) ∧ ∃ q, w' = w.drewN q := by
  obtain ⟨⟨vs, hr, hrow⟩, _⟩ := h
  have hcap := Nat.le_trans hr.cap hr.max
  unfold maxLen at hcap
  have HR := Lib.hid hr
  have HROW := Lib.hid hrow
  have R2 := Lib.hid h2
  clear hr hrow h2
  obtain ⟨n, HN⟩ : ∃ n, Hid (S.length = n) := ⟨_, rfl⟩
  rw [HN.out] at HR hcap ⊢
  go_enter Try.func18, Try.ntmps18
  go_wp2_with fail
  go_loopw [6, 5] (fun i u wr => ∃ k v : Nat, k ≤ n ∧ i = .int .i64 k ∧ u = .int .i64 v ∧ Hid (Trying S t k 1 v) ∧ ∃ q, wr = w.drewN q) (fun i _ _ => n - (intOf i).toNat)
  case atStart => exact ⟨0, 0, Nat.zero_le _, rfl, rfl, Lib.hid (Trying.start S t), 0, rfl⟩
  case round =>
    obtain ⟨k, v, hk, rfl, rfl, HE, mm, rfl⟩ := hrel
    by_cases hlt : k < n
    · obtain ⟨x, hx⟩ : ∃ x, S[k]? = some x := ⟨_, List.getElem?_eq_getElem (by rw [HN.out]; exact hlt)⟩
      obtain ⟨b0, off, u, rfl, hu, hcu⟩ := HR.out.get hlt
      obtain ⟨ax, cx, hv, hxr⟩ := HROW.out k x hx
      rw [hu] at hv
      injection hv with hv
      subst hv
      have hxmax := Nat.le_trans hxr.cap hxr.max
      have hxcap := hxr.cap
      unfold maxLen at hxmax
      have k0 : (0 : Int) ≤ (k : Int) := by omega
      have k1 : (k : Int) < (n : Int) := by omega
      have HX := Lib.hid hx
      have HXR := Lib.hid hxr
      obtain ⟨xn, HXN⟩ : ∃ xn, Hid (x.length = xn) := ⟨_, rfl⟩
      rw [HXN.out] at hcu hxmax HXR hxcap
      clear hxr hu hx
      go_wp2_with fail
      obtain ⟨mo, HMO⟩ : ∃ mo, Hid (mm = mo) := ⟨_, rfl⟩
      go_loopw [7, 5] (fun i u wr => ∃ q v : Nat, 1 ≤ q ∧ (q ≤ xn ∨ q = 1) ∧ i = .int .i64 q ∧ u = .int .i64 v ∧ Hid (Trying S t k q v) ∧ ∃ r, wr = w.drewN r) (fun i _ _ => xn + 1 - (intOf i).toNat)
      case atStart => exact ⟨1, v, by omega, by omega, rfl, rfl, HE, _, rfl⟩
      case round =>
        obtain ⟨q, v, hq0, hq1, rfl, rfl, HE, mm, rfl⟩ := hrel
        by_cases hql : q < xn
        · have TS : ∀ j, Hid (Calls Try.prog 23 #[.slice b m d, .slice ax q cx] (w.drewN j) fun e w' => e = .returned (.bool (decide (x.take q <:+ t))) ∧ ∃ r, w' = (w.drewN j).drewN r) := fun j => Lib.hid (by
            have h3 := HXR.out.take_ q (by omega)
            rw [Nat.mul_one, ints_take] at h3
            exact ends_any (R2.out.drewN j) (h3.drewN j))
          have q2 : (q : Int) < (xn : Int) := by omega
          have q3 : (1 : Int) ≤ (q : Int) := by omega
          have q4 : (xn : Int) ≤ (cx : Int) := by omega
          by_cases hs : x.take q <:+ t
          · have HS := Lib.hid (HE.out.yes HX.out hq0 (by rw [HXN.out]; exact hql) hs)
            have ed : decide (x.take q <:+ t) = true := decide_eq_true hs
            rw [ed] at TS
            have em : imax (v : Int) (q : Int) = ((max v q : Nat) : Int) := by unfold imax; split <;> omega
            obtain ⟨mx, HMX⟩ : ∃ mx, Hid (max v q = mx) := ⟨_, rfl⟩
            rw [HMX.out] at em HS
            clear hs ed
            go_wp2_with fail
            refine (TS _).out.mono ?_
            rintro e w5 ⟨rfl, r5, rfl⟩
            rw [World.drewN_drewN]
            go_wp2_with fail
            go_roundw
            case rel => exact ⟨q + 1, mx, by omega, by omega, by go_num, rfl, HS, _, rfl⟩
            case measure => simp [intOf]; omega
          · have HS := Lib.hid (HE.out.no HX.out hs)
            have ed : decide (x.take q <:+ t) = false := decide_eq_false hs
            rw [ed] at TS
            clear hs ed
            go_wp2_with fail
            refine (TS _).out.mono ?_
            rintro e w5 ⟨rfl, r5, rfl⟩
            rw [World.drewN_drewN]
            go_wp2_with fail
            go_roundw
            case rel => exact ⟨q + 1, v, by omega, by omega, by go_num, rfl, HS, _, rfl⟩
            case measure => simp [intOf]; omega
        · have HS := Lib.hid (HE.out.next HX.out (by rw [HXN.out]; omega))
          have q2 : xn ≤ q := by omega
          clear hql
          go_wp2_with fail
          go_roundw
          case rel => exact ⟨k + 1, v, by omega, by go_num, rfl, HS, _, rfl⟩
          case measure => simp [intOf]; omega
    · have e : v = heldOf S t := HE.out.done (by rw [HN.out]; omega)
      have hke : k = n := by omega
      subst hke
      subst e
      go_wp2_with fail
      go_ret
      exact ⟨rfl, mm, rfl⟩

theorem rfind_any {a : Option Addr} {c : Nat} (h : StopsAt w a c S) {t : Wd} {b : Option Addr} {d : Nat} (h2 : Rd w 1 b t.length d (ints t)) (hn : t.length ≤ 1000) :
    Calls Try.prog 12 #[.slice a S.length c, .slice b t.length d] w (StF.Found w S t) := by
  have hb2 := Nat.le_trans h2.cap h2.max
  have hc2 := h2.cap
  unfold maxLen at hb2
  have HS := Lib.hid h
  have R2 := Lib.hid h2
  clear h h2
  obtain ⟨n, HN⟩ : ∃ n, Hid (t.length = n) := ⟨_, rfl⟩
  rw [HN.out] at R2 hb2 hc2 hn ⊢
  go_enter Try.func12, Try.ntmps12
  go_wp2_with fail
  go_loopw [6] (fun i wr => ∃ k : Nat, 1 ≤ k ∧ k ≤ n + 1 ∧ i = .int .i64 k ∧ Hid (∀ j, 1 ≤ j → j < k → endOf S (t.take j) < 0) ∧ ∃ q, wr = w.drewN q) (fun i _ => n + 2 - (intOf i).toNat)
  case atStart => exact ⟨1, by omega, by omega, rfl, Lib.hid (fun j h1 h2 => by omega), 0, rfl⟩
  case round =>
    obtain ⟨k, hk0, hk1, rfl, HE, mm, rfl⟩ := hrel
    by_cases hlt : k ≤ n
    · have TE := Lib.hid (rended_any (HS.out.on (below_drewN (Below.refl w.heap.size w) mm)) (t := t.take k) (b := b) (m := k) (d := d) (by
        have h3 := R2.out.take_ k hlt
        rw [Nat.mul_one, ints_take] at h3
        exact h3.drewN mm))
      obtain ⟨v, HV⟩ : ∃ v, Hid (endOf S (t.take k) = v) := ⟨_, rfl⟩
      rw [HV.out] at TE
      have i0 : (1 : Int) ≤ (k : Int) := by omega
      have i1 : (k : Int) ≤ (n : Int) := by omega
      have i2 : (n : Int) ≤ (d : Int) := by omega
      go_wp2_with fail
      refine TE.out.mono ?_
      rintro e w5 ⟨rfl, r5, rfl⟩
      rw [World.drewN_drewN]
      by_cases hv : 0 ≤ v
      · have FIN : Hid (StF.Found w S t (.returned (.tuple #[.int .i64 (k : Int), .int .i64 v])) (w.drewN (mm + r5))) := Lib.hid ⟨_, _, rfl, .inr ⟨k, rfl, hk0, by rw [HN.out]; exact hlt, HV.out.symm, hv, HE.out⟩, below_drewN (Below.refl _ _) _⟩
        go_wp2_with fail
        go_ret2
        exact FIN.out
      · have HE2 : Hid (∀ j, 1 ≤ j → j < k + 1 → endOf S (t.take j) < 0) := Lib.hid (fun j h1 h2 => by
          rcases Nat.lt_or_ge j k with h | h
          · exact HE.out j h1 h
          · obtain rfl : j = k := by omega
            rw [HV.out]
            omega)
        have hv2 : v < 0 := by omega
        clear hv
        go_wp2_with fail
        go_roundw
        case rel => exact ⟨k + 1, by omega, by omega, by go_num, HE2, _, rfl⟩
        case measure => simp [intOf]; omega
    · have FIN : Hid (StF.Found w S t (.returned (.tuple #[.int .i64 (-1), .int .i64 (-1)])) (w.drewN mm)) := Lib.hid ⟨_, _, rfl, .inl ⟨rfl, rfl, fun j h1 h2 => HE.out j h1 (by rw [HN.out] at h2; omega)⟩, below_drewN (Below.refl _ _) _⟩
      have h3 : n < k := by omega
      clear hlt
      go_wp2_with fail
      go_ret2
      exact FIN.out
end
end Go.Proofs.Ytcjhlkndcgldjaa.StI
