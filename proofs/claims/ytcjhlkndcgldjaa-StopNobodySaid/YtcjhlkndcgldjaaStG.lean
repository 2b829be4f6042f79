/-
  Walks over the stops' document: ends, New, Ended; and far.
-/
import Derived.Test.YtcjhlkndcgldjaaStF
namespace Go.Proofs.Ytcjhlkndcgldjaa.StG
open Go.RowKit Go.Proofs.Ytcjhlkndcgldjaa.Kit Go.Proofs.Ytcjhlkndcgldjaa.StP Go.Proofs.Ytcjhlkndcgldjaa.StM Go.Proofs.Ytcjhlkndcgldjaa.StN
attribute [local go_sem high] max_imax min_imin
attribute [local go_sem ↓] Go.wp_at_zero Go.wp_at_succ
set_option linter.unusedVariables false

theorem sfx_iff (x t : Wd) : x <:+ t ↔ x.length ≤ t.length ∧ ∀ i, i < x.length → t[t.length - x.length + i]? = x[i]? := by
  rw [List.suffix_iff_eq_drop]
  constructor
  · intro h
    have hl : x.length ≤ t.length := by
      have := congrArg List.length h
      rw [List.length_drop] at this
      omega
    refine ⟨hl, fun i hi => ?_⟩
    conv => rhs; rw [h]
    rw [List.getElem?_drop]
  · rintro ⟨hl, h⟩
    refine List.ext_getElem? (fun i => ?_)
    rw [List.getElem?_drop]
    rcases Nat.lt_or_ge i x.length with hi | hi
    · exact (h i hi).symm
    · rw [List.getElem?_eq_none hi, List.getElem?_eq_none (by omega)]

section
variable {w : World} {S : List Wd}
theorem rd_len {a : Option Addr} {n c : Nat} {ll : List Int} (h : Rd w 1 a n c (ints ll)) : n = ll.length := by
  have := h.len
  simpa [ints] using this.symm

theorem ends_any {t x : Wd} {a b : Option Addr} {n c m d : Nat} (h1 : Rd w 1 a n c (ints t)) (h2 : Rd w 1 b m d (ints x)) :
    Calls Try.prog 23 #[.slice a n c, .slice b m d] w fun e w' => e = .returned (.bool (decide (x <:+ t))) ∧ ∃ q, w' = w.drewN q := by
  have e1 := rd_len h1
  have e2 := rd_len h2
  have hb1 := Nat.le_trans h1.cap h1.max
  have hb2 := Nat.le_trans h2.cap h2.max
  unfold maxLen at hb1 hb2
  have E1 := Lib.hid e1
  have E2 := Lib.hid e2
  have R1 := Lib.hid h1
  have R2 := Lib.hid h2
  clear e1 e2 h1 h2
  obtain ⟨v, HV⟩ : ∃ v, Hid (decide (x <:+ t) = v) := ⟨_, rfl⟩
  rw [HV.out]
  by_cases hmn : n < m
  · have e : v = false := by
      rw [← HV.out]
      exact decide_eq_false (fun h => by have := ((sfx_iff x t).1 h).1; have := E1.out; have := E2.out; omega)
    subst e
    go_enter Try.func23, Try.ntmps23
    go_wp2
    go_ret
    exact ⟨rfl, 0, rfl⟩
  · have hmn2 : m ≤ n := by omega
    clear hmn
    have i2 : (m : Int) ≤ (n : Int) := by omega
    go_enter Try.func23, Try.ntmps23
    go_wp2_with fail
    go_loopw [5] (fun i wr => ∃ k : Nat, k ≤ m ∧ i = .int .i64 k ∧ Hid (∀ j, j < k → t[n - m + j]? = x[j]?) ∧ ∃ q, wr = w.drewN q) (fun i _ => m - (intOf i).toNat)
    case atStart => exact ⟨0, Nat.zero_le _, rfl, Lib.hid (fun j hj => by omega), 0, rfl⟩
    case round =>
      obtain ⟨k, hk, rfl, HT, mm, rfl⟩ := hrel
      by_cases hlt : k < m
      · obtain ⟨b1, o1, u1, rfl, hx1, hc1⟩ := R1.out.get (k := n - m + k) (by omega)
        obtain ⟨b2, o2, u2, rfl, hx2, hc2⟩ := R2.out.get hlt
        obtain ⟨x1, hl1, rfl⟩ := ints_get hx1
        obtain ⟨x2, hl2, rfl⟩ := ints_get hx2
        have q1 : (w.drewN mm).cell? ⟨b1, o1 + (n - m + k), none⟩ = some (.int .i64 x1) := hc1
        have q2 : (w.drewN mm).cell? ⟨b2, o2 + k, none⟩ = some (.int .i64 x2) := hc2
        have i0 : (0 : Int) ≤ (k : Int) := by omega
        have i1 : (k : Int) < (m : Int) := by omega
        have HL1 := Lib.hid hl1
        have HL2 := Lib.hid hl2
        clear hx1 hx2 hl1 hl2
        go_upto_region 6 with (fail)
        go_big_quiet (fail)
        by_cases hx : x1 = x2
        · subst hx
          go_wp2
          go_roundw
          case rel => exact ⟨k + 1, by omega, by go_num, Lib.hid (fun j hj => by
            rcases Nat.lt_or_ge j k with h | h
            · exact HT.out j h
            · obtain rfl : j = k := by omega
              rw [HL1.out, HL2.out]), _, rfl⟩
          case measure => simp [intOf]; omega
        · have hxb : (x1 != x2) = true := by simpa using hx
          have e : v = false := by
            rw [← HV.out]
            exact decide_eq_false (fun h => by
              have h3 := ((sfx_iff x t).1 h).2 k (by rw [← E2.out]; exact hlt)
              rw [← E1.out, ← E2.out, HL1.out, HL2.out] at h3
              injection h3 with h3
              exact hx h3)
          subst e
          clear hx
          go_wp2
          go_ret
          exact ⟨rfl, mm + nq, by first | exact World.drewN_drewN w mm nq | rfl⟩
      · have hkm : k = m := by omega
        have e : v = true := by
          rw [← HV.out]
          exact decide_eq_true ((sfx_iff x t).2 ⟨by rw [← E1.out, ← E2.out]; exact hmn2, fun i hi => by
            rw [← E1.out, ← E2.out]
            exact HT.out i (by rw [hkm, E2.out]; exact hi)⟩)
        subst e
        go_wp2
        go_ret
        exact ⟨rfl, mm, rfl⟩

def FarR (w : World) (m : Nat) (e : Ending) (w' : World) : Prop := (∃ v : Bool, e = .returned (.bool v) ∧ (v = false → m ≤ 100)) ∧ w = w'
theorem far_any {a : Option Addr} {c : Nat} (h : StopsAt w a c S) {b : Option Addr} {m d : Nat} (hm : m ≤ 9223372036854775807) : Calls Try.prog 7 #[.slice a S.length c, .slice b m d] w (FarR w m) := by
  obtain ⟨⟨vs, hr, hrow⟩, _⟩ := h
  have hcap := Nat.le_trans hr.cap hr.max
  unfold maxLen at hcap
  have HR := Lib.hid hr
  have HROW := Lib.hid hrow
  clear hr hrow
  obtain ⟨n, HN⟩ : ∃ n, Hid (S.length = n) := ⟨_, rfl⟩
  rw [HN.out] at HR hcap ⊢
  go_enter Try.func7, Try.ntmps7
  go_wp2_with fail
  go_loopw [9] (fun i wr => ∃ k : Nat, k ≤ n ∧ i = .int .i64 k ∧ wr = w) (fun i _ => n - (intOf i).toNat)
  case atStart => exact ⟨0, Nat.zero_le _, rfl, rfl⟩
  case round =>
    obtain ⟨k, hk, rfl, rfl⟩ := hrel
    by_cases hlt : k < n
    · obtain ⟨x, hx⟩ : ∃ x, S[k]? = some x := ⟨_, List.getElem?_eq_getElem (by rw [HN.out]; exact hlt)⟩
      obtain ⟨b, off, u, rfl, hu, hcu⟩ := HR.out.get hlt
      obtain ⟨ax, cx, hv, hxr⟩ := HROW.out k x hx
      rw [hu] at hv
      injection hv with hv
      subst hv
      have hxmax := Nat.le_trans hxr.cap hxr.max
      unfold maxLen at hxmax
      have k0 : (0 : Int) ≤ (k : Int) := by omega
      have k1 : (k : Int) < (n : Int) := by omega
      clear hxr hu hx
      obtain ⟨xn, HXN⟩ : ∃ xn, Hid (x.length = xn) := ⟨_, rfl⟩
      rw [HXN.out] at hcu hxmax
      by_cases hb : 100 < xn
      · go_wp2_with fail
        go_ret
        exact ⟨⟨true, rfl, fun h => by cases h⟩, rfl⟩
      · have hb2 : xn ≤ 100 := by omega
        clear hb
        go_wp2_with fail
        go_roundw
        case rel => exact ⟨k + 1, by omega, by go_num, by first | rfl | trivial⟩
        case measure => simp [intOf]; omega
    · have hke : k = n := by omega
      subst hke
      by_cases hb : 50 < k
      · go_wp2_with fail
        go_ret
        exact ⟨⟨_, rfl, fun h => by first | omega | (simp at h; done) | (simp at h; omega)⟩, rfl⟩
      · have hb2 : k ≤ 50 := by omega
        clear hb
        by_cases hc : 100 < m
        · go_wp2_with fail
          go_ret
          exact ⟨⟨_, rfl, fun h => by simp at h; omega⟩, rfl⟩
        · have hc2 : m ≤ 100 := by omega
          clear hc
          go_wp2_with fail
          go_ret
          exact ⟨⟨_, rfl, fun h => hc2⟩, rfl⟩

theorem rnew_any {a : Option Addr} {c : Nat} (h : StopsAt w a c S) : Calls Try.prog 10 #[.slice a S.length c] w fun e w' => e = .returned (.int .i64 (newE S)) ∧ w = w' := by
  obtain ⟨⟨vs, hr, hrow⟩, _⟩ := h
  have hcap := Nat.le_trans hr.cap hr.max
  unfold maxLen at hcap
  have HR := Lib.hid hr
  have HROW := Lib.hid hrow
  clear hr hrow
  obtain ⟨v, HV⟩ : ∃ v, Hid (newE S = v) := ⟨_, rfl⟩
  rw [HV.out]
  obtain ⟨n, HN⟩ : ∃ n, Hid (S.length = n) := ⟨_, rfl⟩
  rw [HN.out] at HR hcap ⊢
  by_cases hbig : 16 < n
  · have e : v = 5 := by rw [← HV.out]; exact if_neg (by rw [HN.out]; omega)
    subst e
    go_enter Try.func10, Try.ntmps10
    go_wp2_with fail
    go_ret
    exact ⟨rfl, rfl⟩
  · have hS : n ≤ 16 := by omega
    have HNE : Hid (newE S = if S.all good = true then 0 else 1) := Lib.hid (if_pos (by rw [HN.out]; exact hS))
    clear hbig
    go_enter Try.func10, Try.ntmps10
    go_wp2_with fail
    go_loopw [3] (fun i wr => ∃ k : Nat, k ≤ n ∧ i = .int .i64 k ∧ Hid (∀ x ∈ S.take k, good x = true) ∧ wr = w) (fun i _ => n - (intOf i).toNat)
    case atStart => exact ⟨0, Nat.zero_le _, rfl, Lib.hid (fun x hx => by simp at hx), rfl⟩
    case round =>
      obtain ⟨k, hk, rfl, HG, rfl⟩ := hrel
      by_cases hlt : k < n
      · obtain ⟨x, hx⟩ : ∃ x, S[k]? = some x := ⟨_, List.getElem?_eq_getElem (by rw [HN.out]; exact hlt)⟩
        obtain ⟨b, off, u, rfl, hu, hcu⟩ := HR.out.get hlt
        obtain ⟨ax, cx, hv, hxr⟩ := HROW.out k x hx
        rw [hu] at hv
        injection hv with hv
        subst hv
        have hxmax := Nat.le_trans hxr.cap hxr.max
        unfold maxLen at hxmax
        have k0 : (0 : Int) ≤ (k : Int) := by omega
        have k1 : (k : Int) < (n : Int) := by omega
        have HX := Lib.hid hx
        clear hxr hu hx
        obtain ⟨xn, HXN⟩ : ∃ xn, Hid (x.length = xn) := ⟨_, rfl⟩
        rw [HXN.out] at hcu hxmax
        by_cases hg : 1 ≤ xn ∧ xn ≤ 16
        · have hg1 := hg.1
          have hg2 := hg.2
          have HG2 : Hid (∀ y ∈ S.take (k + 1), good y = true) := Lib.hid (fun y hy => by
            rw [List.take_add_one, HX.out] at hy
            rcases List.mem_append.1 hy with hy | hy
            · exact HG.out y hy
            · simp at hy; subst hy; simp [good, HXN.out, hg1, hg2])
          have p0 : (1 : Int) ≤ (xn : Int) := by omega
          have p1 : (xn : Int) ≤ 16 := by omega
          clear hg
          go_wp2_with fail
          go_roundw
          case rel => exact ⟨k + 1, by omega, by go_num, HG2, by first | rfl | trivial⟩
          case measure => simp [intOf]; omega
        · have e : v = 1 := by
            rw [← HV.out, HNE.out, if_neg]
            intro h
            have := List.all_eq_true.1 h x (List.mem_of_getElem? HX.out)
            simp [good, HXN.out] at this
            omega
          subst e
          by_cases hg1 : xn < 1
          · clear hg
            go_wp2_with fail
            go_ret
            exact ⟨rfl, rfl⟩
          · have hg2 : 16 < xn := by omega
            have hg3 : 1 ≤ xn := by omega
            clear hg hg1
            go_wp2_with fail
            go_ret
            exact ⟨rfl, rfl⟩
      · have hke : k = n := by omega
        subst hke
        have e : v = 0 := by
          rw [← HV.out, HNE.out, if_pos]
          have := HG.out
          rw [List.take_of_length_le (by rw [HN.out]; exact Nat.le_refl _)] at this
          exact List.all_eq_true.2 this
        subst e
        go_wp2_with fail
        go_ret
        exact ⟨rfl, rfl⟩
end
end Go.Proofs.Ytcjhlkndcgldjaa.StG
