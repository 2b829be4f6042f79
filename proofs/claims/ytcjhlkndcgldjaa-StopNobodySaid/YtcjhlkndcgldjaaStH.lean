/-
  Walks over the stops' document: Ended, Held, Find.
-/
import Derived.Test.YtcjhlkndcgldjaaStG
namespace Go.Proofs.Ytcjhlkndcgldjaa.StH
open Go.RowKit Go.Proofs.Ytcjhlkndcgldjaa.Kit Go.Proofs.Ytcjhlkndcgldjaa.StP Go.Proofs.Ytcjhlkndcgldjaa.StM Go.Proofs.Ytcjhlkndcgldjaa.StN Go.Proofs.Ytcjhlkndcgldjaa.StG
attribute [local go_sem high] max_imax min_imin
attribute [local go_sem ↓] Go.wp_at_zero Go.wp_at_succ
set_option linter.unusedVariables false

section
variable {L : List Wd} {x t : Wd} {v : Int}
theorem get_snoc {i : Nat} {y : Wd} (h : L[i]? = some y) : (L ++ [x])[i]? = some y := by
  rw [List.getElem?_append_left (List.getElem?_eq_some_iff.1 h).1]
  exact h
theorem isEnd_skip (h : IsEnd L t v) (hx : ¬ x <:+ t) : IsEnd (L ++ [x]) t v := by
  rcases h with ⟨h1, h2⟩ | ⟨i, y, h1, h2, h3, h4, h5⟩
  · exact .inl ⟨h1, fun z hz => by
      rcases List.mem_append.1 hz with hz | hz
      · exact h2 z hz
      · simp at hz; subst hz; exact hx⟩
  · exact .inr ⟨i, y, get_snoc h1, h2, h3, fun z hz hs => by
      rcases List.mem_append.1 hz with hz | hz
      · exact h4 z hz hs
      · simp at hz; subst hz; exact absurd hs hx, fun j hj e => by
      have hi := (List.getElem?_eq_some_iff.1 h1).1
      rw [List.getElem?_append_left (by omega)] at e
      exact h5 j hj e⟩
theorem isEnd_new (h : IsEnd L t v) (hv : v < 0) (hx : x <:+ t) : IsEnd (L ++ [x]) t (L.length : Int) := by
  rcases h with ⟨h1, h2⟩ | ⟨i, y, h1, h2, h3, h4, h5⟩
  · exact .inr ⟨L.length, x, by simp, rfl, hx, fun z hz hs => by
      rcases List.mem_append.1 hz with hz | hz
      · exact absurd hs (h2 z hz)
      · simp at hz; subst hz; exact Nat.le_refl _, fun j hj e => by
      rw [List.getElem?_append_left hj] at e
      exact h2 x (List.mem_of_getElem? e) hx⟩
  · omega
theorem isEnd_more (h : IsEnd L t v) {i : Nat} {y : Wd} (hv : v = (i : Int)) (hy : L[i]? = some y) (hl : y.length < x.length) (hx : x <:+ t) : IsEnd (L ++ [x]) t (L.length : Int) := by
  rcases h with ⟨h1, h2⟩ | ⟨i', y', h1, h2, h3, h4, h5⟩
  · omega
  · obtain rfl : i = i' := by omega
    rw [hy] at h1
    injection h1 with h1
    subst h1
    exact .inr ⟨L.length, x, by simp, rfl, hx, fun z hz hs => by
      rcases List.mem_append.1 hz with hz | hz
      · have := h4 z hz hs; omega
      · simp at hz; subst hz; exact Nat.le_refl _, fun j hj e => by
      rw [List.getElem?_append_left hj] at e
      have := h4 x (List.mem_of_getElem? e) hx
      omega⟩
theorem isEnd_keep (h : IsEnd L t v) {i : Nat} {y : Wd} (hv : v = (i : Int)) (hy : L[i]? = some y) (hl : x.length ≤ y.length) : IsEnd (L ++ [x]) t v := by
  rcases h with ⟨h1, h2⟩ | ⟨i', y', h1, h2, h3, h4, h5⟩
  · omega
  · obtain rfl : i = i' := by omega
    rw [hy] at h1
    injection h1 with h1
    subst h1
    exact .inr ⟨i, y, get_snoc hy, hv, h3, fun z hz hs => by
      rcases List.mem_append.1 hz with hz | hz
      · exact h4 z hz hs
      · simp at hz; subst hz; exact hl, fun j hj e => by
      have hi := (List.getElem?_eq_some_iff.1 hy).1
      rw [List.getElem?_append_left (by omega)] at e
      exact h5 j hj e⟩
theorem isEnd_get (h : IsEnd L t v) (hv : ¬ v < 0) : ∃ (i : Nat) (y : Wd), v = (i : Int) ∧ L[i]? = some y := by
  rcases h with ⟨h1, h2⟩ | ⟨i, y, h1, h2, _⟩
  · omega
  · exact ⟨i, y, h2, h1⟩
end

section
variable {w : World} {S : List Wd}
set_option maxHeartbeats 1000000 in
theorem rended_any {a : Option Addr} {c : Nat} (h : StopsAt w a c S) {t : Wd} {b : Option Addr} {m d : Nat} (h2 : Rd w 1 b m d (ints t)) :
    Calls Try.prog 16 #[.slice a S.length c, .slice b m d] w fun e w' => e = .returned (.int .i64 (endOf S t)) ∧ ∃ q, w' = w.drewN q := by
  obtain ⟨⟨vs, hr, hrow⟩, _⟩ := h
  have hcap := Nat.le_trans hr.cap hr.max
  unfold maxLen at hcap
  have HR := Lib.hid hr
  have HROW := Lib.hid hrow
  have R2 := Lib.hid h2
  clear hr hrow h2
  obtain ⟨n, HN⟩ : ∃ n, Hid (S.length = n) := ⟨_, rfl⟩
  rw [HN.out] at HR hcap ⊢
  go_enter Try.func16, Try.ntmps16
  go_wp2_with fail
  go_loopw [6, 5] (fun i u wr => ∃ (k : Nat) (v : Int), k ≤ n ∧ i = .int .i64 k ∧ u = .int .i64 v ∧ Hid (IsEnd (S.take k) t v) ∧ ∃ q, wr = w.drewN q) (fun i _ _ => n - (intOf i).toNat)
  case atStart => exact ⟨0, -1, Nat.zero_le _, rfl, rfl, Lib.hid (.inl ⟨rfl, fun x hx => by simp at hx⟩), 0, rfl⟩
  case round =>
    obtain ⟨k, v, hk, rfl, rfl, HE, mm, rfl⟩ := hrel
    by_cases hlt : k < n
    · obtain ⟨x, hx⟩ : ∃ x, S[k]? = some x := ⟨_, List.getElem?_eq_getElem (by rw [HN.out]; exact hlt)⟩
      obtain ⟨b0, off, u, rfl, hu, hcu⟩ := HR.out.get hlt
      obtain ⟨ax, cx, hv, hxr⟩ := HROW.out k x hx
      rw [hu] at hv
      injection hv with hv
      subst hv
      have TS : ∀ j, Hid (Calls Try.prog 23 #[.slice b m d, .slice ax x.length cx] (w.drewN j) fun e w' => e = .returned (.bool (decide (x <:+ t))) ∧ ∃ q, w' = (w.drewN j).drewN q) := fun j => Lib.hid (ends_any (R2.out.drewN j) (hxr.drewN j))
      have hxmax := Nat.le_trans hxr.cap hxr.max
      unfold maxLen at hxmax
      have k0 : (0 : Int) ≤ (k : Int) := by omega
      have k1 : (k : Int) < (n : Int) := by omega
      have q1 : w.cell? ⟨b0, off + k, none⟩ = some (.slice ax x.length cx) := hcu
      have htk : S.take (k + 1) = S.take k ++ [x] := by rw [List.take_add_one, hx]; rfl
      have hlk : (S.take k).length = k := by rw [List.length_take, HN.out]; omega
      have HTK := Lib.hid htk
      have HLK := Lib.hid hlk
      obtain ⟨xn, HXN⟩ : ∃ xn, Hid (x.length = xn) := ⟨_, rfl⟩
      simp only [HXN.out] at TS
      rw [HXN.out] at q1 hxmax
      clear hxr hu hx hcu htk hlk
      by_cases hs : x <:+ t
      · have HS := Lib.hid hs
        have ed : decide (x <:+ t) = true := decide_eq_true hs
        rw [ed] at TS
        clear hs ed
        by_cases hv : v < 0
        · have HI := Lib.hid (isEnd_new HE.out hv HS.out)
          rw [← HTK.out, HLK.out] at HI
          have d1 : decide (v < 0) = true := decide_eq_true hv
          go_upto_region 5 with (fail)
          go_big_quiet ((go_at_call 23; first | exact Calls.quiet_of (TS _).out | exact quiet_add (TS _).out))
          go_wp2
          go_roundw
          case rel => exact ⟨k + 1, k, by omega, by go_num, rfl, HI, _, rfl⟩
          case measure => simp [intOf]; omega
        · obtain ⟨i, y, hvi, hy⟩ := isEnd_get HE.out hv
          have hik := (List.getElem?_eq_some_iff.1 hy).1
          rw [HLK.out] at hik
          have hyS : S[i]? = some y := by rw [List.getElem?_take_of_lt hik] at hy; exact hy
          obtain ⟨ay, cy, hvy, hyr⟩ := HROW.out i y hyS
          obtain ⟨b1, off1, u1, e1, hu1, hcu1⟩ := HR.out.get (k := i) (by omega)
          injection e1 with e1
          injection e1 with e1 e2
          subst e1
          subst e2
          rw [hu1] at hvy
          injection hvy with hvy
          subst hvy
          have q2 : w.cell? ⟨b0, off + i, none⟩ = some (.slice ay y.length cy) := hcu1
          have hymax := Nat.le_trans hyr.cap hyr.max
          unfold maxLen at hymax
          subst hvi
          have i0 : (0 : Int) ≤ (i : Int) := by omega
          have i1 : (i : Int) < (n : Int) := by omega
          have HY := Lib.hid hy
          obtain ⟨yn, HYN⟩ : ∃ yn, Hid (y.length = yn) := ⟨_, rfl⟩
          rw [HYN.out] at q2 hymax
          have d1 : decide ((i : Int) < 0) = false := decide_eq_false (by omega)
          clear hv hyr hyS hy hcu1 hu1 hik
          by_cases hl : yn < xn
          · have HI := Lib.hid (isEnd_more HE.out rfl HY.out (by rw [HXN.out, HYN.out]; exact hl) HS.out)
            rw [← HTK.out, HLK.out] at HI
            have l1 : (yn : Int) < (xn : Int) := by omega
            go_upto_region 5 with (fail)
            go_big_quiet ((go_at_call 23; first | exact Calls.quiet_of (TS _).out | exact quiet_add (TS _).out))
            go_wp2
            go_roundw
            case rel => exact ⟨k + 1, k, by omega, by go_num, rfl, HI, _, rfl⟩
            case measure => simp [intOf]; omega
          · have HI := Lib.hid (isEnd_keep (x := x) HE.out rfl HY.out (by rw [HXN.out, HYN.out]; omega))
            rw [← HTK.out] at HI
            have l1 : (xn : Int) ≤ (yn : Int) := by omega
            have l2 : xn ≤ yn := by omega
            clear hl
            go_upto_region 5 with (fail)
            go_big_quiet ((go_at_call 23; first | exact Calls.quiet_of (TS _).out | exact quiet_add (TS _).out))
            go_wp2
            go_roundw
            case rel => exact ⟨k + 1, i, by omega, by go_num, rfl, HI, _, rfl⟩
            case measure => simp [intOf]; omega
      · have HI := Lib.hid (isEnd_skip (x := x) HE.out hs)
        rw [← HTK.out] at HI
        have ed : decide (x <:+ t) = false := decide_eq_false hs
        rw [ed] at TS
        clear hs ed
        go_upto_region 5 with (fail)
        go_big_quiet ((go_at_call 23; first | exact Calls.quiet_of (TS _).out | exact quiet_add (TS _).out))
        go_wp2
        go_roundw
        case rel => exact ⟨k + 1, v, by omega, by go_num, rfl, HI, _, rfl⟩
        case measure => simp [intOf]; omega
    · have hke : k = n := by omega
      subst hke
      have e : v = endOf S t := by
        have h1 := HE.out
        rw [List.take_of_length_le (by rw [HN.out]; exact Nat.le_refl _)] at h1
        exact h1.one (endOf_is S t)
      subst e
      go_wp2_with fail
      go_ret
      exact ⟨rfl, mm, rfl⟩
end
end Go.Proofs.Ytcjhlkndcgldjaa.StH
