/-
  TokTables: any merges make a table, or are refused, and any token is spelt, as the document says. No condition.
-/
import Derived.Test.YtlndhmkkffcbnaaTkJ
import Derived.Test.YtlndhmkkffcbnaaTkB
namespace Go.Proofs.Ytlndhmkkffcbnaa.TkC
open Go.RowKit Go.Proofs.Ytlndhmkkffcbnaa.Kit Go.Proofs.Ytlndhmkkffcbnaa.TkM Go.Proofs.Ytlndhmkkffcbnaa.TkP Go.Proofs.Ytlndhmkkffcbnaa.TkQ Go.Proofs.Ytlndhmkkffcbnaa.TkW Go.Proofs.Ytlndhmkkffcbnaa.TkA Go.Proofs.Ytlndhmkkffcbnaa.TkN Go.Proofs.Ytlndhmkkffcbnaa.TkO Go.Proofs.Ytlndhmkkffcbnaa.TkL Go.Proofs.Ytlndhmkkffcbnaa.TkR Go.Proofs.Ytlndhmkkffcbnaa.TkS Go.Proofs.Ytlndhmkkffcbnaa.TkT Go.Proofs.Ytlndhmkkffcbnaa.TkU Go.Proofs.Ytlndhmkkffcbnaa.TkD Go.Proofs.Ytlndhmkkffcbnaa.TkF Go.Proofs.Ytlndhmkkffcbnaa.TkG Go.Proofs.Ytlndhmkkffcbnaa.TkJ Go.Proofs.Ytlndhmkkffcbnaa.TkH Go.Proofs.Ytlndhmkkffcbnaa.TkI Go.Proofs.Ytlndhmkkffcbnaa.TkB
attribute [local go_sem high] max_imax min_imin
attribute [local go_sem ↓] Go.wp_at_zero Go.wp_at_succ
set_option linter.unusedVariables false
section
variable {w : World}
theorem below_two {w w1 w2 : World} (h : Below w.heap.size w w1) (k : Below w1.heap.size w1 w2) : Below w.heap.size w w2 := h.trans (k.mono h.size)
theorem spl_one {L : List Pr} {t : Int} {r r' : List Int} (h : (¬ (1 ≤ t ∧ t < 17 + (L.length : Int)) ∧ r = []) ∨ Xp L t r) (h' : (¬ (1 ≤ t ∧ t < 17 + (L.length : Int)) ∧ r' = []) ∨ Xp L t r') : r = r' := by
  rcases h with ⟨h1, rfl⟩ | h1
  · rcases h' with ⟨_, rfl⟩ | h2
    · rfl
    · exact absurd h2.range h1
  · rcases h' with ⟨h2, rfl⟩ | h2
    · exact absurd h1.range h2
    · exact h1.one h2
set_option maxHeartbeats 2000000 in
theorem law_any {a : Option Addr} {c : Nat} {L : List Pr} {t : Int} (hL : Rd w 2 a L.length c (prs L)) (hok : ∀ p ∈ L, okP p) (ht : okT t) :
    Calls Try.prog 4 #[.slice a L.length c, .int .i64 t] w fun e w' => e = .returned (.bool true) ∧ Below w.heap.size w w' := by
  have hmax := Nat.le_trans hL.cap hL.max
  unfold maxLen at hmax
  have HAL := Lib.hid (fun w => alive_any (w := w))
  by_cases h1 : 200 < L.length
  · obtain ⟨n, HN⟩ : ∃ n, Hid (L.length = n) := ⟨_, Lib.hid rfl⟩
    rw [HN.out] at h1 hmax ⊢
    have h1' : (200 : Int) < (n : Int) := by omega
    clear hL hok
    go_enter Try.func4, Try.ntmps4
    go_wp2_with fail
    with_reducible refine (HAL.out _).mono ?_
    rintro e w1 ⟨rfl, hb1⟩
    have HB1 := Lib.hid hb1
    clear hb1
    go_wp2_with fail
    go_ret
    exact ⟨rfl, HB1.out⟩
  · have HTH := Lib.hid (theirs_any hL (by omega))
    have HRL := Lib.hid hL
    have HOK := Lib.hid hok
    have HLL : Hid (L.length ≤ 200) := Lib.hid (by omega)
    have HTT := Lib.hid ht
    have HNW : Hid (∀ w1 a1 c1, Own w1 w.heap.size 54 2 a1 L.length c1 (prs L) → Calls Try.prog 8 #[.slice a1 L.length c1] w1 (NewR w1 L)) := Lib.hid (fun w1 a1 c1 ho => new_any ho.rd hok)
    have HDN : Hid (∀ w1, Below w.heap.size w w1 → Calls Try.prog 10 #[.slice a L.length c] w1 (DNewR w1 L)) := Lib.hid (fun w1 hb => dnew_any (rd_on (by omega) hL hb))
    have HBG : Hid (TkP.Good L → ∀ w1, Below w.heap.size w w1 → Calls Try.prog 11 #[.slice a L.length c] w1 (BigR w1 L)) := Lib.hid (fun hg w1 hb => big_any (rd_on (by omega) hL hb) hg (by omega))
    have HDS : Hid (TkP.Good L → (∀ x, Xp L t x → x.length ≤ 300) → ∀ w1, Below w.heap.size w w1 → Calls Try.prog 19 #[.slice a L.length c, .int .i64 t] w1 (SplR w1 L t)) := Lib.hid (fun hg hs w1 hb => dspl_any (rd_on (by omega) hL hb) hg (by omega) ht (fun x hx => by have := hs x hx; omega))
    obtain ⟨n, HN⟩ : ∃ n, Hid (L.length = n) := ⟨_, Lib.hid rfl⟩
    rw [HN.out] at h1 hmax HTH HRL HLL HNW HDN HBG HDS ⊢
    have h1' : (n : Int) ≤ 200 := by omega
    clear hL hok h1 ht
    go_enter Try.func4, Try.ntmps4
    go_wp2_with fail
    with_reducible refine HTH.out.mono ?_
    rintro e0 w1 ⟨a1, c1, he, ho1, hb1⟩
    rw [HN.out] at he ho1
    subst he
    have HO1 := Lib.hid ho1
    have HB1 := Lib.hid hb1
    have HNW1 := Lib.hid (HNW.out w1 a1 c1 ho1)
    clear ho1 hb1
    go_wp2_with fail
    with_reducible refine HNW1.out.mono ?_
    rintro e0 w2 ⟨hb2, p, rfl, hp⟩
    have HB2 := Lib.hid (below_two HB1.out hb2)
    have HD2 := Lib.hid (HDN.out w2 HB2.out)
    clear hb2
    obtain ⟨E, HE⟩ : ∃ E, Hid (newE L = E) := ⟨_, Lib.hid rfl⟩
    have HP := Lib.hid hp
    clear hp
    rw [HE.out]
    go_wp2_with fail
    with_reducible refine HD2.out.mono ?_
    rintro e0 w3 ⟨he, hb3⟩
    rw [HE.out] at he
    subst he
    have HB3 := Lib.hid (below_two HB2.out hb3)
    rcases HP.out with ⟨hne, rfl⟩ | ⟨hz, g, rfl, ht⟩
    · rw [HE.out] at hne
      have hE1 : (E == 0) = false := by simpa using hne
      have hE2 : (E != 0) = true := by simpa using hne
      clear hne hb3
      go_wp2_with fail
      with_reducible refine (HAL.out _).mono ?_
      rintro e w4 ⟨rfl, hb4⟩
      have HB4 := Lib.hid (below_two HB3.out hb4)
      clear hb4
      go_wp2_with fail
      go_ret
      exact ⟨rfl, HB4.out⟩
    · have HG := Lib.hid (newE_zero hz).2
      have HT3 := Lib.hid (ht.on hb3)
      have hE0 : E = 0 := by rw [← HE.out]; exact hz
      subst hE0
      have HBG3 := Lib.hid (HBG.out HG.out w3 HB3.out)
      clear hz ht hb3
      go_wp2_with fail
      with_reducible refine HBG3.out.mono ?_
      rintro e0 w4 ⟨hb4, v, rfl, hv⟩
      have HB4 := Lib.hid (below_two HB3.out hb4)
      have HT4 := Lib.hid (HT3.out.on hb4)
      have HV4 := Lib.hid (vocab_any HT4.out)
      rw [HN.out, show ((17 + n : Nat) : Int) = 17 + (n : Int) by omega] at HV4
      cases v
      · have HSM := Lib.hid (hv rfl)
        have HSP := Lib.hid (spl_any HT4.out HG.out (by have := HLL.out; have := HN.out; omega) (t := t) (fun x hx => by have := HSM.out t x hx; omega))
        clear hb4 hv
        go_wp2_with fail
        with_reducible refine HV4.out.mono ?_
        rintro e0 w5 ⟨rfl, rfl⟩
        go_wp2_with fail
        with_reducible refine HSP.out.mono ?_
        rintro e0 w5 ⟨hb5, r, a5, c5, rfl, ho5, hr5⟩
        have HB5 := Lib.hid (below_two HB4.out hb5)
        have HO5 := Lib.hid ho5
        have HR5 := Lib.hid hr5
        have HDS5 := Lib.hid (HDS.out HG.out (HSM.out t) w5 HB5.out)
        clear hb5 ho5 hr5
        obtain ⟨rl, HRLN⟩ : ∃ rl, Hid (r.length = rl) := ⟨_, Lib.hid rfl⟩
        rw [HRLN.out]
        go_wp2_with fail
        with_reducible refine HDS5.out.mono ?_
        rintro e0 w6 ⟨hb6, r', a6, c6, rfl, ho6, hr6⟩
        obtain rfl := spl_one HR5.out hr6
        have HB6 := Lib.hid (below_two HB5.out hb6)
        have hsm := same_eq (rd_on (by omega) HO5.out.rd hb6) ho6.rd
        rw [HRLN.out] at hsm ⊢
        have HSE := Lib.hid hsm
        clear hb6 ho6 hr6 hsm
        go_wp2_with fail
        with_reducible refine HSE.out.mono ?_
        rintro e0 w7 ⟨rfl, hb7⟩
        have HB7 := Lib.hid (below_two HB6.out hb7)
        clear hb7
        go_wp2_with fail
        with_reducible refine (HAL.out _).mono ?_
        rintro e w8 ⟨rfl, hb8⟩
        have HB8 := Lib.hid (below_two HB7.out hb8)
        clear hb8
        go_wp2_with fail
        go_ret
        exact ⟨rfl, HB8.out⟩
      · clear hb4 hv
        go_wp2_with fail
        with_reducible refine HV4.out.mono ?_
        rintro e0 w5 ⟨rfl, rfl⟩
        go_wp2_with fail
        with_reducible refine (HAL.out _).mono ?_
        rintro e w8 ⟨rfl, hb8⟩
        have HB8 := Lib.hid (below_two HB4.out hb8)
        clear hb8
        go_wp2_with fail
        go_ret
        exact ⟨rfl, HB8.out⟩
theorem entry (W : World) (v0 v1 : Value) (g0 : Arg W (.slice (.struct (.cons (.int .i64) (.cons (.int .i64) .none)))) v0) (g1 : Arg W (.int .i64) v1) : Calls Try.prog 4 #[v0, v1] W fun e w' => e = .returned (.bool true) ∧ Below W.heap.size W w' := by
  obtain ⟨L, a, c, rfl, hl, hok⟩ := rd_prs g0
  obtain ⟨t, he, ht⟩ := g1
  injection he with he
  subst he
  exact law_any hl hok ht
end
end Go.Proofs.Ytlndhmkkffcbnaa.TkC
