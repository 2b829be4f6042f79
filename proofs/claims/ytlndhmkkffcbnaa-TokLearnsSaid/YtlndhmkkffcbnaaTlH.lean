/-
  TokLearns: what is learnt of any texts is the document's, and makes a table. No condition.
-/
import Derived.Test.YtlndhmkkffcbnaaTlG
import Derived.Test.YtlndhmkkffcbnaaTkB
namespace Go.Proofs.Ytlndhmkkffcbnaa.TlH
open Go.RowKit Go.Proofs.Ytlndhmkkffcbnaa.Kit Go.Proofs.Ytlndhmkkffcbnaa.TkM Go.Proofs.Ytlndhmkkffcbnaa.TkP Go.Proofs.Ytlndhmkkffcbnaa.TkQ Go.Proofs.Ytlndhmkkffcbnaa.TkN Go.Proofs.Ytlndhmkkffcbnaa.TkO Go.Proofs.Ytlndhmkkffcbnaa.TkI Go.Proofs.Ytlndhmkkffcbnaa.TkB Go.Proofs.Ytlndhmkkffcbnaa.TlP Go.Proofs.Ytlndhmkkffcbnaa.TlE Go.Proofs.Ytlndhmkkffcbnaa.TlF Go.Proofs.Ytlndhmkkffcbnaa.TlG Go.Proofs.Ytlndhmkkffcbnaa.TlD
attribute [local go_sem high] max_imax min_imin
attribute [local go_sem ↓] Go.wp_at_zero Go.wp_at_succ
set_option linter.unusedVariables false
section
variable {w : World}
/-- The texts that come in. -/
theorem isTexts (W : World) (v : Value) (h : Arg W (.slice (.slice (.int .u8))) v) : ∃ S a c, v = .slice a (List.length S) c ∧ TxR W a c S := by
  obtain ⟨rows, a, c, rfl, hr, hrows⟩ := rd_of (by simp [Sh.size]) h
  have key : ∀ rows : List (List Value), (∀ row ∈ rows, row.length = (Sh.slice (.int .u8)).size ∧ Reads W (.slice (.int .u8)) row) →
      ∃ S : List (List Int), S.length = rows.length ∧ (∀ (i : Nat) (x : List Int), S[i]? = some x → ∃ a' c', rows.flatten[i]? = some (.slice a' x.length c') ∧ Rd W 1 a' x.length c' (bys x)) ∧ ∀ x ∈ S, okB x := by
    intro rows
    induction rows with
    | nil => exact fun _ => ⟨[], rfl, fun i x hx => by simp at hx, fun x hx => by simp at hx⟩
    | cons row rest ih =>
      intro hx
      obtain ⟨S, h1, h2, h3⟩ := ih (fun r hr => hx r (List.mem_cons_of_mem _ hr))
      obtain ⟨hl, hrd⟩ := hx row (List.mem_cons_self ..)
      match row, hl, hrd with
      | [v], _, hrd =>
        obtain ⟨l, a', c', rfl, hr', hok⟩ := rd_bys hrd
        refine ⟨l :: S, by simp [h1], fun i x hi => ?_, fun x hx' => ?_⟩
        · cases i with
          | zero =>
            simp at hi
            subst hi
            exact ⟨a', c', by simp, hr'⟩
          | succ i =>
            simp at hi
            obtain ⟨a2, c2, h4, h5⟩ := h2 i x hi
            exact ⟨a2, c2, by simpa using h4, h5⟩
        · rcases List.mem_cons.1 hx' with rfl | hx'
          · exact hok
          · exact h3 x hx'
  obtain ⟨S, h1, h2, h3⟩ := key rows hrows
  exact ⟨S, a, c, by rw [h1], ⟨⟨_, by rw [h1]; exact hr, h2⟩, h3⟩⟩
theorem good_ok {R : List Pr} (hg : TkP.Good R) (hl : R.length ≤ 40) : ∀ p ∈ R, okP p := by
  intro p hp
  obtain ⟨i, hi⟩ := List.getElem?_of_mem hp
  have h1 := hg i p hi
  unfold okAt at h1
  have h2 : (R.take i).length ≤ 40 := by rw [List.length_take]; omega
  exact ⟨(okT_iff _).2 (by omega), (okT_iff _).2 (by omega)⟩
set_option maxHeartbeats 4000000 in
theorem law_any {a : Option Addr} {c : Nat} {T : List (List Int)} (h : TxR w a c T) (most : Int) : Calls Try.prog 6 #[.slice a T.length c, .int .i64 most] w fun e w' => e = .returned (.bool true) ∧ Below w.heap.size w w' := by
  have hmax : T.length ≤ 9223372036854775807 := by
    obtain ⟨⟨vs, h1, _⟩, _⟩ := h
    have := Nat.le_trans h1.cap h1.max
    unfold maxLen at this
    omega
  have HAL := Lib.hid (fun w => alive_any (w := w))
  have HR := Lib.hid h
  by_cases h1 : 6 < T.length
  · obtain ⟨n, HN⟩ : ∃ n, Hid (T.length = n) := ⟨_, Lib.hid rfl⟩
    rw [HN.out] at h1 hmax ⊢
    have h1' : (6 : Int) < (n : Int) := by omega
    clear h
    go_enter Try.func6, Try.ntmps6
    go_wp2_with fail
    with_reducible refine (HAL.out _).mono ?_
    rintro e w1 ⟨rfl, hb1⟩
    have HB1 := Lib.hid hb1
    clear hb1
    go_wp2_with fail
    go_ret
    exact ⟨rfl, HB1.out⟩
  · have HT6 : Hid (T.length ≤ 6) := Lib.hid (by omega)
    have HLN : Hid (Few T → Calls Try.prog 20 #[.slice a T.length c, .int .i64 most] w (LearnR w T most)) := Lib.hid (fun hf => learn_any h hf most)
    have HDL : Hid (Few T → ∀ w1, Below w.heap.size w w1 → Calls Try.prog 21 #[.slice a T.length c, .int .i64 most] w1 (DLearnR w1 T most)) := Lib.hid (fun hf w1 hb => dlearn_any (h.on hb) hf most)
    obtain ⟨n, HN⟩ : ∃ n, Hid (T.length = n) := ⟨_, Lib.hid rfl⟩
    rw [HN.out] at h1 hmax HT6 HLN HDL ⊢
    have h1' : (n : Int) ≤ 6 := by omega
    clear h h1
    go_enter Try.func6, Try.ntmps6
    go_wp2_with fail
    go_loop [18] (fun i => ∃ (k : Nat), k ≤ n ∧ i = .int .i64 k ∧ Hid (∀ x ∈ T.take k, x.length ≤ 30)) (fun i => n - (intOf i).toNat)
    case atStart => exact ⟨0, by omega, rfl, Lib.hid (by simp)⟩
    case round =>
      obtain ⟨k, hk, rfl, HX⟩ := hrel
      by_cases hlt : k < n
      · obtain ⟨x, hx⟩ : ∃ x, T[k]? = some x := ⟨_, List.getElem?_eq_getElem (by rw [HN.out]; exact hlt)⟩
        obtain ⟨b0, o0, a1, c1, rfl, hc0, hrx⟩ := HR.out.get hx
        have hxmax := Nat.le_trans hrx.cap hrx.max
        unfold maxLen at hxmax
        have HTK : Hid (x.length ≤ 30 → ∀ y ∈ T.take (k + 1), y.length ≤ 30) := Lib.hid (by
          rw [List.take_add_one, hx]
          intro h y hy
          rcases List.mem_append.1 hy with hy | hy
          · exact HX.out y hy
          · simp at hy
            subst hy
            exact h)
        obtain ⟨m, HML⟩ : ∃ m, Hid (x.length = m) := ⟨_, Lib.hid rfl⟩
        rw [HML.out] at hc0 HTK hxmax
        have k0 : (0 : Int) ≤ (k : Int) := by omega
        have k1 : (k : Int) < (n : Int) := by omega
        have HLT := Lib.hid hlt
        clear hx hlt hrx
        by_cases hm : 30 < m
        · have hm' : (30 : Int) < (m : Int) := by omega
          go_wp2_with fail
          with_reducible refine (HAL.out _).mono ?_
          rintro e w1 ⟨rfl, hb1⟩
          have HB1 := Lib.hid hb1
          clear hb1
          go_wp2_with fail
          go_ret
          exact ⟨rfl, HB1.out⟩
        · have hm' : (m : Int) ≤ 30 := by omega
          have hdc : decide ((30 : Int) < (m : Int)) = false := by simp; omega
          have HX2 := Lib.hid (HTK.out (by omega))
          clear hm
          go_wp2_with fail
          go_round
          case rel => exact ⟨k + 1, HLT.out, by go_num, HX2⟩
          case measure => have := HLT.out; simp [intOf]; omega
      · obtain rfl : k = n := by omega
        have HFEW : Hid (Few T) := Lib.hid ⟨by rw [HN.out]; exact HT6.out, by
          have h1 := HX.out
          rw [List.take_of_length_le (by have := HN.out; omega)] at h1
          exact h1⟩
        have HLN1 := Lib.hid (HLN.out HFEW.out)
        obtain ⟨N, HNN⟩ : ∃ N, Hid (k = N) := ⟨_, Lib.hid rfl⟩
        rw [HNN.out] at HLN1 HDL ⊢
        clear hlt hk
        go_wp2_with fail
        with_reducible refine HLN1.out.mono ?_
        rintro e0 w1 ⟨hb1, R, a1, c1, rfl, hr1, hl1, hg1, h40⟩
        have HB1 := Lib.hid hb1
        have HR1 := Lib.hid hr1
        have HL1 := Lib.hid hl1
        have HG1 := Lib.hid hg1
        have H40 := Lib.hid h40
        have HDL1 := Lib.hid (HDL.out HFEW.out w1 HB1.out)
        clear hb1 hr1 hl1 hg1 h40
        obtain ⟨r, HRL⟩ : ∃ r, Hid (R.length = r) := ⟨_, Lib.hid rfl⟩
        rw [HRL.out] at HR1 ⊢
        go_wp2_with fail
        with_reducible refine HDL1.out.mono ?_
        rintro e0 w2 ⟨hb2, R', a2, c2, rfl, hr2, hl2⟩
        obtain rfl := hl2.one HL1.out
        have HB2 := Lib.hid (below_two2 HB1.out hb2)
        have HR12 := Lib.hid (rd_on (by omega) HR1.out hb2)
        rw [HRL.out] at hr2 ⊢
        have HR2 := Lib.hid hr2
        have hrb : r ≤ 40 := by have := H40.out; have := HRL.out; omega
        clear hb2 hr2 hl2
        go_wp2_with fail
        go_loopw [40] (fun i wr => ∃ (j m : Nat), j ≤ r ∧ i = .int .i64 j ∧ wr = w2.drewN m) (fun i _ => r - (intOf i).toNat)
        case atStart => exact ⟨0, 0, by omega, rfl, rfl⟩
        case round =>
          obtain ⟨j, mm, hj, rfl, rfl⟩ := hrel
          by_cases hlt : j < r
          · obtain ⟨b1, o1, p, rfl, hp, hc0, hc1⟩ := rd_pair HR12.out hlt
            obtain ⟨b2, o2, p2, rfl, hp2, hd0, hd1⟩ := rd_pair HR2.out hlt
            rw [hp] at hp2
            injection hp2 with hp2
            subst hp2
            obtain ⟨x, y⟩ := p
            dsimp only at hc0 hc1 hd0 hd1
            have j0 : (0 : Int) ≤ (j : Int) := by omega
            have j1 : (j : Int) < (r : Int) := by omega
            have HLT := Lib.hid hlt
            clear hp hlt
            go_upto_region 15 with (fail)
            go_big_quiet (fail)
            clear hc0 hc1 hd0 hd1
            go_wp2_with fail
            go_roundw
            case rel => exact ⟨j + 1, _, HLT.out, by go_num, rfl⟩
            case measure => have := HLT.out; simp [intOf]; omega
          · obtain rfl : j = r := by omega
            have HRZ := Lib.hid (rd_on (by omega) HR12.out (below_drewN (Below.refl w2.heap.size w2) mm))
            have hnw := new_any (w := w2.drewN mm) (L := R') (by rw [HRL.out]; exact HRZ.out) (good_ok HG1.out H40.out)
            rw [HRL.out] at hnw
            have HNW := Lib.hid hnw
            have HNE : Hid (newE R' = 0) := Lib.hid (newE_good (by have := H40.out; omega) HG1.out)
            clear hlt hnw
            go_wp2_with fail
            with_reducible refine HNW.out.mono ?_
            rintro e0 w3 ⟨hb3, p, rfl, _⟩
            rw [HNE.out]
            have HB3 := Lib.hid (below_two2 (below_drewN HB2.out mm) hb3)
            clear hb3
            go_wp2_with fail
            with_reducible refine (HAL.out _).mono ?_
            rintro e w8 ⟨rfl, hb8⟩
            have HB8 := Lib.hid (below_two2 HB3.out hb8)
            clear hb8
            go_wp2_with fail
            go_ret
            exact ⟨rfl, HB8.out⟩
theorem entry (W : World) (v0 v1 : Value) (g0 : Arg W (.slice (.slice (.int .u8))) v0) (g1 : Arg W (.int .i64) v1) : Calls Try.prog 6 #[v0, v1] W fun e w' => e = .returned (.bool true) ∧ Below W.heap.size W w' := by
  obtain ⟨T, a, c, rfl, hT⟩ := isTexts W v0 g0
  obtain ⟨t, he, _⟩ := g1
  injection he with he
  subst he
  exact law_any hT t
end
end Go.Proofs.Ytlndhmkkffcbnaa.TlH
