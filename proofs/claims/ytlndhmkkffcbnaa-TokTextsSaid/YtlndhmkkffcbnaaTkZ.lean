/-
  TokTexts: any text's tokens, and any tokens' text, by any merges, are the document's, or refused. No condition.
-/
import Derived.Test.YtlndhmkkffcbnaaTkY
import Derived.Test.YtlndhmkkffcbnaaTkB
namespace Go.Proofs.Ytlndhmkkffcbnaa.TkZ
open Go.RowKit Go.Proofs.Ytlndhmkkffcbnaa.Kit Go.Proofs.Ytlndhmkkffcbnaa.TkM Go.Proofs.Ytlndhmkkffcbnaa.TkP Go.Proofs.Ytlndhmkkffcbnaa.TkQ Go.Proofs.Ytlndhmkkffcbnaa.TkW Go.Proofs.Ytlndhmkkffcbnaa.TkA Go.Proofs.Ytlndhmkkffcbnaa.TkN Go.Proofs.Ytlndhmkkffcbnaa.TkO Go.Proofs.Ytlndhmkkffcbnaa.TkL Go.Proofs.Ytlndhmkkffcbnaa.TkR Go.Proofs.Ytlndhmkkffcbnaa.TkS Go.Proofs.Ytlndhmkkffcbnaa.TkT Go.Proofs.Ytlndhmkkffcbnaa.TkU Go.Proofs.Ytlndhmkkffcbnaa.TkD Go.Proofs.Ytlndhmkkffcbnaa.TkF Go.Proofs.Ytlndhmkkffcbnaa.TkG Go.Proofs.Ytlndhmkkffcbnaa.TkJ Go.Proofs.Ytlndhmkkffcbnaa.TkH Go.Proofs.Ytlndhmkkffcbnaa.TkI Go.Proofs.Ytlndhmkkffcbnaa.TkB Go.Proofs.Ytlndhmkkffcbnaa.TkK Go.Proofs.Ytlndhmkkffcbnaa.TkX Go.Proofs.Ytlndhmkkffcbnaa.TkY
attribute [local go_sem high] max_imax min_imin
attribute [local go_sem ↓] Go.wp_at_zero Go.wp_at_succ
set_option linter.unusedVariables false
section
variable {w : World}
theorem enc_one {L : List Pr} {b r r' : List Int} {f f' : Int} (h : (512 < b.length ∧ r = [] ∧ f = 5) ∨ (b.length ≤ 512 ∧ f = 0 ∧ Mg L (hv b) r)) (h' : (512 < b.length ∧ r' = [] ∧ f' = 5) ∨ (b.length ≤ 512 ∧ f' = 0 ∧ Mg L (hv b) r')) : r = r' ∧ f = f' := by
  rcases h with ⟨h1, rfl, rfl⟩ | ⟨h1, rfl, hm⟩
  · rcases h' with ⟨_, rfl, rfl⟩ | ⟨h2, _⟩
    · exact ⟨rfl, rfl⟩
    · omega
  · rcases h' with ⟨h2, _⟩ | ⟨_, rfl, hm'⟩
    · omega
    · exact ⟨hm.one hm', rfl⟩
/-- The guard says: only alive. -/
def out_ (n m k : Nat) : Prop := 200 < n ∨ (100 < m ∧ m ≤ 512) ∨ 2000 < m ∨ 100 < k
set_option maxHeartbeats 2000000 in
theorem law_out {a d q : Option Addr} {c e o n m k : Nat} (h : out_ n m k) (h1 : n ≤ maxLen) (h2 : m ≤ maxLen) (h3 : k ≤ maxLen) :
    Calls Try.prog 3 #[.slice a n c, .slice d m e, .slice q k o] w fun e w' => e = .returned (.bool true) ∧ Below w.heap.size w w' := by
  unfold maxLen at h1 h2 h3
  have HAL := Lib.hid (alive_any (w := w))
  unfold out_ at h
  by_cases g1 : 200 < n
  · have g1' : (200 : Int) < (n : Int) := by omega
    clear h
    go_enter Try.func3, Try.ntmps3
    go_wp2_with fail
    with_reducible refine HAL.out.mono ?_
    rintro e w1 ⟨rfl, hb1⟩
    have HB1 := Lib.hid hb1
    clear hb1
    go_wp2_with fail
    go_ret
    exact ⟨rfl, HB1.out⟩
  · have g1' : (n : Int) ≤ 200 := by omega
    by_cases g2 : 100 < m ∧ m ≤ 512
    · obtain ⟨g2, g3⟩ := g2
      have g2' : (100 : Int) < (m : Int) := by omega
      have g3' : (m : Int) ≤ 512 := by omega
      clear h
      go_enter Try.func3, Try.ntmps3
      go_wp2_with fail
      with_reducible refine HAL.out.mono ?_
      rintro e w1 ⟨rfl, hb1⟩
      have HB1 := Lib.hid hb1
      clear hb1
      go_wp2_with fail
      go_ret
      exact ⟨rfl, HB1.out⟩
    · by_cases g3 : 2000 < m
      · have g2' : (100 : Int) < (m : Int) := by omega
        have g3' : (512 : Int) < (m : Int) := by omega
        have g4' : (2000 : Int) < (m : Int) := by omega
        clear h g2
        go_enter Try.func3, Try.ntmps3
        go_wp2_with fail
        with_reducible refine HAL.out.mono ?_
        rintro e w1 ⟨rfl, hb1⟩
        have HB1 := Lib.hid hb1
        clear hb1
        go_wp2_with fail
        go_ret
        exact ⟨rfl, HB1.out⟩
      · have g4' : (m : Int) ≤ 2000 := by omega
        have g5 : 100 < k := by omega
        have g5' : (100 : Int) < (k : Int) := by omega
        by_cases g6 : 100 < m
        · have g6' : (100 : Int) < (m : Int) := by omega
          have g7' : (512 : Int) < (m : Int) := by omega
          clear h g2
          go_enter Try.func3, Try.ntmps3
          go_wp2_with fail
          with_reducible refine HAL.out.mono ?_
          rintro e w1 ⟨rfl, hb1⟩
          have HB1 := Lib.hid hb1
          clear hb1
          go_wp2_with fail
          go_ret
          exact ⟨rfl, HB1.out⟩
        · have g6' : (m : Int) ≤ 100 := by omega
          clear h g2
          go_enter Try.func3, Try.ntmps3
          go_wp2_with fail
          with_reducible refine HAL.out.mono ?_
          rintro e w1 ⟨rfl, hb1⟩
          have HB1 := Lib.hid hb1
          clear hb1
          go_wp2_with fail
          go_ret
          exact ⟨rfl, HB1.out⟩
set_option maxHeartbeats 4000000 in
theorem law_any {a d q : Option Addr} {c e o : Nat} {L : List Pr} {b ts : List Int} (hL : Rd w 2 a L.length c (prs L)) (hok : ∀ p ∈ L, okP p) (hb : Rd w 1 d b.length e (bys b)) (hbok : okB b) (ht : Rd w 1 q ts.length o (ints ts)) (htok : ∀ t ∈ ts, okT t) :
    Calls Try.prog 3 #[.slice a L.length c, .slice d b.length e, .slice q ts.length o] w fun e w' => e = .returned (.bool true) ∧ Below w.heap.size w w' := by
  have hmax := Nat.le_trans hL.cap hL.max
  have hmax2 := Nat.le_trans hb.cap hb.max
  have hmax3 := Nat.le_trans ht.cap ht.max
  by_cases hout : out_ L.length b.length ts.length
  · exact law_out hout hmax hmax2 hmax3
  · unfold out_ at hout
    unfold maxLen at hmax hmax2 hmax3
    have HAL := Lib.hid (fun w => alive_any (w := w))
    have HTH := Lib.hid (theirs_any hL (by omega))
    have HNW : Hid (∀ w1 a1 c1, Own w1 w.heap.size 54 2 a1 L.length c1 (prs L) → Calls Try.prog 8 #[.slice a1 L.length c1] w1 (NewR w1 L)) := Lib.hid (fun w1 a1 c1 ho => new_any ho.rd hok)
    have HDN : Hid (∀ w1, Below w.heap.size w w1 → Calls Try.prog 10 #[.slice a L.length c] w1 (DNewR w1 L)) := Lib.hid (fun w1 hb => dnew_any (rd_on (by omega) hL hb))
    have HBG : Hid (TkP.Good L → ∀ w1, Below w.heap.size w w1 → Calls Try.prog 11 #[.slice a L.length c] w1 (BigR w1 L)) := Lib.hid (fun hg w1 hb => big_any (rd_on (by omega) hL hb) hg (by omega))
    have HEN : Hid (TkP.Good L → ∀ w1 g B, Below w.heap.size w w1 → Tab w1 B g L → Calls Try.prog 12 #[.pointer (some ⟨g, 0, none⟩), .slice d b.length e] w1 (EncR w1 L b)) := Lib.hid (fun hg w1 g B hb1 hT => enc_any hT hg (by omega) (rd_on (by omega) hb hb1) hbok)
    have HDE : Hid (TkP.Good L → ∀ w1, Below w.heap.size w w1 → Calls Try.prog 13 #[.slice a L.length c, .slice d b.length e] w1 (DEncR w1 L b)) := Lib.hid (fun hg w1 hb1 => denc_any (rd_on (by omega) hL hb1) (by omega) (rd_on (by omega) hb hb1) hbok)
    have HDC : Hid (TkP.Good L → ∀ w1 g B, Below w.heap.size w w1 → Tab w1 B g L → Calls Try.prog 14 #[.pointer (some ⟨g, 0, none⟩), .slice q ts.length o] w1 (DecR w1 L ts)) := Lib.hid (fun hg w1 g B hb1 hT => dec_any hT hg (by omega) (rd_on (by omega) ht hb1) htok (by omega))
    have HDD : Hid (TkP.Good L → ∀ w1, Below w.heap.size w w1 → Calls Try.prog 15 #[.slice a L.length c, .slice q ts.length o] w1 (DecR w1 L ts)) := Lib.hid (fun hg w1 hb1 => ddec_any (rd_on (by omega) hL hb1) hg (by omega) (rd_on (by omega) ht hb1) htok (by omega))
    obtain ⟨n, HN⟩ : ∃ n, Hid (L.length = n) := ⟨_, Lib.hid rfl⟩
    obtain ⟨m, HM⟩ : ∃ m, Hid (b.length = m) := ⟨_, Lib.hid rfl⟩
    obtain ⟨k, HK⟩ : ∃ k, Hid (ts.length = k) := ⟨_, Lib.hid rfl⟩
    rw [HN.out] at hmax HTH HNW HDN HBG HDE HDD hout
    rw [HM.out] at hmax2 HEN HDE hout
    rw [HK.out] at hmax3 HDC HDD hout
    rw [HN.out, HM.out, HK.out]
    have g1' : (n : Int) ≤ 200 := by omega
    have g4' : (m : Int) ≤ 2000 := by omega
    have g5' : (k : Int) ≤ 100 := by omega
    have hcase : ((m : Int) ≤ 100) ∨ ((100 : Int) < (m : Int) ∧ (512 : Int) < (m : Int)) := by omega
    clear hL hok hb hbok ht htok hout
    go_enter Try.func3, Try.ntmps3
    rcases hcase with g6' | ⟨g6', g7'⟩
    all_goals
      go_wp2_with fail
      with_reducible refine HTH.out.mono ?_
      rintro e0 w1 ⟨a1, c1, he, ho1, hb1⟩
      rw [HN.out] at he ho1
      subst he
      have HO1 := Lib.hid ho1
      have HB1 := Lib.hid hb1
      have HNW1 := Lib.hid (HNW.out w1 a1 c1 ho1)
      clear ho1 hb1
      go_wp2_with fail
      with_reducible refine HNW1.out.mono ?_
      rintro e0 w2 ⟨hb2, p, rfl, hp⟩
      have HB2 := Lib.hid (below_two HB1.out hb2)
      have HD2 := Lib.hid (HDN.out w2 HB2.out)
      clear hb2
      obtain ⟨E, HE⟩ : ∃ E, Hid (newE L = E) := ⟨_, Lib.hid rfl⟩
      have HP := Lib.hid hp
      clear hp
      rw [HE.out]
      go_wp2_with fail
      with_reducible refine HD2.out.mono ?_
      rintro e0 w3 ⟨he, hb3⟩
      rw [HE.out] at he
      subst he
      have HB3 := Lib.hid (below_two HB2.out hb3)
      rcases HP.out with ⟨hne, rfl⟩ | ⟨hz, g, rfl, ht⟩
      · rw [HE.out] at hne
        have hE1 : (E == 0) = false := by simpa using hne
        have hE2 : (E != 0) = true := by simpa using hne
        clear hne hb3
        go_wp2_with fail
        with_reducible refine (HAL.out _).mono ?_
        rintro e w4 ⟨rfl, hb4⟩
        have HB4 := Lib.hid (below_two HB3.out hb4)
        clear hb4
        go_wp2_with fail
        go_ret
        exact ⟨rfl, HB4.out⟩
      · have HG := Lib.hid (newE_zero hz).2
        have HT3 := Lib.hid (ht.on hb3)
        have hE0 : E = 0 := by rw [← HE.out]; exact hz
        subst hE0
        have HBG3 := Lib.hid (HBG.out HG.out w3 HB3.out)
        clear hz ht hb3
        go_wp2_with fail
        with_reducible refine HBG3.out.mono ?_
        rintro e0 w4 ⟨hb4, v, rfl, hv⟩
        have HB4 := Lib.hid (below_two HB3.out hb4)
        have HT4 := Lib.hid (HT3.out.on hb4)
        clear hb4 hv
        cases v
        · have HEN4 := Lib.hid (HEN.out HG.out w4 g _ HB4.out HT4.out)
          go_wp2_with fail
          with_reducible refine HEN4.out.mono ?_
          rintro e0 w5 ⟨hb5, r, a5, c5, f, rfl, ho5, hr5⟩
          have HB5 := Lib.hid (below_two HB4.out hb5)
          have HT5 := Lib.hid (HT4.out.on hb5)
          have HR5 := Lib.hid ho5.rd
          have HE5 := Lib.hid hr5
          have HDE5 := Lib.hid (HDE.out HG.out w5 HB5.out)
          clear hb5 ho5 hr5
          obtain ⟨rl, HRL⟩ : ∃ rl, Hid (r.length = rl) := ⟨_, Lib.hid rfl⟩
          rw [HRL.out]
          go_wp2_with fail
          with_reducible refine HDE5.out.mono ?_
          rintro e0 w6 ⟨hb6, r', a6, c6, f', rfl, ho6, hr6⟩
          obtain ⟨rfl, rfl⟩ := enc_one HE5.out hr6
          rw [HRL.out] at ho6 ⊢
          have HB6 := Lib.hid (below_two HB5.out hb6)
          have HT6 := Lib.hid (HT5.out.on hb6)
          have HR6 := Lib.hid ho6
          have HR56 := Lib.hid (rd_on (by omega) HR5.out hb6)
          have HDC6 := Lib.hid (HDC.out HG.out w6 g _ HB6.out HT6.out)
          clear hb6 ho6 hr6
          go_wp2_with fail
          with_reducible refine HDC6.out.mono ?_
          rintro e0 w7 ⟨hb7, bs, a7, c7, f7, rfl, ho7, hd7⟩
          have HB7 := Lib.hid (below_two HB6.out hb7)
          have HR67 := Lib.hid (rd_on (by omega) HR6.out hb7)
          have HR57 := Lib.hid (rd_on (by omega) HR56.out hb7)
          have HR7 := Lib.hid ho7.rd
          have HD7 := Lib.hid hd7
          have HDD7 := Lib.hid (HDD.out HG.out w7 HB7.out)
          clear hb7 ho7 hd7
          obtain ⟨bl, HBL⟩ : ∃ bl, Hid (bs.length = bl) := ⟨_, Lib.hid rfl⟩
          rw [HBL.out]
          go_wp2_with fail
          with_reducible refine HDD7.out.mono ?_
          rintro e0 w8 ⟨hb8, bs', a8, c8, f8, rfl, ho8, hd8⟩
          obtain ⟨rfl, rfl⟩ := HD7.out.one hd8
          have HB8 := Lib.hid (below_two HB7.out hb8)
          have hsm := same_eq (rd_on (by omega) HR57.out hb8) (by rw [HRL.out]; exact rd_on (by omega) HR67.out hb8)
          rw [HRL.out] at hsm
          have HSE := Lib.hid hsm
          have HR78 := Lib.hid (rd_on (by omega) HR7.out hb8)
          have HR8 := Lib.hid ho8.rd
          rw [HBL.out]
          clear hb8 ho8 hd8 hsm
          go_wp2_with fail
          with_reducible refine HSE.out.mono ?_
          rintro e0 w9 ⟨rfl, hb9⟩
          have HB9 := Lib.hid (below_two HB8.out hb9)
          have hcv1 := conv_rd (rd_on (by omega) HR78.out hb9)
          have hcv2 := conv_rd (rd_on (by omega) HR8.out hb9)
          rw [HBL.out] at hcv1 hcv2
          obtain ⟨S, HS⟩ : ∃ S, Hid (strOfNums bs = S) := ⟨_, Lib.hid rfl⟩
          rw [HS.out] at hcv1 hcv2
          clear hb9
          go_wp2_with fail
          with_reducible refine (HAL.out _).mono ?_
          rintro e w10 ⟨rfl, hb10⟩
          have HB10 := Lib.hid (below_two HB9.out hb10)
          clear hb10
          go_wp2_with fail
          go_ret
          exact ⟨rfl, HB10.out⟩
        · go_wp2_with fail
          with_reducible refine (HAL.out _).mono ?_
          rintro e w8 ⟨rfl, hb8⟩
          have HB8 := Lib.hid (below_two HB4.out hb8)
          clear hb8
          go_wp2_with fail
          go_ret
          exact ⟨rfl, HB8.out⟩
theorem entry (W : World) (v0 v1 v2 : Value) (g0 : Arg W (.slice (.struct (.cons (.int .i64) (.cons (.int .i64) .none)))) v0) (g1 : Arg W (.slice (.int .u8)) v1) (g2 : Arg W (.slice (.int .i64)) v2) : Calls Try.prog 3 #[v0, v1, v2] W fun e w' => e = .returned (.bool true) ∧ Below W.heap.size W w' := by
  obtain ⟨L, a, c, rfl, hl, hok⟩ := rd_prs g0
  obtain ⟨b, d, e, rfl, hb, hbok⟩ := rd_bys g1
  obtain ⟨t, q, o, rfl, ht, htok⟩ := rd_ints g2
  exact law_any hl hok hb hbok ht (fun x hx => htok x hx)
end
end Go.Proofs.Ytlndhmkkffcbnaa.TkZ
