/-
  StopFinds: where the first one ends, is told as the document says.
-/
import Derived.Test.YtcjhlkndcgldjaaStJ
namespace Go.Proofs.Ytcjhlkndcgldjaa.StO
open Go.RowKit Go.Proofs.Ytcjhlkndcgldjaa.Kit Go.Proofs.Ytcjhlkndcgldjaa.StP Go.Proofs.Ytcjhlkndcgldjaa.StM Go.Proofs.Ytcjhlkndcgldjaa.StN Go.Proofs.Ytcjhlkndcgldjaa.StR Go.Proofs.Ytcjhlkndcgldjaa.StE Go.Proofs.Ytcjhlkndcgldjaa.StF Go.Proofs.Ytcjhlkndcgldjaa.StG Go.Proofs.Ytcjhlkndcgldjaa.StH Go.Proofs.Ytcjhlkndcgldjaa.StI Go.Proofs.Ytcjhlkndcgldjaa.StJ
attribute [local go_sem high] max_imax min_imin
attribute [local go_sem ↓] Go.wp_at_zero Go.wp_at_succ
set_option linter.unusedVariables false

section
variable {w : World} {S : List Wd}
theorem law_any {a : Option Addr} {c : Nat} (hs : StopsAt w a c S) {t : Wd} {b : Option Addr} {d : Nat} (ht : Rd w 1 b t.length d (ints t)) (hok : ∀ x ∈ t, okT x) :
    Calls Try.prog 3 #[.slice a S.length c, .slice b t.length d] w fun e w' => e = .returned (.bool true) ∧ Below w.heap.size w w' := by
  have hmax := Nat.le_trans ht.cap ht.max
  unfold maxLen at hmax
  have HS := Lib.hid hs
  have R2 := Lib.hid ht
  have HOK := Lib.hid hok
  have TF := Lib.hid (far_any hs (b := b) (m := t.length) (d := d) (by omega))
  have TN := Lib.hid (new_any hs)
  have HTL : Hid (t.length = t.length) := Lib.hid rfl
  obtain ⟨n, HN⟩ : ∃ n, Hid (t.length = n) := ⟨_, rfl⟩
  obtain ⟨sn, HSN⟩ : ∃ sn, Hid (S.length = sn) := ⟨_, rfl⟩
  clear hs ht hok
  rw [HN.out] at TF hmax ⊢
  rw [HSN.out] at TF TN ⊢
  go_enter Try.func3, Try.ntmps3
  go_wp2_with fail
  refine TF.out.mono ?_
  rintro e w1 ⟨⟨far, rfl, hfar⟩, rfl⟩
  cases far with
  | true =>
    go_wp2_with fail
    refine alive_any.mono ?_
    rintro e w2 ⟨rfl, hb⟩
    have HB := Lib.hid hb
    clear hb
    go_wp2
    go_ret
    exact ⟨rfl, HB.out⟩
  | false =>
    have HM := Lib.hid (hfar rfl)
    clear hfar
    go_wp2_with fail
    refine TN.out.mono ?_
    rintro e w2 ⟨hb1, p, rfl, hp⟩
    have TR := Lib.hid (rnew_any (HS.out.on hb1))
    rw [HSN.out] at TR
    rcases hp with ⟨hne, rfl⟩ | ⟨h0, gs, A, cc, g0, m0, rfl, hm⟩
    · obtain ⟨q, HQ⟩ : ∃ q, Hid (newE S = q) := ⟨_, rfl⟩
      rw [HQ.out] at TR hne ⊢
      have HB := Lib.hid hb1
      have hq : (q == 0) = false := by simpa using hne
      clear hb1
      go_wp2_with fail
      refine TR.out.mono ?_
      rintro e w3 ⟨rfl, rfl⟩
      go_wp2_with fail
      refine alive_any.mono ?_
      rintro e w4 ⟨rfl, hb4⟩
      have HB4 := Lib.hid (HB.out.trans (hb4.mono HB.out.size))
      clear hb4
      go_wp2
      go_ret
      exact ⟨rfl, HB4.out⟩
    · rw [h0] at TR ⊢
      have HM2 := Lib.hid hm
      have HB := Lib.hid hb1
      clear hb1 hm h0
      go_wp2_with fail
      refine TR.out.mono ?_
      rintro e w3 ⟨rfl, rfl⟩
      have TX := Lib.hid (find_any HM2.out (rd_on R2.out HB.out) HOK.out)
      rw [HN.out] at TX
      go_wp2_with fail
      refine TX.out.mono ?_
      rintro e w4 ⟨fn, fk, rfl, hf, hb4⟩
      have HF := Lib.hid hf
      have HB4 := Lib.hid (HB.out.trans (hb4.mono HB.out.size))
      have HM4 := Lib.hid (HM2.out.on hb4)
      clear hf hb4
      have TY := Lib.hid (rfind_any (HS.out.on HB4.out) (rd_on R2.out HB4.out) (by rw [HN.out]; have := HM.out; omega))
      rw [HN.out, HSN.out] at TY
      go_wp2_with fail
      refine TY.out.mono ?_
      rintro e w5 ⟨fn2, fk2, rfl, hf, hb5⟩
      obtain ⟨rfl, rfl⟩ := HF.out.one hf
      have HB5 := Lib.hid (HB4.out.trans (hb5.mono HB4.out.size))
      have TL := Lib.hid (len_any (HM4.out.on hb5))
      rw [HSN.out] at TL
      clear hf hb5
      go_wp2_with fail
      refine TL.out.mono ?_
      rintro e w6 ⟨rfl, rfl⟩
      go_wp2_with fail
      refine alive_any.mono ?_
      rintro e w7 ⟨rfl, hb7⟩
      have HB7 := Lib.hid (HB5.out.trans (hb7.mono HB5.out.size))
      clear hb7
      go_wp2
      go_ret
      exact ⟨rfl, HB7.out⟩
theorem entry (W : World) (v0 v1 : Value) (g0 : Arg W (.slice (.slice (.int .i64))) v0) (g1 : Arg W (.slice (.int .i64)) v1) : Calls Try.prog 3 #[v0, v1] W fun e w' => e = .returned (.bool true) ∧ Below W.heap.size W w' := by
  obtain ⟨S, a, c, rfl, hs⟩ := isStops W v0 g0
  obtain ⟨t, b, d, rfl, ht, hok⟩ := rd_ints g1
  exact law_any hs ht hok
end
end Go.Proofs.Ytcjhlkndcgldjaa.StO
