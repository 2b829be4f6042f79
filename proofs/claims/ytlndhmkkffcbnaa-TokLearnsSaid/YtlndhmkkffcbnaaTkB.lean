/-
  TokBack: a text that is encoded is decoded to itself; tokens are no more than twice the bytes, and no pair of a merge stands side by side. No condition.
-/
import Derived.Test.YtlndhmkkffcbnaaTkI
namespace Go.Proofs.Ytlndhmkkffcbnaa.TkB
open Go.RowKit Go.Proofs.Ytlndhmkkffcbnaa.Kit Go.Proofs.Ytlndhmkkffcbnaa.TkM Go.Proofs.Ytlndhmkkffcbnaa.TkP Go.Proofs.Ytlndhmkkffcbnaa.TkQ Go.Proofs.Ytlndhmkkffcbnaa.TkW Go.Proofs.Ytlndhmkkffcbnaa.TkA Go.Proofs.Ytlndhmkkffcbnaa.TkN Go.Proofs.Ytlndhmkkffcbnaa.TkO Go.Proofs.Ytlndhmkkffcbnaa.TkL Go.Proofs.Ytlndhmkkffcbnaa.TkR Go.Proofs.Ytlndhmkkffcbnaa.TkS Go.Proofs.Ytlndhmkkffcbnaa.TkT Go.Proofs.Ytlndhmkkffcbnaa.TkU Go.Proofs.Ytlndhmkkffcbnaa.TkD Go.Proofs.Ytlndhmkkffcbnaa.TkH Go.Proofs.Ytlndhmkkffcbnaa.TkI
attribute [local go_sem high] max_imax min_imin
attribute [local go_sem ↓] Go.wp_at_zero Go.wp_at_succ
set_option linter.unusedVariables false
section
variable {w : World}
/-- A slice of pairs that came in. -/
theorem rd_prs {w : World} {v : Value} (h : Reads w (.slice (.struct (.cons (.int .i64) (.cons (.int .i64) .none)))) [v]) : ∃ (l : List Pr) (a : Option Addr) (c : Nat), v = .slice a l.length c ∧ Rd w 2 a l.length c (prs l) ∧ ∀ p ∈ l, okP p := by
  obtain ⟨rows, a, c, rfl, hr, hrows⟩ := rd_of (by simp [Sh.size]) h
  have key : ∀ rows : List (List Value), (∀ row ∈ rows, row.length = (Sh.struct (.cons (.int .i64) (.cons (.int .i64) .none))).size ∧ Reads w (.struct (.cons (.int .i64) (.cons (.int .i64) .none))) row) → ∃ l : List Pr, l.length = rows.length ∧ rows.flatten = prs l ∧ ∀ p ∈ l, okP p := by
    intro rows
    induction rows with
    | nil => exact fun _ => ⟨[], rfl, rfl, by simp⟩
    | cons row rest ih =>
      intro hx
      obtain ⟨l, h1, h2, h3⟩ := ih (fun r hr => hx r (List.mem_cons_of_mem _ hr))
      obtain ⟨hl, _, hn⟩ := hx row (List.mem_cons_self ..)
      simp only [Sh.size] at hl
      match row, hl, hn with
      | [c0, c1], _, hn =>
        simp only [Reads, Sh.size, List.take_succ_cons, List.take_zero, List.drop_succ_cons, List.drop_zero, List.cons.injEq, and_true] at hn
        obtain ⟨⟨x, rfl, hx0⟩, ⟨y, rfl, hy0⟩⟩ := hn
        refine ⟨(x, y) :: l, by simp [h1], by rw [prs_cons, List.flatten_cons, h2], fun p hp => ?_⟩
        rcases List.mem_cons.1 hp with rfl | hp
        · exact ⟨hx0, hy0⟩
        · exact h3 p hp
  obtain ⟨l, h1, h2, h3⟩ := key rows hrows
  exact ⟨l, a, c, by rw [h1], by rw [h1, ← h2]; exact hr, h3⟩
/-- A slice of bytes that came in. -/
theorem rd_bys {w : World} {v : Value} (h : Reads w (.slice (.int .u8)) [v]) : ∃ (l : List Int) (a : Option Addr) (c : Nat), v = .slice a l.length c ∧ Rd w 1 a l.length c (bys l) ∧ okB l := by
  obtain ⟨rows, a, c, rfl, hr, hrows⟩ := rd_of (by simp [Sh.size]) h
  have key : ∀ rows : List (List Value), (∀ row ∈ rows, row.length = (Sh.int .u8).size ∧ Reads w (.int .u8) row) → ∃ l : List Int, l.length = rows.length ∧ rows.flatten = bys l ∧ okB l := by
    intro rows
    induction rows with
    | nil => exact fun _ => ⟨[], rfl, rfl, fun x hx => by simp at hx⟩
    | cons row rest ih =>
      intro hx
      obtain ⟨l, h1, h2, h3⟩ := ih (fun r hr => hx r (List.mem_cons_of_mem _ hr))
      obtain ⟨_, n, hn, hw⟩ := hx row (List.mem_cons_self ..)
      subst hn
      refine ⟨n :: l, by simp [h1], by simp [h2, bys], fun m hm => ?_⟩
      rcases List.mem_cons.1 hm with rfl | hm
      · simp [Lit.wf, IntKind.min, IntKind.max, IntKind.signed, IntKind.bits] at hw
        omega
      · exact h3 m hm
  obtain ⟨l, h1, h2, h3⟩ := key rows hrows
  exact ⟨l, a, c, by rw [h1], by rw [h1, ← h2]; exact hr, h3⟩
theorem dec_back {L : List Pr} {b r bs : List Int} {f : Int} (hb : okB b) (hl : b.length ≤ 100) (hm : Mg L (hv b) r) (h : DecA L r bs f) : bs = b ∧ f = 0 ∧ r.length ≤ 2 * b.length := by
  have hx := hm.spell (xps_low _ (hv_low hb))
  have h2 : DecA L r b 0 := .inr ⟨hv b, hx, .inr (.inr ⟨by rw [hv_len]; omega, by rw [hv_len]; omega, (byt_hv b hb).symm, rfl⟩)⟩
  obtain ⟨h3, h4⟩ := h.one h2
  exact ⟨h3, h4, by have := hm.len; rw [hv_len] at this; exact this⟩
theorem rd_chg {w w' : World} {B : Nat} {s : Nat} {a : Option Addr} {n c : Nat} {xs : List Value} (hs : 0 < s) (h : Rd w s a n c xs) (hb : Below B w w') (hB : w.heap.size ≤ B) : Rd w' s a n c xs := rd_on hs h (hb.mono hB)
set_option maxHeartbeats 2000000 in
theorem law_any {a d : Option Addr} {c e : Nat} {L : List Pr} {b : List Int} (hL : Rd w 2 a L.length c (prs L)) (hok : ∀ p ∈ L, okP p) (hb : Rd w 1 d b.length e (bys b)) (hbok : okB b) :
    Calls Try.prog 5 #[.slice a L.length c, .slice d b.length e] w fun e w' => e = .returned (.bool true) ∧ Below w.heap.size w w' := by
  have hmax := Nat.le_trans hL.cap hL.max
  have hmax2 := Nat.le_trans hb.cap hb.max
  unfold maxLen at hmax hmax2
  have HAL := Lib.hid (alive_any (w := w))
  by_cases h1 : 40 < L.length
  · obtain ⟨n, HN⟩ : ∃ n, Hid (L.length = n) := ⟨_, Lib.hid rfl⟩
    rw [HN.out] at h1 hmax ⊢
    have h1' : (40 : Int) < (n : Int) := by omega
    clear hL hb hok hbok
    go_enter Try.func5, Try.ntmps5
    go_wp2_with fail
    with_reducible refine HAL.out.mono ?_
    rintro e w1 ⟨rfl, hb1⟩
    have HB1 := Lib.hid hb1
    clear hb1
    go_wp2_with fail
    go_ret
    exact ⟨rfl, HB1.out⟩
  · by_cases h2 : 100 < b.length
    · obtain ⟨n, HN⟩ : ∃ n, Hid (L.length = n) := ⟨_, Lib.hid rfl⟩
      obtain ⟨m, HM⟩ : ∃ m, Hid (b.length = m) := ⟨_, Lib.hid rfl⟩
      rw [HN.out] at h1 hmax ⊢
      rw [HM.out] at h2 hmax2 ⊢
      have h1' : (n : Int) ≤ 40 := by omega
      have h2' : (100 : Int) < (m : Int) := by omega
      clear hL hb hok hbok
      go_enter Try.func5, Try.ntmps5
      go_wp2_with fail
      with_reducible refine HAL.out.mono ?_
      rintro e w1 ⟨rfl, hb1⟩
      have HB1 := Lib.hid hb1
      clear hb1
      go_wp2_with fail
      go_ret
      exact ⟨rfl, HB1.out⟩
    · have HTH := Lib.hid (theirs_any hL (by omega))
      have HRL := Lib.hid hL
      have HRB := Lib.hid hb
      have HOK := Lib.hid hok
      have HBK := Lib.hid hbok
      have HLL : Hid (L.length ≤ 40) := Lib.hid (by omega)
      have HBL : Hid (b.length ≤ 100) := Lib.hid (by omega)
      have HNW : Hid (∀ w1 a1 c1, Own w1 w.heap.size 54 2 a1 L.length c1 (prs L) → Calls Try.prog 8 #[.slice a1 L.length c1] w1 (NewR w1 L)) := Lib.hid (fun w1 a1 c1 ho => new_any ho.rd hok)
      obtain ⟨n, HN⟩ : ∃ n, Hid (L.length = n) := ⟨_, Lib.hid rfl⟩
      obtain ⟨m, HM⟩ : ∃ m, Hid (b.length = m) := ⟨_, Lib.hid rfl⟩
      rw [HN.out] at h1 hmax HTH HRL HLL HNW ⊢
      rw [HM.out] at h2 hmax2 HRB HBL ⊢
      have h1' : (n : Int) ≤ 40 := by omega
      have h2' : (m : Int) ≤ 100 := by omega
      clear hL hb hok hbok h1 h2
      go_enter Try.func5, Try.ntmps5
      go_wp2_with fail
      with_reducible refine HTH.out.mono ?_
      rintro e0 w1 ⟨a1, c1, he, ho1, hb1⟩
      rw [HN.out] at he ho1
      subst he
      have HO1 := Lib.hid ho1
      have HB1 := Lib.hid hb1
      have HNW1 := Lib.hid (HNW.out w1 a1 c1 ho1)
      clear ho1 hb1
      go_wp2_with fail
      with_reducible refine HNW1.out.mono ?_
      rintro e0 w2 ⟨hb2, p, rfl, hp⟩
      have HB2 := Lib.hid (HB1.out.trans (hb2.mono HB1.out.size))
      clear hb2
      rcases hp with ⟨hne, rfl⟩ | ⟨hz, g, rfl, ht⟩
      · obtain ⟨E, HE⟩ : ∃ E, Hid (newE L = E) := ⟨_, Lib.hid rfl⟩
        rw [HE.out] at hne ⊢
        have hE1 : (E == 0) = false := by simpa using hne
        have hE2 : (E != 0) = true := by simpa using hne
        have HA2 := Lib.hid (alive_any (w := w2))
        clear hne
        go_wp2_with fail
        with_reducible refine HA2.out.mono ?_
        rintro e w3 ⟨rfl, hb3⟩
        have HB3 := Lib.hid (HB2.out.trans (hb3.mono HB2.out.size))
        clear hb3
        go_wp2_with fail
        go_ret
        exact ⟨rfl, HB3.out⟩
      · rw [hz]
        have HG := Lib.hid (newE_zero hz).2
        have HT := Lib.hid ht
        have HRB2 := Lib.hid (rd_on (by omega) HRB.out HB2.out)
        have hen := enc_any HT.out HG.out (by have := HLL.out; have := HN.out; omega) (by rw [HM.out]; exact HRB2.out) HBK.out
        rw [HM.out] at hen
        have HEN := Lib.hid hen
        clear hz ht hen
        go_wp2_with fail
        with_reducible refine HEN.out.mono ?_
        rintro e0 w3 ⟨hb3, r, a3, c3, f, rfl, ho3, ⟨hbad, _⟩ | ⟨_, rfl, hm⟩⟩
        · exact absurd hbad (by have := HBL.out; have := HM.out; omega)
        · have HMG := Lib.hid hm
          have HO3 := Lib.hid ho3
          have HB3 := Lib.hid (HB2.out.trans (hb3.mono HB2.out.size))
          have HT3 := Lib.hid (HT.out.on hb3)
          have HXR := Lib.hid (hm.spell (xps_low _ (hv_low HBK.out)))
          have hrl : r.length ≤ 2 * m := by
            have := hm.len
            rw [hv_len, HM.out] at this
            exact this
          have HDC := Lib.hid (dec_any HT3.out HG.out (by have := HLL.out; have := HN.out; omega) HO3.out.rd (fun t ht => by
            have := HXR.out.range t ht
            have := HLL.out
            have := HN.out
            rw [okT_iff]
            omega) (by have := HBL.out; omega))
          obtain ⟨rl, HRLN⟩ : ∃ rl, Hid (r.length = rl) := ⟨_, Lib.hid rfl⟩
          rw [HRLN.out] at HDC HO3 hrl ⊢
          clear hm ho3 hb3
          go_wp2_with fail
          with_reducible refine HDC.out.mono ?_
          rintro e0 w4 ⟨hb4, bs, a4, c4, f4, rfl, ho4, hd4⟩
          obtain ⟨rfl, rfl, _⟩ := dec_back HBK.out (by have := HBL.out; have := HM.out; omega) HMG.out hd4
          have HB4 := Lib.hid (HB3.out.trans (hb4.mono HB3.out.size))
          have hcv1 := conv_rd ho4.rd
          have hcv2 := conv_rd (rd_on (by omega) (by rw [HM.out]; exact HRB.out) HB4.out)
          have HO4 := Lib.hid (HO3.out.rd)
          have HRA := Lib.hid (rd_on (by omega) HO3.out.rd hb4)
          rw [HM.out] at hcv1 hcv2 ⊢
          obtain ⟨S, HS⟩ : ∃ S, Hid (strOfNums bs = S) := ⟨_, Lib.hid rfl⟩
          rw [HS.out] at hcv1 hcv2
          have hrl2 : (rl : Int) ≤ 2 * (m : Int) := by omega
          clear ho4 hd4 hb4
          go_wp2_with fail
          have HNL := Lib.hid HMG.out.last
          clear hcv1 hcv2 hrl2
          go_loopw [11] (fun i wr => ∃ (q : Nat), q ≤ rl ∧ i = .int .i64 q ∧ Hid (Below w4.heap.size w4 wr)) (fun i _ => rl - (intOf i).toNat)
          case atStart => exact ⟨0, by omega, rfl, Lib.hid (Below.refl _ _)⟩
          case round =>
            obtain ⟨q, hq, rfl, HQ⟩ := hrel
            by_cases hlt : q + 1 < rl
            · have q0 : (0 : Int) ≤ (q : Int) := by omega
              have q1 : (q : Int) + 1 < (rl : Int) := by omega
              have hrlb : rl ≤ 200 := by have := HBL.out; omega
              have HLT := Lib.hid hlt
              obtain ⟨wo, HWO⟩ : ∃ x, Hid (wr = x) := ⟨_, Lib.hid rfl⟩
              rw [HWO.out] at HQ ⊢
              clear hlt HWO
              go_wp2_with fail
              go_loopw [81] (fun i wr => ∃ (k : Nat), k ≤ n ∧ i = .int .i64 k ∧ Hid (Below w4.heap.size w4 wr)) (fun i _ => n - (intOf i).toNat)
              case atStart => exact ⟨0, by omega, rfl, HQ⟩
              case round =>
                obtain ⟨k, hk, rfl, HK⟩ := hrel
                by_cases hlt : k < n
                · have HBK2 := Lib.hid (HB4.out.trans (HK.out.mono HB4.out.size))
                  obtain ⟨b0, off, ⟨x, y⟩, rfl, hp, hc0, hc1⟩ := rd_pair (rd_on (by omega) HRL.out HBK2.out) hlt
                  obtain ⟨b1, o1, u, he, hu, hcu⟩ := (rd_on (by omega) HRA.out HK.out).get (k := q) (by have := HLT.out; omega)
                  obtain ⟨b1', o1', u1, he', hu1, hcv⟩ := (rd_on (by omega) HRA.out HK.out).get (k := q + 1) (by have := HLT.out; omega)
                  subst he
                  injection he' with he'
                  injection he' with e1 e2
                  subst e1 e2
                  obtain ⟨s, hs, rfl⟩ := ints_get hu
                  obtain ⟨t, ht, rfl⟩ := ints_get hu1
                  dsimp only at hc0 hc1
                  have HNO : Hid (¬ (s = x ∧ t = y)) := Lib.hid (by
                    rintro ⟨rfl, rfl⟩
                    exact HNL.out k _ hp q ⟨hs, ht⟩)
                  have k0 : (0 : Int) ≤ (k : Int) := by omega
                  have k1 : (k : Int) < (n : Int) := by omega
                  have HLK := Lib.hid hlt
                  have HNX := Lib.hid (HK.out.trans (((Below.refl wr.heap.size wr).alloc (Nat.le_refl _) (.cells #[.int .i64 x, .int .i64 y] 49)).mono HK.out.size))
                  have bz := Blk.new wr #[.int .i64 x, .int .i64 y] 49
                  have hcu2 : (wr.alloc (.cells #[.int .i64 x, .int .i64 y] 49)).cell? ⟨b1, o1 + q, none⟩ = some (.int .i64 s) := Lib.cell?_alloc_some _ hcu
                  have hcv2 : (wr.alloc (.cells #[.int .i64 x, .int .i64 y] 49)).cell? ⟨b1, o1 + (q + 1), none⟩ = some (.int .i64 t) := Lib.cell?_alloc_some _ hcv
                  clear hp hu hu1 hs ht hlt hcu hcv
                  go_upto_region 16 with (fail)
                  clear hc0 hc1
                  obtain ⟨wp, HWP⟩ : ∃ ww, Hid (wr.alloc (.cells #[.int .i64 x, .int .i64 y] 49) = ww) := ⟨_, Lib.hid rfl⟩
                  obtain ⟨gp, HGP⟩ : ∃ gg, Hid (wr.heap.size = gg) := ⟨_, Lib.hid rfl⟩
                  rw [HWP.out, HGP.out] at bz
                  rw [HWP.out] at HNX hcu2 hcv2
                  rw [HWP.out, HGP.out]
                  have p0 : wp.cell? ⟨gp, 0, none⟩ = some (.int .i64 x) := bz.cell 0 rfl
                  have p1 : wp.cell? ⟨gp, 1, none⟩ = some (.int .i64 y) := bz.cell 1 rfl
                  have s1 : IntKind.i64.wrap ((q : Int) + 1) = (q : Int) + 1 := IntWalk.i64_in _ (by omega)
                  have s2 : (0 : Int) ≤ (q : Int) + 1 := by omega
                  have s3 : ((q : Int) + 1).toNat = q + 1 := by omega
                  clear bz
                  by_cases hx : s = x
                  · have hy : ((t : Int) == y) = false := by
                      have := HNO.out
                      simp
                      exact fun e => this ⟨hx, e⟩
                    have hx2 : ((s : Int) == x) = true := by simp [hx]
                    clear hx
                    go_big_quiet (fail)
                    clear s1 s2 s3 hcu2 hcv2 p0 p1
                    go_wp2_with fail
                    go_roundw
                    case rel => exact ⟨k + 1, HLK.out, by go_num, Lib.hid (below_drewN HNX.out _)⟩
                    case measure => have := HLK.out; simp [intOf]; omega
                  · have hx2 : ((s : Int) == x) = false := by simp [hx]
                    clear hx
                    go_big_quiet (fail)
                    clear s1 s2 s3 hcu2 hcv2 p0 p1
                    go_wp2_with fail
                    go_roundw
                    case rel => exact ⟨k + 1, HLK.out, by go_num, Lib.hid (below_drewN HNX.out _)⟩
                    case measure => have := HLK.out; simp [intOf]; omega
                · obtain rfl : k = n := by omega
                  clear hlt
                  go_wp2_with fail
                  go_roundw
                  case rel => exact ⟨q + 1, by have := HLT.out; omega, by go_num, HK⟩
                  case measure => have := HLT.out; simp [intOf]; omega
            · have hge : (rl : Int) ≤ (q : Int) + 1 := by omega
              have hrlb : rl ≤ 200 := by have := HBL.out; omega
              have HEN2 := Lib.hid (enc_nil (w := wr) (.slice d m e))
              have HVN2 := Lib.hid (vocab_nil (w := wr))
              have HSP2 := Lib.hid (spl_nil (w := wr))
              have HAL2 := Lib.hid (alive_any (w := wr))
              clear hlt
              go_wp2_with fail
              with_reducible refine HEN2.out.mono ?_
              rintro e0 w5 ⟨rfl, rfl⟩
              go_wp2_with fail
              with_reducible refine HVN2.out.mono ?_
              rintro e0 w6 ⟨rfl, rfl⟩
              go_wp2_with fail
              with_reducible refine HSP2.out.mono ?_
              rintro e0 w7 ⟨rfl, rfl⟩
              go_wp2_with fail
              with_reducible refine HAL2.out.mono ?_
              rintro e0 w8 ⟨rfl, hb8⟩
              have HB8 := Lib.hid (HB4.out.trans ((HQ.out.trans (hb8.mono HQ.out.size)).mono HB4.out.size))
              clear hb8
              go_wp2_with fail
              go_ret
              exact ⟨rfl, HB8.out⟩
theorem entry (W : World) (v0 v1 : Value) (g0 : Arg W (.slice (.struct (.cons (.int .i64) (.cons (.int .i64) .none)))) v0) (g1 : Arg W (.slice (.int .u8)) v1) : Calls Try.prog 5 #[v0, v1] W fun e w' => e = .returned (.bool true) ∧ Below W.heap.size W w' := by
  obtain ⟨L, a, c, rfl, hl, hok⟩ := rd_prs g0
  obtain ⟨b, d, e, rfl, hb, hbok⟩ := rd_bys g1
  exact law_any hl hok hb hbok
end
end Go.Proofs.Ytlndhmkkffcbnaa.TkB
