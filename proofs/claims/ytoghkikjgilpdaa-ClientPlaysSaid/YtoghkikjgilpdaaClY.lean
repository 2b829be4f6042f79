/-
  Walks over the document's own client: Arrive.
-/
import Derived.Test.YtoghkikjgilpdaaClX
namespace Go.Proofs.Ytoghkikjgilpdaa.ClY
open Go.RowKit Go.Proofs.Ytoghkikjgilpdaa.Kit Go.Proofs.Ytoghkikjgilpdaa.ClW Go.Proofs.Ytoghkikjgilpdaa.ClV Go.Proofs.Ytoghkikjgilpdaa.ClS Go.Proofs.Ytoghkikjgilpdaa.ClQ Go.Proofs.Ytoghkikjgilpdaa.ClX
attribute [local go_sem high] max_imax min_imin
set_option linter.unusedVariables false

theorem take_step (ll : List Int) (d k : Nat) {x : Int} (hx : ll[k]? = some x) : (ll.take (k + 1)).drop d = (ll.take k).drop d ++ (if d ≤ k then [x] else []) := by
  have hk : k < ll.length := (List.getElem?_eq_some_iff.1 hx).1
  rw [List.take_add_one, hx, Option.toList_some, List.drop_append]
  by_cases h : d ≤ k
  · rw [if_pos h, List.length_take, Nat.min_eq_left (by omega), show d - k = 0 by omega, List.drop_zero]
  · rw [if_neg h, List.length_take, Nat.min_eq_left (by omega)]
    rw [List.drop_of_length_le (by simp; omega), List.drop_of_length_le (by simp; omega)]

section
variable {B g : Nat} {k : Ck} {pl tl ll : List Int} {w w' : World} {m : M}
def RArrived (w : World) (B g : Nat) (k : Ck) (t : Int) (pl tl : List Int) (en : Int) (e : Ending) (w' : World) : Prop :=
  ∃ ta tn tc gm, e = .returned (.slice (some ⟨gm, 0, none⟩) 1 1) ∧ tn = tl.length ∧ w.heap.size ≤ gm ∧ Blk w' gm 34 (mc (gotM tn)) ∧ Cr w' B g { k with now := nowOf k.now t, heard := true, ta := ta, tn := tn, tc := tc, en := en } pl tl ∧
    Chg (fun i => i = g) w w' ∧ ∀ x, ob ta = some x → ob k.ta = some x ∨ w.heap.size ≤ x
theorem rtn (h : Cr w B g k pl tl) : k.tn = tl.length := by
  have := h.toks.form.1
  simpa [ints] using this.symm

theorem rarrive_no (h : Cr w B g k pl tl) (t : Int) (m : M) (hn : k.en ≠ 0 ∨ m.stream ≠ 3 ∨ (m.kind ≠ 4 ∧ m.kind ≠ 5)) :
    Calls Try.prog 21 #[.pointer (some ⟨g, 0, none⟩), .int .i64 t, .agg (mc m)] w (RTold w B g (at_ k t) pl tl (fun _ ms => ms = [])) := by
  have HC := Lib.hid (h.alloc (.cells (mc m) 34))
  have HMB := Lib.hid (Blk.new w (mc m) 34)
  have HK := Lib.hid ((Chg.refl (fun i => i = g) w).alloc (.cells (mc m) 34))
  have he := h.ev0
  have hg := h.blk.lt
  clear h
  obtain ⟨kind, stream, session, attempt, inc, n, count, why, js, ja, jn, jc, jm, la, ln, lc⟩ := m
  obtain ⟨Z, HZ⟩ : ∃ Z, Hid (w.alloc (.cells (mc ⟨kind, stream, session, attempt, inc, n, count, why, js, ja, jn, jc, jm, la, ln, lc⟩) 34) = Z) := ⟨_, rfl⟩
  have HZ' := HZ.out
  rw [HZ.out] at HC HMB HK
  unfold mc at HZ' ⊢
  simp only at hn HZ' ⊢
  clear HZ
  go_enter Try.func21, Try.ntmps21
  go_wp2_with fail
  clear HZ'
  refine (rlater HC.out t).mono ?_
  rintro e wb ⟨rfl, hb2, hc2⟩
  have HB2 := Lib.hid hb2
  have HC2 := Lib.hid (HK.out.then hc2 (fun i _ h => h))
  have hgm : Blk wb w.heap.size 34 _ := hc2.blk HMB.out (by show ¬ w.heap.size = g; omega)
  obtain ⟨en, H1⟩ : ∃ n, Hid (k.en = n) := ⟨_, rfl⟩
  rw [H1.out] at hn
  have c7 : wb.cell? ⟨g, 7, none⟩ = some (.int .i64 en) := by rw [← H1.out]; exact hb2.blk.cell 7 rfl
  have c0 : wb.cell? ⟨g, 0, none⟩ = some (.int .u64 3) := hb2.blk.cell 0 rfl
  have m0 : wb.cell? ⟨w.heap.size, 0, none⟩ = some (.int .i64 kind) := hgm.cell 0 rfl
  have m1 : wb.cell? ⟨w.heap.size, 1, none⟩ = some (.int .u64 stream) := hgm.cell 1 rfl
  clear hb2 hc2 hgm
  have FIN : Hid (∀ n, RTold w B g (at_ k t) pl tl (fun _ ms => ms = []) (.returned (.slice none 0 0)) (wb.drewN n)) := fun n =>
    ⟨none, 0, [], rfl, Own.none_ _ _ _ _, rfl, HB2.out.drewN n, HC2.out.drewN n⟩
  by_cases h0 : en = 0
  · have h1 := hn.resolve_left (fun h => h h0)
    subst h0
    clear hn
    by_cases h2 : stream = 3
    · have h3 := h1.resolve_left (fun h => h h2)
      subst h2
      obtain ⟨h4, h5⟩ := h3
      have b4 : (kind == 4) = false := by simpa using h4
      have b5 : (kind == 5) = false := by simpa using h5
      have b4' : (kind != 4) = true := by simpa using h4
      have b5' : (kind != 5) = true := by simpa using h5
      clear h1 h4 h5
      go_upto_region 2 with (fail)
      go_big_quiet (fail)
      go_wp2
      go_ret
      exact FIN.out _
    · have hb : (stream != 3) = true := by simpa using h2
      clear h1 h2
      go_upto_region 2 with (fail)
      go_big_quiet (fail)
      go_wp2
      go_ret
      exact FIN.out _
  · have hb : (en != 0) = true := by simpa using h0
    clear hn h0
    go_upto_region 2 with (fail)
    go_big_quiet (fail)
    go_wp2
    go_ret
    exact FIN.out _
set_option maxRecDepth 100000 in
set_option maxHeartbeats 2000000 in
theorem rarrive_tok (h : Cr w B g k pl tl) (t : Int) (m : M) (h0 : k.en = 0) (h1 : m.stream = 3) (h2 : m.kind = 4) (hn : 0 ≤ m.n) (hr : Rd w 1 m.la m.ln m.lc (ints ll)) (hfar : 0 < m.ln → ∀ x, ob m.la = some x → x ≠ g) (hl : m.ln ≤ 549755813888) (ht : k.tn ≤ 549755813888) :
    Calls Try.prog 21 #[.pointer (some ⟨g, 0, none⟩), .int .i64 t, .agg (mc m)] w (RArrived w B g k t pl (takeN tl ll m.n) k.en) := by
  have HC := Lib.hid (h.alloc (.cells (mc m) 34))
  have HMB := Lib.hid (Blk.new w (mc m) 34)
  have HK := Lib.hid ((Chg.refl (fun i => i = g) w).alloc (.cells (mc m) 34))
  have HR := Lib.hid hr
  have hg := h.blk.lt
  have H0 := Lib.hid h0
  have HTN := Lib.hid (rtn h)
  have HLN := Lib.hid (rd_len hr)
  have HBB := Lib.hid h.base
  have HTA := Lib.hid h.toks.lt
  have hrl : ∀ x, ob m.la = some x → 0 < m.ln → x < w.heap.size := fun x hx h0 => hr.lt (by omega) h0 x hx
  clear h hr h0
  obtain ⟨kind, stream, session, attempt, inc, n, count, why, js, ja, jn, jc, jm, la, ln, lc⟩ := m
  obtain ⟨Z, HZ⟩ : ∃ Z, Hid (w.alloc (.cells (mc ⟨kind, stream, session, attempt, inc, n, count, why, js, ja, jn, jc, jm, la, ln, lc⟩) 34) = Z) := ⟨_, rfl⟩
  have HZ' := HZ.out
  rw [HZ.out] at HC HMB HK
  simp only at h1 h2 hn HR hl hfar hrl HLN
  subst h1 h2
  unfold mc at HZ' ⊢
  simp only at HZ' ⊢
  clear HZ
  obtain ⟨tl', HTL'⟩ : ∃ q, Hid (takeN tl ll n = q) := ⟨_, rfl⟩
  rw [HTL'.out]
  go_enter Try.func21, Try.ntmps21
  go_wp2_with fail
  clear HZ'
  refine (rlater HC.out t).mono ?_
  rintro e wb ⟨rfl, hb2, hc2⟩
  have HB2 := Lib.hid hb2
  have HC2 := Lib.hid (HK.out.then hc2 (fun i _ h => h))
  have hgm : Blk wb w.heap.size 34 _ := hc2.blk HMB.out (by show ¬ w.heap.size = g; omega)
  obtain ⟨ta, H1⟩ : ∃ n, Hid (k.ta = n) := ⟨_, rfl⟩
  obtain ⟨tn, H2⟩ : ∃ n, Hid (k.tn = n) := ⟨_, rfl⟩
  obtain ⟨tc, H3⟩ : ∃ n, Hid (k.tc = n) := ⟨_, rfl⟩
  obtain ⟨hd, H8⟩ : ∃ b, Hid (k.heard = b) := ⟨_, rfl⟩
  rw [H2.out] at ht HTN
  have c7 : wb.cell? ⟨g, 7, none⟩ = some (.int .i64 0) := by rw [← H0.out]; exact hb2.blk.cell 7 rfl
  have c0 : wb.cell? ⟨g, 0, none⟩ = some (.int .u64 3) := hb2.blk.cell 0 rfl
  have c8 : wb.cell? ⟨g, 8, none⟩ = some (.bool hd) := by rw [← H8.out]; exact hb2.blk.cell 8 rfl
  have f8 := hb2.blk.frozen 8
  have m0 : wb.cell? ⟨w.heap.size, 0, none⟩ = some (.int .i64 4) := hgm.cell 0 rfl
  have m1 : wb.cell? ⟨w.heap.size, 1, none⟩ = some (.int .u64 3) := hgm.cell 1 rfl
  have HGM := Lib.hid hgm
  clear hb2 hc2 hgm
  go_upto_region 2 with (fail)
  go_big_quiet (fail)
  go_upto_region 5 with (fail)
  have b3 : Cr ((wb.drewN nq).setCell ⟨g, 8, none⟩ (.bool true)) B g { k with now := nowOf k.now t, heard := true } pl tl := by
    have hset := ((Chg.refl (fun i => i = g) wb).drewN nq).set (p := ⟨g, 8, none⟩) (.inl rfl) (.bool true)
    exact HB2.out.turn (k' := { k with now := nowOf k.now t, heard := true }) hset ((HB2.out.blk.drewN nq).set 8 _) rfl rfl rfl rfl rfl rfl rfl HB2.out.now0 HB2.out.now1 HB2.out.next0 HB2.out.next1
  have k3 := (HC2.out.drewN nq).set (p := ⟨g, 8, none⟩) (.inl rfl) (.bool true)
  have g3 : Blk ((wb.drewN nq).setCell ⟨g, 8, none⟩ (.bool true)) w.heap.size 34 _ := (HGM.out.drewN nq).far (p := ⟨g, 8, none⟩) (by show w.heap.size ≠ g; omega) _
  obtain ⟨wc, HW⟩ : ∃ wc, Hid ((wb.drewN nq).setCell ⟨g, 8, none⟩ (.bool true) = wc) := ⟨_, rfl⟩
  rw [HW.out] at b3 k3 g3 ⊢
  clear HW c7 c0 c8 f8 m0 m1
  have B3 := Lib.hid b3
  have K3 := Lib.hid k3
  have G3 := Lib.hid g3
  have c6 : wc.cell? ⟨g, 6, none⟩ = some (.slice ta tn tc) := by rw [← H1.out, ← H2.out, ← H3.out]; exact b3.blk.cell 6 rfl
  have m0 : wc.cell? ⟨w.heap.size, 0, none⟩ = some (.int .i64 4) := g3.cell 0 rfl
  have HSRC : Hid (Rd wc 1 ta tn tc (ints tl)) := by
    have := b3.toks.rd
    rw [H1.out, H2.out, H3.out] at this
    exact Lib.hid this
  have hws := k3.size
  clear b3 k3 g3
  go_upto_region 7 with (fail)
  go_wp2_with (at_builtin; go_loud (refine wpList_app ints22 (by omega) rfl (.const (.slice none 0 0)) (.tmp 52) (by rfl) (B := w.heap.size) (by rfl) (Own.none_ wc w.heap.size 3 1) (by rfl) HSRC.out (ints_one _) (by omega) (by omega) hws ?_); intro a4 c4 w4 ho4 hg4 ha4)
  have HG4 := hg4
  have hk4 : Chg (fun _ => False) wc w4 := Chg.of_grown hg4 (fun k hk => by simp [ob] at hk)
  have B4 := Lib.hid (B3.out.chg hk4 id (fun _ _ => id) (fun _ _ => id))
  have K4 := Lib.hid (K3.out.then hk4 (fun _ _ h => h.elim))
  have G4 := Lib.hid (hk4.blk G3.out id)
  rw [Nat.zero_add, List.nil_append] at ho4
  have O4 := Lib.hid ho4
  clear hg4 HG4 ho4 ha4 hk4 c6 m0
  have tn0 : (0 : Int) ≤ (tn : Int) := by omega
  have HRW : Hid (∀ w', Chg (fun i => i = g) w w' → Rd w' 1 la ln lc (ints ll)) := Lib.hid (fun w' h => HR.out.chg h (fun h0 x hx e => hfar h0 x hx e))
  clear hfar hrl
  go_loopw [8, 9] (fun v i wr => ∃ (q : Nat) (a : Option Addr) (n' c : Nat) (ol : List Int), q ≤ ln ∧ v = .slice a n' c ∧ i = .int .i64 q ∧ n' ≤ tn + q ∧ Hid (ol = if n ≤ tn then tl ++ (ll.take q).drop ((tn : Int) - n).toNat else tl) ∧ Hid (Own wr w.heap.size 3 1 a n' c (ints ol)) ∧ Hid (Cr wr B g { k with now := nowOf k.now t, heard := true } pl tl) ∧
    Hid (Blk wr w.heap.size 34 #[.int .i64 4, .int .u64 3, .int .u64 session, .int .u64 attempt, .int .u64 inc, .int .u64 n, .int .u64 count, .int .i64 why, .int .u64 js, .slice ja jn jc, .int .i64 jm, .slice la ln lc]) ∧ Hid (Chg (fun i => i = g) w wr)) (fun _ i _ => ln - (intOf i).toNat)
  case atStart => exact ⟨0, a4, tn, c4, tl, Nat.zero_le _, rfl, rfl, by omega, Lib.hid (by split <;> simp), O4, B4, G4, K4⟩
  case round =>
    clear B4 G4 K4 O4 B3 K3 G3 HSRC
    obtain ⟨q, a, n', c, ol, hq, rfl, rfl, hn', HOL, HO, HCr, HG, HKr⟩ := hrel
    have m5 : wr.cell? ⟨w.heap.size, 5, none⟩ = some (.int .u64 n) := HG.out.cell 5 rfl
    have m11 : wr.cell? ⟨w.heap.size, 11, none⟩ = some (.slice la ln lc) := HG.out.cell 11 rfl
    have m0 : wr.cell? ⟨w.heap.size, 0, none⟩ = some (.int .i64 4) := HG.out.cell 0 rfl
    by_cases hcond : q < ln ∧ n ≤ tn
    · obtain ⟨hql, hnt⟩ := hcond
      obtain ⟨b, off, u, rfl, hx, hcx⟩ := (HRW.out wr HKr.out).get hql
      obtain ⟨x, hlx, rfl⟩ := ints_get hx
      have HLX := Lib.hid hlx
      have i0 : (0 : Int) ≤ (q : Int) := by omega
      have i1 : (q : Int) < (ln : Int) := by omega
      clear hx hlx
      by_cases hge : (tn : Int) ≤ n + q
      · have HON := Lib.hid (HO.out.chg ((Chg.refl (fun _ => False) wr).alloc (.cells #[.int .i64 x] 3)) (fun _ _ => id))
        have HSR : Hid (Rd (wr.alloc (.cells #[.int .i64 x] 3)) 1 (some ⟨wr.heap.size, 0, none⟩) 1 1 (ints [x])) := Lib.hid (Own.made (size := 1) (B := 0) wr #[.int .i64 x] 3 1 (Nat.zero_le _) (by unfold maxLen; omega) rfl).rd
        have hwr := HKr.out.size
        have HWR : Hid (w.heap.size ≤ (wr.alloc (.cells #[.int .i64 x] 3)).heap.size) := Lib.hid (by simp; omega)
        go_wp2_with (at_builtin; (refine wpList_app ints22 (by omega) rfl (.tmp 74) (.tmp 80) (by rfl) (B := w.heap.size) (by rfl) HON.out (by rfl) HSR.out (ints_one _) (by omega) (by omega) HWR.out ?_); intro a5 c5 w5 ho5 hg5 ha5)
        go_roundw
        case rel =>
          have hne : ob a ≠ some w.heap.size := HO.out.ne HG.out (by decide)
          have hca := (Chg.refl (fun _ => False) wr).alloc (.cells #[.int .i64 x] 3)
          have hcg : Chg (fun i => ob a = some i) wr w5 := (hca.mono (T := fun i => ob a = some i) (fun _ _ h => h.elim)).then (Chg.of_grown' hg5) (fun _ _ h => h)
          have hfr : ∀ i, ob a = some i → w.heap.size ≤ i := fun i hi => (HO.out.lt i hi).1
          refine ⟨q + 1, a5, n' + 1, c5, ol ++ [x], by omega, rfl, by go_num, by omega, Lib.hid ?_, Lib.hid (by rw [← ints_append]; exact ho5), Lib.hid (HCr.out.chg hcg (fun e => by have := hfr g e; omega) (fun y hy e => by have := hfr y e; have := (HTA.out y hy).2; omega) (fun y hy e => by have := hfr y e; have := HBB.out; omega)), Lib.hid (hcg.blk HG.out hne), Lib.hid (HKr.out.then hcg (fun i hi e => by have := hfr i e; omega))⟩
          rw [HOL.out, if_pos hnt, if_pos hnt, take_step ll _ q HLX.out, if_pos (by omega), List.append_assoc]
        case measure => simp [intOf]; omega
      · go_wp2
        go_roundw
        case rel =>
          refine ⟨q + 1, a, n', c, ol, by omega, rfl, by go_num, by omega, Lib.hid ?_, HO, HCr, HG, HKr⟩
          rw [HOL.out, if_pos hnt, if_pos hnt, take_step ll _ q HLX.out, if_neg (by omega), List.append_nil]
        case measure => simp [intOf]; omega
    · have hol : ol = tl' := by
        rw [HOL.out, ← HTL'.out]
        have e1 := HTN.out
        have e2 := HLN.out
        unfold takeN
        by_cases h1 : n ≤ tn
        · have hqe : q = ln := by omega
          rw [if_pos h1, hqe, List.take_of_length_le (by omega), e1]
          split
          · rfl
          · rw [List.drop_of_length_le (by omega), List.append_nil]
        · rw [if_neg h1, if_neg (by omega)]
      subst hol
      have f6 := HCr.out.blk.frozen 6
      have c6 : wr.cell? ⟨g, 6, none⟩ = some (.slice ta tn tc) := by rw [← H1.out, ← H2.out, ← H3.out]; exact HCr.out.blk.cell 6 rfl
      have hcond2 : ¬ ((q : Int) < (ln : Int)) ∨ ¬ (n ≤ (tn : Int)) := by omega
      have FIN : Hid (Cr (wr.setCell ⟨g, 6, none⟩ (.slice a n' c)) B g { k with now := nowOf k.now t, heard := true, ta := a, tn := n', tc := c } pl ol ∧ Blk (wr.setCell ⟨g, 6, none⟩ (.slice a n' c)) w.heap.size 34 #[.int .i64 4, .int .u64 3, .int .u64 session, .int .u64 attempt, .int .u64 inc, .int .u64 n, .int .u64 count, .int .i64 why, .int .u64 js, .slice ja jn jc, .int .i64 jm, .slice la ln lc] ∧ Chg (fun i => i = g) w (wr.setCell ⟨g, 6, none⟩ (.slice a n' c))) := by
        have hset := (Chg.refl (fun i => i = g) wr).set (p := ⟨g, 6, none⟩) (.inl rfl) (.slice a n' c)
        have hfr : ∀ i, ob a = some i → w.heap.size ≤ i := fun i hi => (HO.out.lt i hi).1
        exact Lib.hid ⟨⟨HCr.out.blk.set 6 _, (HO.out.chg hset (fun y hy e => by have := hfr y hy; have : y = g := e; omega)).lower (by have := HBB.out; omega), HCr.out.job.chg hset (fun h0 y hy e => by have := HCr.out.far h0 y hy; have := HBB.out; have : y = g := e; omega), HCr.out.far, HBB.out, HCr.out.ev0, HCr.out.ev1, HCr.out.now0, HCr.out.now1, HCr.out.next0, HCr.out.next1, by show n' ≤ _; omega⟩,
          HG.out.far (p := ⟨g, 6, none⟩) (by show w.heap.size ≠ g; omega) _, HKr.out.set (.inl rfl) _⟩
      have HN' : Hid (n' = ol.length) := Lib.hid (by have := HO.out.form.1; simpa [ints] using this.symm)
      have HFA : Hid (∀ x, ob a = some x → ob k.ta = some x ∨ w.heap.size ≤ x) := Lib.hid (fun x hx => .inr (HO.out.lt x hx).1)
      go_upto_region 14 with (fail)
      all_goals
        obtain ⟨wd, HWD⟩ : ∃ wd, Hid (wr.setCell ⟨g, 6, none⟩ (.slice a n' c) = wd) := ⟨_, rfl⟩
        rw [HWD.out] at FIN ⊢
        obtain ⟨BD, GD, KD⟩ := FIN.out
        have BD := Lib.hid BD
        have KD := Lib.hid KD
        have m0 : wd.cell? ⟨w.heap.size, 0, none⟩ = some (.int .i64 4) := GD.cell 0 rfl
        clear HWD FIN c6 f6 m5 m11 GD
        go_wp2_with fail
        refine (rgot_any BD.out.blk BD.out.few).mono ?_
        rintro e w5 ⟨rfl, hb5⟩
        have B5 := Lib.hid (BD.out.below hb5)
        have K5 := Lib.hid (KD.out.then (Chg.of_below hb5 (fun _ => False)) (fun i _ h => h.elim))
        clear hb5
        unfold mc gotM
        simp only
        go_wp2
        go_ret
        exact ⟨a, n', c, w5.heap.size, rfl, HN'.out, K5.out.size, Blk.new w5 (mc (gotM n')) 34, B5.out.alloc _, K5.out.alloc _, HFA.out⟩

theorem rarrive_end (h : Cr w B g k pl tl) (t : Int) (m : M) (h0 : k.en = 0) (h1 : m.stream = 3) (h2 : m.kind = 5) :
    Calls Try.prog 21 #[.pointer (some ⟨g, 0, none⟩), .int .i64 t, .agg (mc m)] w (RArrived w B g k t pl tl (if m.n = k.tn then m.why else k.en)) := by
  obtain ⟨E, HE⟩ : ∃ E, Hid ((if m.n = k.tn then m.why else k.en) = E) := ⟨_, rfl⟩
  rw [HE.out]
  have HC := Lib.hid (h.alloc (.cells (mc m) 34))
  have HMB := Lib.hid (Blk.new w (mc m) 34)
  have HK := Lib.hid ((Chg.refl (fun i => i = g) w).alloc (.cells (mc m) 34))
  have hf := h.few
  have hg := h.blk.lt
  have H0 := Lib.hid h0
  have HTN := Lib.hid (rtn h)
  clear h h0
  obtain ⟨kind, stream, session, attempt, inc, n, count, why, js, ja, jn, jc, jm, la, ln, lc⟩ := m
  obtain ⟨Z, HZ⟩ : ∃ Z, Hid (w.alloc (.cells (mc ⟨kind, stream, session, attempt, inc, n, count, why, js, ja, jn, jc, jm, la, ln, lc⟩) 34) = Z) := ⟨_, rfl⟩
  have HZ' := HZ.out
  rw [HZ.out] at HC HMB HK
  simp only at h1 h2 HE
  subst h1 h2
  unfold mc at HZ' ⊢
  simp only at HZ' ⊢
  clear HZ
  go_enter Try.func21, Try.ntmps21
  go_wp2_with fail
  clear HZ'
  refine (rlater HC.out t).mono ?_
  rintro e wb ⟨rfl, hb2, hc2⟩
  have HB2 := Lib.hid hb2
  have HC2 := Lib.hid (HK.out.then hc2 (fun i _ h => h))
  have hgm : Blk wb w.heap.size 34 _ := hc2.blk HMB.out (by show ¬ w.heap.size = g; omega)
  obtain ⟨ta, H1⟩ : ∃ n, Hid (k.ta = n) := ⟨_, rfl⟩
  obtain ⟨tn, H2⟩ : ∃ n, Hid (k.tn = n) := ⟨_, rfl⟩
  obtain ⟨tc, H3⟩ : ∃ n, Hid (k.tc = n) := ⟨_, rfl⟩
  obtain ⟨hd, H8⟩ : ∃ b, Hid (k.heard = b) := ⟨_, rfl⟩
  rw [H2.out] at hf HE
  have c7 : wb.cell? ⟨g, 7, none⟩ = some (.int .i64 0) := by rw [← H0.out]; exact hb2.blk.cell 7 rfl
  have c0 : wb.cell? ⟨g, 0, none⟩ = some (.int .u64 3) := hb2.blk.cell 0 rfl
  have c8 : wb.cell? ⟨g, 8, none⟩ = some (.bool hd) := by rw [← H8.out]; exact hb2.blk.cell 8 rfl
  have f8 := hb2.blk.frozen 8
  have m0 : wb.cell? ⟨w.heap.size, 0, none⟩ = some (.int .i64 5) := hgm.cell 0 rfl
  have m1 : wb.cell? ⟨w.heap.size, 1, none⟩ = some (.int .u64 3) := hgm.cell 1 rfl
  have HGM := Lib.hid hgm
  clear hb2 hc2 hgm
  go_upto_region 2 with (fail)
  go_big_quiet (fail)
  go_upto_region 5 with (fail)
  have b3 : Cr ((wb.drewN nq).setCell ⟨g, 8, none⟩ (.bool true)) B g { k with now := nowOf k.now t, heard := true } pl tl := by
    have hset := ((Chg.refl (fun i => i = g) wb).drewN nq).set (p := ⟨g, 8, none⟩) (.inl rfl) (.bool true)
    exact HB2.out.turn (k' := { k with now := nowOf k.now t, heard := true }) hset ((HB2.out.blk.drewN nq).set 8 _) rfl rfl rfl rfl rfl rfl rfl HB2.out.now0 HB2.out.now1 HB2.out.next0 HB2.out.next1
  have k3 := (HC2.out.drewN nq).set (p := ⟨g, 8, none⟩) (.inl rfl) (.bool true)
  have g3 : Blk ((wb.drewN nq).setCell ⟨g, 8, none⟩ (.bool true)) w.heap.size 34 _ := (HGM.out.drewN nq).far (p := ⟨g, 8, none⟩) (by show w.heap.size ≠ g; omega) _
  obtain ⟨wc, HW⟩ : ∃ wc, Hid ((wb.drewN nq).setCell ⟨g, 8, none⟩ (.bool true) = wc) := ⟨_, rfl⟩
  rw [HW.out] at b3 k3 g3 ⊢
  clear HW c7 c0 c8 f8 m0 m1
  have B3 := Lib.hid b3
  have K3 := Lib.hid k3
  have c6 : wc.cell? ⟨g, 6, none⟩ = some (.slice ta tn tc) := by rw [← H1.out, ← H2.out, ← H3.out]; exact b3.blk.cell 6 rfl
  have c7 : wc.cell? ⟨g, 7, none⟩ = some (.int .i64 0) := by rw [← H0.out]; exact b3.blk.cell 7 rfl
  have f7 := b3.blk.frozen 7
  have m0 : wc.cell? ⟨w.heap.size, 0, none⟩ = some (.int .i64 5) := g3.cell 0 rfl
  have m5 : wc.cell? ⟨w.heap.size, 5, none⟩ = some (.int .u64 n) := g3.cell 5 rfl
  have m7 : wc.cell? ⟨w.heap.size, 7, none⟩ = some (.int .i64 why) := g3.cell 7 rfl
  clear b3 k3 g3
  by_cases hnt : n = (tn : Int)
  · have HE2 := Lib.hid (show E = why by rw [← HE.out, if_pos hnt])
    have bnt : (n == (tn : Int)) = true := by simpa using hnt
    clear hnt
    go_upto_region 16 with (fail)
    have b4 : Cr (wc.setCell ⟨g, 7, none⟩ (.int .i64 why)) B g { k with now := nowOf k.now t, heard := true, en := E } pl tl := by
      have hset := (Chg.refl (fun i => i = g) wc).set (p := ⟨g, 7, none⟩) (.inl rfl) (.int .i64 why)
      exact B3.out.turn (k' := { k with now := nowOf k.now t, heard := true, en := E }) hset (by rw [HE2.out]; exact B3.out.blk.set 7 _) rfl rfl rfl rfl rfl rfl rfl B3.out.now0 B3.out.now1 B3.out.next0 B3.out.next1
    have k4 := K3.out.set (p := ⟨g, 7, none⟩) (.inl rfl) (.int .i64 why)
    obtain ⟨wd, HW⟩ : ∃ wd, Hid (wc.setCell ⟨g, 7, none⟩ (.int .i64 why) = wd) := ⟨_, rfl⟩
    rw [HW.out] at b4 k4 ⊢
    clear HW c6 c7 f7 m0 m5 m7
    have B4 := Lib.hid b4
    have K4 := Lib.hid k4
    clear b4 k4
    go_wp2_with fail
    refine (rgot_any B4.out.blk B4.out.few).mono ?_
    rintro e w5 ⟨rfl, hb5⟩
    have B5 := Lib.hid (B4.out.below hb5)
    have K5 := Lib.hid (K4.out.then (Chg.of_below hb5 (fun _ => False)) (fun i _ h => h.elim))
    clear hb5
    simp only [H2.out]
    unfold mc gotM
    simp only
    go_wp2
    go_ret
    exact ⟨ta, tn, tc, w5.heap.size, rfl, by rw [← HTN.out, H2.out], K5.out.size, Blk.new w5 (mc (gotM tn)) 34, by rw [← H1.out, ← H2.out, ← H3.out]; exact B5.out.alloc _, K5.out.alloc _, fun x hx => .inl (by rw [H1.out]; exact hx)⟩
  · have HE2 := Lib.hid (show E = k.en by rw [← HE.out, if_neg hnt])
    have bnt : (n == (tn : Int)) = false := by simpa using hnt
    clear hnt
    go_upto_region 16 with (fail)
    clear c6 c7 f7 m0 m5 m7
    go_wp2_with fail
    refine (rgot_any B3.out.blk B3.out.few).mono ?_
    rintro e w5 ⟨rfl, hb5⟩
    have B5 := Lib.hid (B3.out.below hb5)
    have K5 := Lib.hid (K3.out.then (Chg.of_below hb5 (fun _ => False)) (fun i _ h => h.elim))
    clear hb5
    simp only [H2.out]
    unfold mc gotM
    simp only
    go_wp2
    go_ret
    exact ⟨ta, tn, tc, w5.heap.size, rfl, by rw [← HTN.out, H2.out], K5.out.size, Blk.new w5 (mc (gotM tn)) 34, by rw [← H1.out, ← H2.out, ← H3.out, HE2.out]; exact B5.out.alloc _, K5.out.alloc _, fun x hx => .inl (by rw [H1.out]; exact hx)⟩
end
end Go.Proofs.Ytoghkikjgilpdaa.ClY
