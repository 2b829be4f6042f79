/-
  Walks over the client: Arrive of tokens, and of an end.
-/
import Derived.Test.YtoghkikjgilpdaaClR
namespace Go.Proofs.Ytoghkikjgilpdaa.ClQ
open Go.RowKit Go.Proofs.Ytoghkikjgilpdaa.Kit Go.Proofs.Ytoghkikjgilpdaa.ClW Go.Proofs.Ytoghkikjgilpdaa.ClV Go.Proofs.Ytoghkikjgilpdaa.ClS
attribute [local go_sem high] max_imax min_imin
set_option linter.unusedVariables false

/-- The tokens behind a message that tells some from a place on. -/
def takeN (tl ll : List Int) (n : Int) : List Int := if n ≤ tl.length ∧ (tl.length : Int) - n < ll.length then tl ++ ll.drop ((tl.length : Int) - n).toNat else tl

section
variable {B g : Nat} {k : Ck} {pl tl ll : List Int} {w w' : World} {m : M}

theorem Cl.tn (h : Cl w B g k pl tl) : k.tn = tl.length := by
  have := h.toks.form.1
  simpa [ints] using this.symm
theorem rd_len {a : Option Addr} {n c : Nat} (h : Rd w 1 a n c (ints ll)) : n = ll.length := by
  have := h.len
  simpa [ints] using this.symm

theorem take_any (h : Cl w B g k pl tl) (hn : 0 ≤ m.n) (hr : Rd w 1 m.la m.ln m.lc (ints ll)) (hl : m.ln ≤ 549755813888) (ht : k.tn ≤ 549755813888) :
    Calls Try.prog 28 #[.pointer (some ⟨g, 0, none⟩), .agg (mc m)] w (ClT.Taken w B g k pl (takeN tl ll m.n)) := by
  have e1 := Cl.tn h
  have e2 := rd_len hr
  obtain ⟨mn, hmn⟩ : ∃ mn : Nat, m.n = mn := ⟨m.n.toNat, by omega⟩
  unfold takeN
  by_cases hc : m.n ≤ tl.length ∧ (tl.length : Int) - m.n < ll.length
  · rw [if_pos hc]
    have := ClT.take_yes h hmn (by omega) (by omega) hr hl ht
    rw [show ((tl.length : Int) - m.n).toNat = k.tn - mn by omega]
    exact this
  · rw [if_neg hc]
    refine (ClT.take_no h (by omega) (by omega)).mono ?_
    rintro e w' ⟨rfl, hb⟩
    exact ⟨k.ta, k.tn, k.tc, rfl, e1, h.below hb, Chg.of_below hb _, .inl rfl⟩

def Arrived (w : World) (B g : Nat) (k : Ck) (t : Int) (pl tl : List Int) (en : Int) (e : Ending) (w' : World) : Prop :=
  ∃ ta tn tc gm, e = .returned (.slice (some ⟨gm, 0, none⟩) 1 1) ∧ tn = tl.length ∧ w.heap.size ≤ gm ∧ Blk w' gm 39 (mc (gotM tn)) ∧ Cl w' B g { k with now := nowOf k.now t, heard := true, ta := ta, tn := tn, tc := tc, en := en } pl tl ∧
    Chg (fun i => i = g ∨ ob k.ta = some i) w w' ∧ (ob ta = ob k.ta ∨ ∃ x, ob ta = some x ∧ w.heap.size ≤ x)

theorem arrive_tok (h : Cl w B g k pl tl) (t : Int) (m : M) (h0 : k.en = 0) (h1 : m.stream = 3) (h2 : m.kind = 4) (hn : 0 ≤ m.n) (hr : Rd w 1 m.la m.ln m.lc (ints ll)) (hfar : 0 < m.ln → ∀ x, ob m.la = some x → x ≠ g) (hl : m.ln ≤ 549755813888) (ht : k.tn ≤ 549755813888) :
    Calls Try.prog 10 #[.pointer (some ⟨g, 0, none⟩), .int .i64 t, .agg (mc m)] w (Arrived w B g k t pl (takeN tl ll m.n) k.en) := by
  have HC := Lib.hid (h.alloc (.cells (mc m) 39))
  have HMB := Lib.hid (Blk.new w (mc m) 39)
  have HK := Lib.hid ((Chg.refl (fun i => i = g) w).alloc (.cells (mc m) 39))
  have HR := Lib.hid hr
  have hne := h.ne1
  have he := h.ev0
  have hg := h.blk.lt
  have H0 := Lib.hid h0
  have hrl := hr.lt (by omega)
  clear h hr h0
  obtain ⟨kind, stream, session, attempt, inc, n, count, why, js, ja, jn, jc, jm, la, ln, lc⟩ := m
  obtain ⟨Z, HZ⟩ : ∃ Z, Hid (w.alloc (.cells (mc ⟨kind, stream, session, attempt, inc, n, count, why, js, ja, jn, jc, jm, la, ln, lc⟩) 39) = Z) := ⟨_, rfl⟩
  have HZ' := HZ.out
  rw [HZ.out] at HC HMB HK
  simp only at h1 h2 hn HR hl hrl hfar
  subst h1 h2
  unfold mc at HZ' ⊢
  simp only at HZ' ⊢
  clear HZ
  go_enter Try.func10, Try.ntmps10
  go_wp2_with fail
  clear HZ'
  refine (ok_any HC.out.blk (by omega)).mono ?_
  rintro e wa ⟨rfl, nd, rfl⟩
  go_wp2_with fail
  refine (ClV.later (HC.out.drewN nd) t).mono ?_
  rintro e wb ⟨rfl, hb2, hc2⟩
  have HB2 := Lib.hid hb2
  have HC2 := Lib.hid ((HK.out.drewN nd).then hc2 (fun i _ h => h))
  have hgm : Blk wb w.heap.size 39 _ := hc2.blk (HMB.out.drewN nd) (by show ¬ w.heap.size = g; omega)
  have c7 : wb.cell? ⟨g, 7, none⟩ = some (.int .i64 0) := by rw [← H0.out]; exact hb2.blk.cell 7 rfl
  have c0 : wb.cell? ⟨g, 0, none⟩ = some (.int .u64 3) := hb2.blk.cell 0 rfl
  have m0 : wb.cell? ⟨w.heap.size, 0, none⟩ = some (.int .i64 4) := hgm.cell 0 rfl
  have m1 : wb.cell? ⟨w.heap.size, 1, none⟩ = some (.int .u64 3) := hgm.cell 1 rfl
  have m2 : wb.cell? ⟨w.heap.size, 2, none⟩ = some (.int .u64 session) := hgm.cell 2 rfl
  have m3 : wb.cell? ⟨w.heap.size, 3, none⟩ = some (.int .u64 attempt) := hgm.cell 3 rfl
  have m4 : wb.cell? ⟨w.heap.size, 4, none⟩ = some (.int .u64 inc) := hgm.cell 4 rfl
  have m5 : wb.cell? ⟨w.heap.size, 5, none⟩ = some (.int .u64 n) := hgm.cell 5 rfl
  have m6 : wb.cell? ⟨w.heap.size, 6, none⟩ = some (.int .u64 count) := hgm.cell 6 rfl
  have m7 : wb.cell? ⟨w.heap.size, 7, none⟩ = some (.int .i64 why) := hgm.cell 7 rfl
  have m8 : wb.cell? ⟨w.heap.size, 8, none⟩ = some (.int .u64 js) := hgm.cell 8 rfl
  have m9 : wb.cell? ⟨w.heap.size, 9, none⟩ = some (.slice ja jn jc) := hgm.cell 9 rfl
  have m10 : wb.cell? ⟨w.heap.size, 10, none⟩ = some (.int .i64 jm) := hgm.cell 10 rfl
  have m11 : wb.cell? ⟨w.heap.size, 11, none⟩ = some (.slice la ln lc) := hgm.cell 11 rfl
  have HR2 := Lib.hid (HR.out.chg HC2.out (S := fun i => i = g) (fun hm x hx e => hfar hm x hx e))
  clear hb2 hc2 hgm hfar
  go_upto_region 4 with (fail)
  go_big_quiet (fail)
  go_upto_region 9 with (fail)
  go_wp2_with fail
  refine (take_any (m := ⟨4, 3, session, attempt, inc, n, count, why, js, ja, jn, jc, jm, la, ln, lc⟩) (HB2.out.drewN nq) hn (HR2.out.drewN nq) hl ht).mono ?_
  rintro e w3 ⟨ta, tn, tc, rfl, htn, hb3, hc3, ha3⟩
  have B3 := Lib.hid hb3
  have hs3 := HC2.out.size
  have K3 := Lib.hid (((HC2.out.drewN nq).mono (T := fun i => i = g ∨ ob k.ta = some i) (fun _ _ h => .inl h)).then hc3 (fun i _ h => h))
  have A3 : Hid (ob ta = ob k.ta ∨ ∃ x, ob ta = some x ∧ w.heap.size ≤ x) := Lib.hid (ha3.imp id (fun ⟨x, h1, h2⟩ => ⟨x, h1, Nat.le_trans hs3 h2⟩))
  obtain ⟨hd, H8⟩ : ∃ b, Hid (k.heard = b) := ⟨_, rfl⟩
  have c8 : w3.cell? ⟨g, 8, none⟩ = some (.bool hd) := by rw [← H8.out]; exact hb3.blk.cell 8 rfl
  have f8 := hb3.blk.frozen 8
  have HTN := Lib.hid htn
  clear hb3 hc3 ha3 c7 c0 m0 m1 m2 m3 m4 m5 m6 m7 m8 m9 m10 m11 htn
  go_upto_region 14 with (fail)
  have b4 : Cl (w3.setCell ⟨g, 8, none⟩ (.bool true)) B g { k with now := nowOf k.now t, heard := true, ta := ta, tn := tn, tc := tc } pl (takeN tl ll n) := by
    have hset := (Chg.refl (fun i => i = g) w3).set (p := ⟨g, 8, none⟩) (.inl rfl) (.bool true)
    exact B3.out.turn (k' := { k with now := nowOf k.now t, heard := true, ta := ta, tn := tn, tc := tc }) hset (B3.out.blk.set 8 _) rfl rfl rfl rfl rfl rfl rfl B3.out.now0 B3.out.now1 B3.out.next0 B3.out.next1
  have k4 := K3.out.set (p := ⟨g, 8, none⟩) (.inl (.inl rfl)) (.bool true)
  obtain ⟨wc, HW⟩ : ∃ wc, Hid (w3.setCell ⟨g, 8, none⟩ (.bool true) = wc) := ⟨_, rfl⟩
  rw [HW.out] at b4 k4 ⊢
  clear HW c8 f8
  have B4 := Lib.hid b4
  have K4 := Lib.hid k4
  clear b4 k4
  go_wp2_with fail
  refine (got_any B4.out.blk B4.out.few).mono ?_
  rintro e w5 ⟨rfl, hb5⟩
  have B5 := Lib.hid (B4.out.below hb5)
  have K5 := Lib.hid (K4.out.then (Chg.of_below hb5 (fun _ => False)) (fun i _ h => h.elim))
  clear hb5
  unfold mc gotM
  simp only
  go_wp2
  go_ret
  exact ⟨ta, tn, tc, w5.heap.size, rfl, HTN.out, K5.out.size, Blk.new w5 (mc (gotM tn)) 39, B5.out.alloc _, K5.out.alloc _, A3.out⟩

theorem arrive_end (h : Cl w B g k pl tl) (t : Int) (m : M) (h0 : k.en = 0) (h1 : m.stream = 3) (h2 : m.kind = 5) :
    Calls Try.prog 10 #[.pointer (some ⟨g, 0, none⟩), .int .i64 t, .agg (mc m)] w (Arrived w B g k t pl tl (if m.n = k.tn then m.why else k.en)) := by
  obtain ⟨E, HE⟩ : ∃ E, Hid ((if m.n = k.tn then m.why else k.en) = E) := ⟨_, rfl⟩
  rw [HE.out]
  have HC := Lib.hid (h.alloc (.cells (mc m) 39))
  have HMB := Lib.hid (Blk.new w (mc m) 39)
  have HK := Lib.hid ((Chg.refl (fun i => i = g) w).alloc (.cells (mc m) 39))
  have hne := h.ne1
  have he := h.ev0
  have hf := h.few
  have hg := h.blk.lt
  have H0 := Lib.hid h0
  have HTN := Lib.hid (Cl.tn h)
  clear h h0
  obtain ⟨kind, stream, session, attempt, inc, n, count, why, js, ja, jn, jc, jm, la, ln, lc⟩ := m
  obtain ⟨Z, HZ⟩ : ∃ Z, Hid (w.alloc (.cells (mc ⟨kind, stream, session, attempt, inc, n, count, why, js, ja, jn, jc, jm, la, ln, lc⟩) 39) = Z) := ⟨_, rfl⟩
  have HZ' := HZ.out
  rw [HZ.out] at HC HMB HK
  simp only at h1 h2 HE
  subst h1 h2
  unfold mc at HZ' ⊢
  simp only at HZ' ⊢
  clear HZ
  go_enter Try.func10, Try.ntmps10
  go_wp2_with fail
  clear HZ'
  refine (ok_any HC.out.blk (by omega)).mono ?_
  rintro e wa ⟨rfl, nd, rfl⟩
  go_wp2_with fail
  refine (ClV.later (HC.out.drewN nd) t).mono ?_
  rintro e wb ⟨rfl, hb2, hc2⟩
  have HB2 := Lib.hid hb2
  have HC2 := Lib.hid ((HK.out.drewN nd).then hc2 (fun i _ h => h))
  have hgm : Blk wb w.heap.size 39 _ := hc2.blk (HMB.out.drewN nd) (by show ¬ w.heap.size = g; omega)
  obtain ⟨ta, H1⟩ : ∃ n, Hid (k.ta = n) := ⟨_, rfl⟩
  obtain ⟨tn, H2⟩ : ∃ n, Hid (k.tn = n) := ⟨_, rfl⟩
  obtain ⟨tc, H3⟩ : ∃ n, Hid (k.tc = n) := ⟨_, rfl⟩
  obtain ⟨hd, H8⟩ : ∃ b, Hid (k.heard = b) := ⟨_, rfl⟩
  rw [H2.out] at hf HE
  have c7 : wb.cell? ⟨g, 7, none⟩ = some (.int .i64 0) := by rw [← H0.out]; exact hb2.blk.cell 7 rfl
  have c0 : wb.cell? ⟨g, 0, none⟩ = some (.int .u64 3) := hb2.blk.cell 0 rfl
  have c6 : wb.cell? ⟨g, 6, none⟩ = some (.slice ta tn tc) := by rw [← H1.out, ← H2.out, ← H3.out]; exact hb2.blk.cell 6 rfl
  have c8 : wb.cell? ⟨g, 8, none⟩ = some (.bool hd) := by rw [← H8.out]; exact hb2.blk.cell 8 rfl
  have f7 := hb2.blk.frozen 7
  have f8 := hb2.blk.frozen 8
  have m0 : wb.cell? ⟨w.heap.size, 0, none⟩ = some (.int .i64 5) := hgm.cell 0 rfl
  have m1 : wb.cell? ⟨w.heap.size, 1, none⟩ = some (.int .u64 3) := hgm.cell 1 rfl
  have m5 : wb.cell? ⟨w.heap.size, 5, none⟩ = some (.int .u64 n) := hgm.cell 5 rfl
  have m7 : wb.cell? ⟨w.heap.size, 7, none⟩ = some (.int .i64 why) := hgm.cell 7 rfl
  clear hb2 hc2 hgm
  have FIN : ∀ (x : Int) (wc : World), Chg (fun i => i = g) wb wc → Blk wc g 58 (cc { k with now := nowOf k.now t, heard := true, en := x }) → Cl wc B g { k with now := nowOf k.now t, heard := true, en := x } pl tl := fun x wc hc hb =>
    HB2.out.turn (k' := { k with now := nowOf k.now t, heard := true, en := x }) hc hb rfl rfl rfl rfl rfl rfl rfl HB2.out.now0 HB2.out.now1 HB2.out.next0 HB2.out.next1
  have HFIN := Lib.hid FIN
  clear FIN
  go_upto_region 4 with (fail)
  go_big_quiet (fail)
  revert nq; intro n1
  go_upto_region 11 with (fail)
  go_big_quiet (fail)
  revert nq; intro n2
  by_cases hnt : n = (tn : Int)
  · have HE2 := Lib.hid (show E = why by rw [← HE.out, if_pos hnt])
    have bnt : (n == (tn : Int)) = true := by simpa using hnt
    clear hnt
    go_upto_region 14 with (fail)
    have b4 := HFIN.out E (((wb.drewN (n1 + n2)).setCell ⟨g, 7, none⟩ (.int .i64 why)).setCell ⟨g, 8, none⟩ (.bool true)) ((((Chg.refl (fun i => i = g) wb).drewN (n1 + n2)).set (p := ⟨g, 7, none⟩) (.inl rfl) (.int .i64 why)).set (p := ⟨g, 8, none⟩) (.inl rfl) (.bool true)) (by rw [HE2.out]; exact ((HB2.out.blk.drewN (n1 + n2)).set 7 _).set 8 _)
    have k4 : Chg (fun i => i = g ∨ ob k.ta = some i) w (((wb.drewN (n1 + n2)).setCell ⟨g, 7, none⟩ (.int .i64 why)).setCell ⟨g, 8, none⟩ (.bool true)) := (HC2.out.then ((((Chg.refl (fun i => i = g) wb).drewN (n1 + n2)).set (p := ⟨g, 7, none⟩) (.inl rfl) (.int .i64 why)).set (p := ⟨g, 8, none⟩) (.inl rfl) (.bool true)) (fun i _ h => h)).mono (fun _ _ h => .inl h)
    obtain ⟨wc, HW⟩ : ∃ wc, Hid ((((wb.drewN (n1 + n2)).setCell ⟨g, 7, none⟩ (.int .i64 why)).setCell ⟨g, 8, none⟩ (.bool true)) = wc) := ⟨_, rfl⟩
    rw [HW.out] at b4 k4 ⊢
    clear HW c8 f8 c6 c7 f7 m0 m1 m5 m7 c0
    have B4 := Lib.hid b4
    have K4 := Lib.hid k4
    clear b4 k4
    go_wp2_with fail
    refine (got_any B4.out.blk B4.out.few).mono ?_
    rintro e w5 ⟨rfl, hb5⟩
    have B5 := Lib.hid (B4.out.below hb5)
    have K5 := Lib.hid (K4.out.then (Chg.of_below hb5 (fun _ => False)) (fun i _ h => h.elim))
    clear hb5
    simp only [H2.out]
    unfold mc gotM
    simp only
    go_wp2
    go_ret
    exact ⟨ta, tn, tc, w5.heap.size, rfl, by rw [← HTN.out, H2.out], K5.out.size, Blk.new w5 (mc (gotM tn)) 39, by rw [← H1.out, ← H2.out, ← H3.out]; exact B5.out.alloc _, K5.out.alloc _, .inl (by rw [H1.out])⟩
  · have HE2 := Lib.hid (show E = k.en by rw [← HE.out, if_neg hnt])
    have bnt : (n == (tn : Int)) = false := by simpa using hnt
    clear hnt
    go_upto_region 14 with (fail)
    have b4 := HFIN.out E ((wb.drewN (n1 + n2)).setCell ⟨g, 8, none⟩ (.bool true)) (((Chg.refl (fun i => i = g) wb).drewN (n1 + n2)).set (p := ⟨g, 8, none⟩) (.inl rfl) (.bool true)) (by rw [HE2.out]; exact (HB2.out.blk.drewN (n1 + n2)).set 8 _)
    have k4 : Chg (fun i => i = g ∨ ob k.ta = some i) w ((wb.drewN (n1 + n2)).setCell ⟨g, 8, none⟩ (.bool true)) := (HC2.out.then (((Chg.refl (fun i => i = g) wb).drewN (n1 + n2)).set (p := ⟨g, 8, none⟩) (.inl rfl) (.bool true)) (fun i _ h => h)).mono (fun _ _ h => .inl h)
    obtain ⟨wc, HW⟩ : ∃ wc, Hid (((wb.drewN (n1 + n2)).setCell ⟨g, 8, none⟩ (.bool true)) = wc) := ⟨_, rfl⟩
    rw [HW.out] at b4 k4 ⊢
    clear HW c8 f8 c6 c7 f7 m0 m1 m5 m7 c0
    have B4 := Lib.hid b4
    have K4 := Lib.hid k4
    clear b4 k4
    go_wp2_with fail
    refine (got_any B4.out.blk B4.out.few).mono ?_
    rintro e w5 ⟨rfl, hb5⟩
    have B5 := Lib.hid (B4.out.below hb5)
    have K5 := Lib.hid (K4.out.then (Chg.of_below hb5 (fun _ => False)) (fun i _ h => h.elim))
    clear hb5
    simp only [H2.out]
    unfold mc gotM
    simp only
    go_wp2
    go_ret
    exact ⟨ta, tn, tc, w5.heap.size, rfl, by rw [← HTN.out, H2.out], K5.out.size, Blk.new w5 (mc (gotM tn)) 39, by rw [← H1.out, ← H2.out, ← H3.out]; exact B5.out.alloc _, K5.out.alloc _, .inl (by rw [H1.out])⟩
end
end Go.Proofs.Ytoghkikjgilpdaa.ClQ
