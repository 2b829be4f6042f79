/-
  Walks over the client: Tick, Cancel, Arrive.
-/
import Derived.Test.YtoghkikjgilpdaaClT
namespace Go.Proofs.Ytoghkikjgilpdaa.ClS
open Go.RowKit Go.Proofs.Ytoghkikjgilpdaa.Kit Go.Proofs.Ytoghkikjgilpdaa.ClW Go.Proofs.Ytoghkikjgilpdaa.ClV
attribute [local go_sem high] max_imax min_imin
set_option linter.unusedVariables false

theorem msg_info : (Try.prog.info? 39).map (fun i => (i.zero, i.size, i.bytes)) = some (some (.agg (mc ⟨0, 0, 0, 0, 0, 0, 0, 0, 0, none, 0, 0, 0, none, 0, 0⟩)), 12, 128) := by kernel_rfl
theorem msgs37 : ElemT Try.prog 37 39 12 128 := by
  refine ⟨Try.underlying37, ?_⟩
  have h := msg_info
  cases hi : Try.prog.info? 39 with
  | none => rw [hi] at h; simp at h
  | some i =>
    rw [hi] at h
    simp only [Option.map_some, Option.some.injEq, Prod.mk.injEq] at h
    exact ⟨i, _, rfl, h.1, h.2.1, h.2.2, rfl⟩

/-- Messages as cells. -/
def mcs (ms : List M) : List Value := (ms.map (fun m => (mc m).toList)).flatten
theorem msgs_one (ms : List M) : ∀ u ∈ mcs ms, u.oneCell' = true := by
  intro u hu
  simp only [mcs, List.mem_flatten, List.mem_map] at hu
  obtain ⟨l, ⟨m, _, rfl⟩, hu⟩ := hu
  simp only [mc, List.mem_cons, List.mem_nil_iff, or_false] at hu
  rcases hu with rfl | rfl | rfl | rfl | rfl | rfl | rfl | rfl | rfl | rfl | rfl | rfl <;> rfl

section
variable {B g : Nat} {k : Ck} {pl tl ll : List Int} {w w' : World} {m : M}

def at_ (k : Ck) (t : Int) : Ck := { k with now := nowOf k.now t }
def Told (w : World) (B g : Nat) (k' : Ck) (pl tl : List Int) (P : World → List M → Prop) (e : Ending) (w' : World) : Prop :=
  ∃ a c ms, e = .returned (.slice a ms.length c) ∧ Own w' w.heap.size 39 12 a ms.length c (mcs ms) ∧ P w' ms ∧ Cl w' B g k' pl tl ∧ Chg (fun i => i = g) w w'

theorem tick_no (h : Cl w B g k pl tl) (t : Int) (hn : k.en ≠ 0 ∨ nowOf k.now t < k.next) :
    Calls Try.prog 16 #[.pointer (some ⟨g, 0, none⟩), .int .i64 t] w (Told w B g (at_ k t) pl tl (fun _ ms => ms = [])) := by
  have HC := Lib.hid h
  have he := h.ev0
  clear h
  go_enter Try.func16, Try.ntmps16
  go_wp2_with fail
  refine (ok_any HC.out.blk (by omega)).mono ?_
  rintro e wa ⟨rfl, nd, rfl⟩
  go_wp2_with fail
  refine (ClV.later (HC.out.drewN nd) t).mono ?_
  rintro e wb ⟨rfl, hb2, hc2⟩
  have HB2 := Lib.hid hb2
  have HC2 := Lib.hid (((Chg.refl (fun i => i = g) w).drewN nd).then hc2 (fun i _ h => h))
  obtain ⟨en, H1⟩ : ∃ n, Hid (k.en = n) := ⟨_, rfl⟩
  obtain ⟨nx, H2⟩ : ∃ n, Hid (k.next = n) := ⟨_, rfl⟩
  obtain ⟨nw, H3⟩ : ∃ n, Hid (nowOf k.now t = n) := ⟨_, rfl⟩
  rw [H1.out, H2.out, H3.out] at hn
  have c7 : wb.cell? ⟨g, 7, none⟩ = some (.int .i64 en) := by rw [← H1.out]; exact hb2.blk.cell 7 rfl
  have c10 : wb.cell? ⟨g, 10, none⟩ = some (.int .i64 nw) := by rw [← H3.out]; exact hb2.blk.cell 10 rfl
  have c11 : wb.cell? ⟨g, 11, none⟩ = some (.int .i64 nx) := by rw [← H2.out]; exact hb2.blk.cell 11 rfl
  clear hb2 hc2
  have FIN : Hid (∀ n, Told w B g (at_ k t) pl tl (fun _ ms => ms = []) (.returned (.slice none 0 0)) (wb.drewN n)) := fun n =>
    ⟨none, 0, [], rfl, Own.none_ _ _ _ _, rfl, HB2.out.drewN n, HC2.out.drewN n⟩
  by_cases h0 : en = 0
  · have h1 : nw < nx := hn.resolve_left (fun h => h h0)
    subst h0
    clear hn
    go_upto_region 4 with (fail)
    go_big_quiet (fail)
    go_wp2
    go_ret
    exact FIN.out _
  · have hb : (en != 0) = true := by simpa using h0
    clear hn h0
    go_upto_region 4 with (fail)
    go_big_quiet (fail)
    go_wp2
    go_ret
    exact FIN.out _

def firstIs (w0 w' : World) (k : Ck) (pl : List Int) (m : M) : Prop := (k.heard = true ∧ m = gotM k.tn) ∨ (k.heard = false ∧ ∃ a c, m = askM k a c ∧ Own w' w0.heap.size 3 1 a k.jn c (ints pl))
def ticked (w0 : World) (k : Ck) (pl : List Int) (w' : World) (ms : List M) : Prop := ∃ m, firstIs w0 w' k pl m ∧ ms = m :: (if k.stopped then [stopM] else [])
def tk (k : Ck) (t : Int) : Ck := { k with now := nowOf k.now t, next := nowOf k.now t + k.ev }

set_option maxHeartbeats 2000000 in
theorem tick_yes (h : Cl w B g k pl tl) (t : Int) (h0 : k.en = 0) (h1 : k.next ≤ nowOf k.now t) :
    Calls Try.prog 16 #[.pointer (some ⟨g, 0, none⟩), .int .i64 t] w (Told w B g (tk k t) pl tl (ticked w k pl)) := by
  have HC := Lib.hid h
  have he := h.ev0
  have he1 := h.ev1
  have n0 := nowOf_lo k.now t h.now0
  have n1 := nowOf_hi k.now t h.now1
  clear h
  go_enter Try.func16, Try.ntmps16
  go_wp2_with fail
  refine (ok_any HC.out.blk (by omega)).mono ?_
  rintro e wa ⟨rfl, nd, rfl⟩
  go_wp2_with fail
  refine (ClV.later (HC.out.drewN nd) t).mono ?_
  rintro e wb ⟨rfl, hb2, hc2⟩
  have HB2 := Lib.hid hb2
  have HC2 := Lib.hid (((Chg.refl (fun i => i = g) w).drewN nd).then hc2 (fun i _ h => h))
  obtain ⟨nx, H2⟩ : ∃ n, Hid (k.next = n) := ⟨_, rfl⟩
  obtain ⟨nw, H3⟩ : ∃ n, Hid (nowOf k.now t = n) := ⟨_, rfl⟩
  obtain ⟨ev, H4⟩ : ∃ n, Hid (k.ev = n) := ⟨_, rfl⟩
  obtain ⟨hd, H5⟩ : ∃ n, Hid (k.heard = n) := ⟨_, rfl⟩
  obtain ⟨sd, H6⟩ : ∃ n, Hid (k.stopped = n) := ⟨_, rfl⟩
  have H0 := Lib.hid h0
  rw [H2.out, H3.out] at h1
  rw [H4.out] at he he1
  rw [H3.out] at n0 n1
  have c7 : wb.cell? ⟨g, 7, none⟩ = some (.int .i64 0) := by rw [← H0.out]; exact hb2.blk.cell 7 rfl
  have c10 : wb.cell? ⟨g, 10, none⟩ = some (.int .i64 nw) := by rw [← H3.out]; exact hb2.blk.cell 10 rfl
  have c11 : wb.cell? ⟨g, 11, none⟩ = some (.int .i64 nx) := by rw [← H2.out]; exact hb2.blk.cell 11 rfl
  have c5 : wb.cell? ⟨g, 5, none⟩ = some (.int .i64 ev) := by rw [← H4.out]; exact hb2.blk.cell 5 rfl
  have f11 := hb2.blk.frozen 11
  clear hb2 hc2 h0
  go_upto_region 4 with (fail)
  go_big_quiet (fail)
  go_upto_region 6 with (fail)
  go_region
  have b3 : Cl ((wb.drewN (nq + 1)).setCell ⟨g, 11, none⟩ (.int .i64 (nw + ev))) B g (tk k t) pl tl := by
    have hset := (Chg.refl (fun i => i = g) (wb.drewN (nq + 1))).set (p := ⟨g, 11, none⟩) (.inl rfl) (.int .i64 (nw + ev))
    have hb : Blk _ g 58 ((cc (at_ k t)).setIfInBounds 11 (.int .i64 (nw + ev))) := (HB2.out.blk.drewN (nq + 1)).set 11 (.int .i64 (nw + ev))
    have hv : (cc (at_ k t)).setIfInBounds 11 (.int .i64 (nw + ev)) = cc (tk k t) := by rw [← H3.out, ← H4.out]; rfl
    rw [hv] at hb
    refine (HB2.out.drewN (nq + 1)).turn (k' := tk k t) hset hb rfl rfl rfl rfl rfl rfl rfl ?_ ?_ ?_ ?_
    · show 0 ≤ nowOf k.now t; rw [H3.out]; exact n0
    · show nowOf k.now t ≤ _; rw [H3.out]; exact n1
    · show 0 ≤ nowOf k.now t + k.ev; rw [H3.out, H4.out]; omega
    · show nowOf k.now t + k.ev ≤ _; rw [H3.out, H4.out]; omega
  have k3 := (HC2.out.drewN (nq + 1)).set (p := ⟨g, 11, none⟩) (.inl rfl) (.int .i64 (nw + ev))
  obtain ⟨wc, HW⟩ : ∃ wc, Hid ((wb.drewN (nq + 1)).setCell ⟨g, 11, none⟩ (.int .i64 (nw + ev)) = wc) := ⟨_, rfl⟩
  rw [HW.out] at b3 k3 ⊢
  clear HW c7 c10 c11 c5 f11
  have B3 := Lib.hid b3
  have K3 := Lib.hid k3
  have c8 : wc.cell? ⟨g, 8, none⟩ = some (.bool hd) := by rw [← H5.out]; exact b3.blk.cell 8 rfl
  have c9 : wc.cell? ⟨g, 9, none⟩ = some (.bool sd) := by rw [← H6.out]; exact b3.blk.cell 9 rfl
  clear b3 k3
  cases hd with
  | true =>
    go_upto_region 10 with (fail)
    go_wp2_with fail
    obtain ⟨tn, H7⟩ : ∃ n, Hid (k.tn = n) := ⟨_, rfl⟩
    refine (got_any B3.out.blk B3.out.few).mono ?_
    rintro e w4 ⟨rfl, hb4⟩
    rw [show (tk k t).tn = tn from H7.out]
    have B4 := Lib.hid (B3.out.below hb4)
    have K4 := Lib.hid (K3.out.then (Chg.of_below hb4 (fun i => i = g)) (fun i _ h => h))
    clear hb4 c8 c9
    unfold mc gotM
    simp only
    have HM := Lib.hid (Blk.new w4 (mc (gotM tn)) 39)
    have HB5 := Lib.hid (B4.out.alloc (.cells (mc (gotM tn)) 39))
    have HK5 := Lib.hid (K4.out.alloc (.cells (mc (gotM tn)) 39))
    have hs := K4.out.size
    have HF : Hid (firstIs w (w4.alloc (.cells (mc (gotM tn)) 39)) k pl (gotM tn)) := .inl ⟨H5.out, by rw [H7.out]⟩
    have HO5 : Hid (Own (w4.alloc (.cells (mc (gotM tn)) 39)) w.heap.size 39 12 (some ⟨w4.heap.size, 0, none⟩) 1 1 (mcs [(gotM tn)])) := by
      have := Own.made (size := 12) (B := w.heap.size) w4 (mc (gotM tn)) 39 1 hs (by unfold maxLen; omega) rfl
      exact Lib.hid (by simpa [mcs] using this)
    obtain ⟨w5, HW5⟩ : ∃ w5, Hid (w4.alloc (.cells (mc (gotM tn)) 39) = w5) := ⟨_, rfl⟩
    have HW6 := HW5.out
    unfold mc gotM at HW6
    simp only at HW6
    obtain ⟨gm, HGM⟩ : ∃ gm, Hid (w4.heap.size = gm) := ⟨_, rfl⟩
    rw [HW5.out] at HM HB5 HK5 HF HO5
    go_upto_region 11 with (fail)
    rw [HGM.out]
    rw [HGM.out] at HM HO5 hs
    clear HW5 HW6
    have c9 : w5.cell? ⟨g, 9, none⟩ = some (.bool sd) := by rw [← H6.out]; exact HB5.out.blk.cell 9 rfl
    cases sd with
    | false =>
      go_wp2
      go_ret
      exact ⟨some ⟨gm, 0, none⟩, 1, [(gotM tn)], rfl, HO5.out, ⟨_, HF.out, by rw [H6.out]; rfl⟩, HB5.out, HK5.out⟩
    | true =>
      go_wp2_with fail
      refine (stop_any HB5.out.blk).mono ?_
      rintro e w6 ⟨rfl, hb6⟩
      have hs6 := HK5.out.size
      have HO6 := Lib.hid (HO5.out.chg (Chg.of_below hb6 (fun _ => False)) (fun _ _ => id))
      have HB6 := Lib.hid (HB5.out.below hb6)
      have HK6 := Lib.hid (HK5.out.then (Chg.of_below hb6 (fun i => i = g)) (fun i _ h => h))
      have HF6 : Hid (firstIs w w6 k pl (gotM tn)) := HF.out.imp id (fun ⟨h, a, c, h1, h2⟩ => ⟨h, a, c, h1, h2.chg (Chg.of_below hb6 (fun _ => False)) (fun _ _ => id)⟩)
      have hs7 := HK6.out.size
      have HM6 := Lib.hid (show Blk w6 gm 39 _ from (hb6.block _ HM.out.lt).trans HM.out)
      clear hb6 c9
      unfold mc stopM
      simp only
      have HM7 := Lib.hid (HM6.out.alloc (.cells (mc stopM) 39))
      have HB7 := Lib.hid (HB6.out.alloc (.cells (mc stopM) 39))
      have HO7 := Lib.hid (HO6.out.chg ((Chg.refl (fun _ => False) w6).alloc (.cells (mc stopM) 39)) (fun _ _ => id))
      have HS7 : Hid (Rd (w6.alloc (.cells (mc stopM) 39)) 12 (some ⟨w6.heap.size, 0, none⟩) 1 1 (mcs [stopM])) := by
        have := (Own.made (size := 12) (B := w6.heap.size) w6 (mc stopM) 39 1 (Nat.le_refl _) (by unfold maxLen; omega) rfl).rd
        exact Lib.hid (by simpa [mcs] using this)
      have HK7 := Lib.hid (HK6.out.alloc (.cells (mc stopM) 39))
      have HF7 : Hid (firstIs w (w6.alloc (.cells (mc stopM) 39)) k pl (gotM tn)) := HF6.out.imp id (fun ⟨h, a, c, h1, h2⟩ => ⟨h, a, c, h1, h2.chg ((Chg.refl (fun _ => False) w6).alloc _) (fun _ _ => id)⟩)
      have H1S : Hid (∀ u ∈ mcs [stopM], u.oneCell' = true) := Lib.hid (msgs_one _)
      have HBS : Hid (w.heap.size ≤ (w6.alloc (.cells (mc stopM) 39)).heap.size) := HK7.out.size
      go_wp2_with (at_builtin; refine wpList_app msgs37 (by omega) rfl (.tmp 56) (.tmp 59) (by rfl) (B := w.heap.size) (by rfl) HO7.out (by rfl) HS7.out H1S.out (by omega) (by omega) HBS.out ?_; intro a8 c8 w8 ho8 hg8 ha8)
      go_ret
      have hc8 := Chg.of_grown' hg8
      have hge : w.heap.size ≤ gm := hs
      have hne : ∀ x, ob (some (⟨gm, 0, none⟩ : Addr)) = some x → x = gm := fun x e => by simpa [ob, eq_comm] using e
      refine ⟨a8, c8, [(gotM tn), stopM], rfl, ?_, ⟨_, HF7.out.imp id (fun ⟨h, a, c, h1, h2⟩ => ⟨h, a, c, h1, h2.chg hc8 (fun x hx e => h2.ne HM7.out (by decide) (by rw [hx, hne x e]))⟩), by rw [H6.out]; rfl⟩,
        HB7.out.chg hc8 (fun e => by have := hne g e; have := HC.out.blk.lt; omega) (fun x hx e => HB7.out.toks.ne HM7.out (by decide) (by rw [hx, hne x e])) (fun x hx e => HB7.out.job.ne HM7.out (by decide) (by rw [hx, hne x e])), HK7.out.then hc8 (fun i hi e => by have := hne i e; omega)⟩
      have e : mcs [(gotM tn), stopM] = mcs [(gotM tn)] ++ mcs [stopM] := by simp [mcs]
      rw [e]
      exact ho8
  | false =>
    go_wp2_with fail
    refine (ClU.ask B3.out).mono ?_
    rintro e w4 ⟨pa, pc, rfl, hp4, hb4⟩
    have B4 := Lib.hid (B3.out.below hb4)
    have K4 := Lib.hid (K3.out.then (Chg.of_below hb4 (fun i => i = g)) (fun i _ h => h))
    have hs3 := K3.out.size
    have P4 := Lib.hid (hp4.lower hs3)
    obtain ⟨M, HM0⟩ : ∃ M, Hid (askM (tk k t) pa pc = M) := ⟨_, rfl⟩
    rw [HM0.out]
    clear hb4 hp4 c8 c9
    obtain ⟨m1, m2, m3, m4, m5, m6, m7, m8, m9, m10, m11, m12, m13, m14, m15, m16⟩ := M
    unfold mc
    simp only
    have HM := Lib.hid (Blk.new w4 (mc (⟨m1, m2, m3, m4, m5, m6, m7, m8, m9, m10, m11, m12, m13, m14, m15, m16⟩ : M)) 39)
    have HB5 := Lib.hid (B4.out.alloc (.cells (mc (⟨m1, m2, m3, m4, m5, m6, m7, m8, m9, m10, m11, m12, m13, m14, m15, m16⟩ : M)) 39))
    have HK5 := Lib.hid (K4.out.alloc (.cells (mc (⟨m1, m2, m3, m4, m5, m6, m7, m8, m9, m10, m11, m12, m13, m14, m15, m16⟩ : M)) 39))
    have hs := K4.out.size
    have HF : Hid (firstIs w (w4.alloc (.cells (mc (⟨m1, m2, m3, m4, m5, m6, m7, m8, m9, m10, m11, m12, m13, m14, m15, m16⟩ : M)) 39)) k pl (⟨m1, m2, m3, m4, m5, m6, m7, m8, m9, m10, m11, m12, m13, m14, m15, m16⟩ : M)) := .inr ⟨H5.out, pa, pc, by rw [← HM0.out]; rfl, P4.out.chg ((Chg.refl (fun _ => False) w4).alloc _) (fun _ _ => id)⟩
    have HO5 : Hid (Own (w4.alloc (.cells (mc (⟨m1, m2, m3, m4, m5, m6, m7, m8, m9, m10, m11, m12, m13, m14, m15, m16⟩ : M)) 39)) w.heap.size 39 12 (some ⟨w4.heap.size, 0, none⟩) 1 1 (mcs [(⟨m1, m2, m3, m4, m5, m6, m7, m8, m9, m10, m11, m12, m13, m14, m15, m16⟩ : M)])) := by
      have := Own.made (size := 12) (B := w.heap.size) w4 (mc (⟨m1, m2, m3, m4, m5, m6, m7, m8, m9, m10, m11, m12, m13, m14, m15, m16⟩ : M)) 39 1 hs (by unfold maxLen; omega) rfl
      exact Lib.hid (by simpa [mcs] using this)
    obtain ⟨w5, HW5⟩ : ∃ w5, Hid (w4.alloc (.cells (mc (⟨m1, m2, m3, m4, m5, m6, m7, m8, m9, m10, m11, m12, m13, m14, m15, m16⟩ : M)) 39) = w5) := ⟨_, rfl⟩
    have HW6 := HW5.out
    unfold mc at HW6
    simp only at HW6
    obtain ⟨gm, HGM⟩ : ∃ gm, Hid (w4.heap.size = gm) := ⟨_, rfl⟩
    rw [HW5.out] at HM HB5 HK5 HF HO5
    go_upto_region 11 with (fail)
    rw [HGM.out]
    rw [HGM.out] at HM HO5 hs
    clear HW5 HW6
    have c9 : w5.cell? ⟨g, 9, none⟩ = some (.bool sd) := by rw [← H6.out]; exact HB5.out.blk.cell 9 rfl
    cases sd with
    | false =>
      go_wp2
      go_ret
      exact ⟨some ⟨gm, 0, none⟩, 1, [(⟨m1, m2, m3, m4, m5, m6, m7, m8, m9, m10, m11, m12, m13, m14, m15, m16⟩ : M)], rfl, HO5.out, ⟨_, HF.out, by rw [H6.out]; rfl⟩, HB5.out, HK5.out⟩
    | true =>
      go_wp2_with fail
      refine (stop_any HB5.out.blk).mono ?_
      rintro e w6 ⟨rfl, hb6⟩
      have hs6 := HK5.out.size
      have HO6 := Lib.hid (HO5.out.chg (Chg.of_below hb6 (fun _ => False)) (fun _ _ => id))
      have HB6 := Lib.hid (HB5.out.below hb6)
      have HK6 := Lib.hid (HK5.out.then (Chg.of_below hb6 (fun i => i = g)) (fun i _ h => h))
      have HF6 : Hid (firstIs w w6 k pl (⟨m1, m2, m3, m4, m5, m6, m7, m8, m9, m10, m11, m12, m13, m14, m15, m16⟩ : M)) := HF.out.imp id (fun ⟨h, a, c, h1, h2⟩ => ⟨h, a, c, h1, h2.chg (Chg.of_below hb6 (fun _ => False)) (fun _ _ => id)⟩)
      have hs7 := HK6.out.size
      have HM6 := Lib.hid (show Blk w6 gm 39 _ from (hb6.block _ HM.out.lt).trans HM.out)
      clear hb6 c9
      unfold mc stopM
      simp only
      have HM7 := Lib.hid (HM6.out.alloc (.cells (mc stopM) 39))
      have HB7 := Lib.hid (HB6.out.alloc (.cells (mc stopM) 39))
      have HO7 := Lib.hid (HO6.out.chg ((Chg.refl (fun _ => False) w6).alloc (.cells (mc stopM) 39)) (fun _ _ => id))
      have HS7 : Hid (Rd (w6.alloc (.cells (mc stopM) 39)) 12 (some ⟨w6.heap.size, 0, none⟩) 1 1 (mcs [stopM])) := by
        have := (Own.made (size := 12) (B := w6.heap.size) w6 (mc stopM) 39 1 (Nat.le_refl _) (by unfold maxLen; omega) rfl).rd
        exact Lib.hid (by simpa [mcs] using this)
      have HK7 := Lib.hid (HK6.out.alloc (.cells (mc stopM) 39))
      have HF7 : Hid (firstIs w (w6.alloc (.cells (mc stopM) 39)) k pl (⟨m1, m2, m3, m4, m5, m6, m7, m8, m9, m10, m11, m12, m13, m14, m15, m16⟩ : M)) := HF6.out.imp id (fun ⟨h, a, c, h1, h2⟩ => ⟨h, a, c, h1, h2.chg ((Chg.refl (fun _ => False) w6).alloc _) (fun _ _ => id)⟩)
      have H1S : Hid (∀ u ∈ mcs [stopM], u.oneCell' = true) := Lib.hid (msgs_one _)
      have HBS : Hid (w.heap.size ≤ (w6.alloc (.cells (mc stopM) 39)).heap.size) := HK7.out.size
      go_wp2_with (at_builtin; refine wpList_app msgs37 (by omega) rfl (.tmp 56) (.tmp 59) (by rfl) (B := w.heap.size) (by rfl) HO7.out (by rfl) HS7.out H1S.out (by omega) (by omega) HBS.out ?_; intro a8 c8 w8 ho8 hg8 ha8)
      go_ret
      have hc8 := Chg.of_grown' hg8
      have hge : w.heap.size ≤ gm := hs
      have hne : ∀ x, ob (some (⟨gm, 0, none⟩ : Addr)) = some x → x = gm := fun x e => by simpa [ob, eq_comm] using e
      refine ⟨a8, c8, [(⟨m1, m2, m3, m4, m5, m6, m7, m8, m9, m10, m11, m12, m13, m14, m15, m16⟩ : M), stopM], rfl, ?_, ⟨_, HF7.out.imp id (fun ⟨h, a, c, h1, h2⟩ => ⟨h, a, c, h1, h2.chg hc8 (fun x hx e => h2.ne HM7.out (by decide) (by rw [hx, hne x e]))⟩), by rw [H6.out]; rfl⟩,
        HB7.out.chg hc8 (fun e => by have := hne g e; have := HC.out.blk.lt; omega) (fun x hx e => HB7.out.toks.ne HM7.out (by decide) (by rw [hx, hne x e])) (fun x hx e => HB7.out.job.ne HM7.out (by decide) (by rw [hx, hne x e])), HK7.out.then hc8 (fun i hi e => by have := hne i e; omega)⟩
      have e : mcs [(⟨m1, m2, m3, m4, m5, m6, m7, m8, m9, m10, m11, m12, m13, m14, m15, m16⟩ : M), stopM] = mcs [(⟨m1, m2, m3, m4, m5, m6, m7, m8, m9, m10, m11, m12, m13, m14, m15, m16⟩ : M)] ++ mcs [stopM] := by simp [mcs]
      rw [e]
      exact ho8
end
end Go.Proofs.Ytoghkikjgilpdaa.ClS
