/-
  Walks over the document's own client: later, got, stop, Cancel, Tick.
-/
import Derived.Test.YtoghkikjgilpdaaClB
namespace Go.Proofs.Ytoghkikjgilpdaa.ClX
open Go.RowKit Go.Proofs.Ytoghkikjgilpdaa.Kit Go.Proofs.Ytoghkikjgilpdaa.ClW Go.Proofs.Ytoghkikjgilpdaa.ClV Go.Proofs.Ytoghkikjgilpdaa.ClS
attribute [local go_sem high] max_imax min_imin
set_option linter.unusedVariables false

/-- The document's client in memory: its job's prompt is the caller's. -/
structure Cr (w : World) (B g : Nat) (k : Ck) (pl tl : List Int) : Prop where
  blk : Blk w g 50 (cc k)
  toks : Own w B 3 1 k.ta k.tn k.tc (ints tl)
  job : Rd w 1 k.ja k.jn k.jc (ints pl)
  far : 0 < k.jn → ∀ x, ob k.ja = some x → x < B
  base : B ≤ g
  ev0 : 1 ≤ k.ev
  ev1 : k.ev ≤ 4294967296
  now0 : 0 ≤ k.now
  now1 : k.now ≤ 1099511627776
  next0 : 0 ≤ k.next
  next1 : k.next ≤ 1103806595072
  few : k.tn ≤ 1099511627776

section
variable {B g : Nat} {k : Ck} {pl tl : List Int} {w w' : World}
theorem Cr.ne1 (h : Cr w B g k pl tl) : ob k.ta ≠ some g := h.toks.ne h.blk (by decide)
theorem Cr.chg {S : Nat → Prop} (h : Cr w B g k pl tl) (hc : Chg S w w') (h1 : ¬ S g) (h2 : ∀ x, ob k.ta = some x → ¬ S x) (h3 : ∀ x, x < B → ¬ S x) : Cr w' B g k pl tl :=
  ⟨hc.blk h.blk h1, h.toks.chg hc h2, h.job.chg hc (fun h0 x hx => h3 x (h.far h0 x hx)), h.far, h.base, h.ev0, h.ev1, h.now0, h.now1, h.next0, h.next1, h.few⟩
theorem Cr.below (h : Cr w B g k pl tl) (hb : Below w.heap.size w w') : Cr w' B g k pl tl := h.chg (Chg.of_below hb (fun _ => False)) id (fun _ _ => id) (fun _ _ => id)
theorem Cr.drewN (h : Cr w B g k pl tl) (n : Nat) : Cr (w.drewN n) B g k pl tl := h.chg ((Chg.refl (fun _ => False) w).drewN n) id (fun _ _ => id) (fun _ _ => id)
theorem Cr.alloc (h : Cr w B g k pl tl) (o : Obj) : Cr (w.alloc o) B g k pl tl := h.chg ((Chg.refl (fun _ => False) w).alloc o) id (fun _ _ => id) (fun _ _ => id)
theorem Cr.turn (h : Cr w B g k pl tl) {k' : Ck} (hc : Chg (fun i => i = g) w w') (hb : Blk w' g 50 (cc k')) (e1 : k'.ta = k.ta) (e2 : k'.tn = k.tn) (e3 : k'.tc = k.tc) (e4 : k'.ja = k.ja) (e5 : k'.jn = k.jn) (e6 : k'.jc = k.jc) (e7 : k'.ev = k.ev)
    (n0 : 0 ≤ k'.now) (n1 : k'.now ≤ 1099511627776) (x0 : 0 ≤ k'.next) (x1 : k'.next ≤ 1103806595072) : Cr w' B g k' pl tl :=
  ⟨hb, by rw [e1, e2, e3]; exact h.toks.chg hc (fun x hx e => h.ne1 (by rw [hx, e])), by rw [e4, e5, e6]; exact h.job.chg hc (fun h0 x hx e => by have := h.far h0 x hx; have := h.base; omega), by rw [e4, e5]; exact h.far, h.base, by rw [e7]; exact h.ev0, by rw [e7]; exact h.ev1, n0, n1, x0, x1, by rw [e2]; exact h.few⟩

theorem rlater (h : Cr w B g k pl tl) (t : Int) : Calls Try.prog 34 #[.pointer (some ⟨g, 0, none⟩), .int .i64 t] w fun e w' =>
    e = .returned (.tuple #[]) ∧ Cr w' B g { k with now := nowOf k.now t } pl tl ∧ Chg (fun i => i = g) w w' := by
  have HC := Lib.hid h
  obtain ⟨n, HN⟩ : ∃ n, Hid (k.now = n) := ⟨_, rfl⟩
  have c10 : w.cell? ⟨g, 10, none⟩ = some (.int .i64 n) := by rw [← HN.out]; exact h.blk.cell 10 rfl
  have f10 := h.blk.frozen 10
  clear h
  have FIN : Hid (∀ w', Chg (fun i => i = g) w w' → Blk w' g 50 (cc { k with now := nowOf k.now t }) → Cr w' B g { k with now := nowOf k.now t } pl tl) := Lib.hid (fun w' hc hb =>
    HC.out.turn (k' := { k with now := nowOf k.now t }) hc hb rfl rfl rfl rfl rfl rfl rfl (nowOf_lo _ _ HC.out.now0) (nowOf_hi _ _ HC.out.now1) HC.out.next0 HC.out.next1)
  rw [HN.out] at FIN ⊢
  by_cases h1 : n < t
  · by_cases h2 : t ≤ 1099511627776
    · have HT := Lib.hid (show nowOf n t = t from by unfold nowOf imax; rw [if_pos h2, if_pos h1])
      go_enter Try.func34, Try.ntmps34
      go_wp2
      have hs := (Chg.refl (fun i => i = g) w).set (p := ⟨g, 10, none⟩) (.inl rfl) (.int .i64 t)
      exact bodyPost_end (v := .tuple #[]) (by simp [results, Try.results34, go_sem]) rfl ⟨rfl, FIN.out _ hs (by rw [HT.out]; exact HC.out.blk.set 10 _), hs⟩
    · have HT := Lib.hid (show nowOf n t = n from by unfold nowOf; rw [if_neg h2])
      go_enter Try.func34, Try.ntmps34
      go_wp2
      have hs := Chg.refl (fun i => i = g) w
      exact bodyPost_end (v := .tuple #[]) (by simp [results, Try.results34, go_sem]) rfl ⟨rfl, FIN.out _ hs (by rw [HT.out, ← HN.out]; exact HC.out.blk), hs⟩
  · have HT := Lib.hid (show nowOf n t = n from by unfold nowOf imax; split <;> (try split) <;> omega)
    go_enter Try.func34, Try.ntmps34
    go_wp2
    have hs := Chg.refl (fun i => i = g) w
    exact bodyPost_end (v := .tuple #[]) (by simp [results, Try.results34, go_sem]) rfl ⟨rfl, FIN.out _ hs (by rw [HT.out, ← HN.out]; exact HC.out.blk), hs⟩

theorem rgot_any (hb : Blk w g 50 (cc k)) (hn : k.tn ≤ 1099511627776) : Calls Try.prog 35 #[.pointer (some ⟨g, 0, none⟩)] w fun e w' =>
    e = .returned (.agg (mc (gotM k.tn))) ∧ Below w.heap.size w w' := by
  have c0 : w.cell? ⟨g, 0, none⟩ = some (.int .u64 3) := hb.cell 0 rfl
  have c6 : w.cell? ⟨g, 6, none⟩ = some (.slice k.ta k.tn k.tc) := hb.cell 6 rfl
  have hlt := hb.lt
  clear hb
  obtain ⟨ja, jn, jc, h1⟩ : ∃ a n c, k.ta = a ∧ k.tn = n ∧ k.tc = c := ⟨_, _, _, rfl, rfl, rfl⟩
  obtain ⟨e1, e2, e3⟩ := h1
  rw [e1, e2, e3] at c6
  rw [e2] at hn ⊢
  clear e1 e2 e3
  go_enter Try.func35, Try.ntmps35
  go_upto_region 1 with (fail)
  go_region
  go_wp2
  exact bodyPost_ret (v := .agg (mc (gotM jn))) (by simp [mc, gotM, results, Try.results35, go_sem]) rfl ⟨rfl, below_drew ((Below.refl _ w).alloc (Nat.le_refl _) _)⟩

theorem rstop_any (hb : Blk w g 50 (cc k)) : Calls Try.prog 36 #[.pointer (some ⟨g, 0, none⟩)] w fun e w' =>
    e = .returned (.agg (mc stopM)) ∧ Below w.heap.size w w' := by
  have c0 : w.cell? ⟨g, 0, none⟩ = some (.int .u64 3) := hb.cell 0 rfl
  have hlt := hb.lt
  clear hb
  go_enter Try.func36, Try.ntmps36
  go_wp2
  exact bodyPost_ret (v := .agg (mc stopM)) (by simp [mc, stopM, results, Try.results36, go_sem]) rfl ⟨rfl, (Below.refl _ w).alloc (Nat.le_refl _) _⟩

def RTold (w : World) (B g : Nat) (k' : Ck) (pl tl : List Int) (P : World → List M → Prop) (e : Ending) (w' : World) : Prop :=
  ∃ a c ms, e = .returned (.slice a ms.length c) ∧ Own w' w.heap.size 34 12 a ms.length c (mcs ms) ∧ P w' ms ∧ Cr w' B g k' pl tl ∧ Chg (fun i => i = g) w w'
/-- One message, made anew, is told. -/
theorem rtold_one (k' : Ck) (wb w4 : World) (m : M) (hc : Chg (fun i => i = g) w w4) (h4 : Cr w4 B g k' pl tl) (P : World → List M → Prop) (hp : P (w4.alloc (.cells (mc m) 34)) [m]) :
    RTold w B g k' pl tl P (.returned (.slice (some ⟨w4.heap.size, 0, none⟩) 1 1)) (w4.alloc (.cells (mc m) 34)) := by
  refine ⟨some ⟨w4.heap.size, 0, none⟩, 1, [m], rfl, ?_, hp, h4.alloc _, hc.alloc _⟩
  have := Own.made (size := 12) (B := w.heap.size) w4 (mc m) 34 1 hc.size (by unfold maxLen; omega) rfl
  simpa [mcs] using this

theorem rcancel_no (h : Cr w B g k pl tl) (t : Int) (hn : k.en ≠ 0 ∨ k.stopped = true) :
    Calls Try.prog 20 #[.pointer (some ⟨g, 0, none⟩), .int .i64 t] w (RTold w B g (at_ k t) pl tl (fun _ ms => ms = [])) := by
  have HC := Lib.hid h
  have he := h.ev0
  clear h
  go_enter Try.func20, Try.ntmps20
  go_wp2_with fail
  refine (rlater HC.out t).mono ?_
  rintro e wb ⟨rfl, hb2, hc2⟩
  have HB2 := Lib.hid hb2
  have HC2 := Lib.hid hc2
  obtain ⟨en, H1⟩ : ∃ n, Hid (k.en = n) := ⟨_, rfl⟩
  obtain ⟨sd, H2⟩ : ∃ n, Hid (k.stopped = n) := ⟨_, rfl⟩
  rw [H1.out, H2.out] at hn
  have c7 : wb.cell? ⟨g, 7, none⟩ = some (.int .i64 en) := by rw [← H1.out]; exact hb2.blk.cell 7 rfl
  have c9 : wb.cell? ⟨g, 9, none⟩ = some (.bool sd) := by rw [← H2.out]; exact hb2.blk.cell 9 rfl
  clear hb2 hc2
  have FIN : Hid (RTold w B g (at_ k t) pl tl (fun _ ms => ms = []) (.returned (.slice none 0 0)) wb) := 
    ⟨none, 0, [], rfl, Own.none_ _ _ _ _, rfl, HB2.out, HC2.out⟩
  by_cases h0 : en = 0
  · have h1 : sd = true := hn.resolve_left (fun h => h h0)
    subst h0 h1
    clear hn
    go_wp2
    go_ret
    exact FIN.out
  · have hb : (en != 0) = true := by simpa using h0
    clear hn h0
    go_wp2
    go_ret
    exact FIN.out

theorem rcancel_yes (h : Cr w B g k pl tl) (t : Int) (h0 : k.en = 0) (h1 : k.stopped = false) :
    Calls Try.prog 20 #[.pointer (some ⟨g, 0, none⟩), .int .i64 t] w (RTold w B g (ClR.cn k t) pl tl (fun _ ms => ms = [stopM])) := by
  have HC := Lib.hid h
  have he := h.ev0
  clear h
  go_enter Try.func20, Try.ntmps20
  go_wp2_with fail
  refine (rlater HC.out t).mono ?_
  rintro e wb ⟨rfl, hb2, hc2⟩
  have HB2 := Lib.hid hb2
  have HC2 := Lib.hid hc2
  have H0 := Lib.hid h0
  have H1 := Lib.hid h1
  have c7 : wb.cell? ⟨g, 7, none⟩ = some (.int .i64 0) := by rw [← H0.out]; exact hb2.blk.cell 7 rfl
  have c9 : wb.cell? ⟨g, 9, none⟩ = some (.bool false) := by rw [← H1.out]; exact hb2.blk.cell 9 rfl
  have f9 := hb2.blk.frozen 9
  clear hb2 hc2 h0 h1
  go_upto_region 7 with (fail)
  have b3 : Cr (wb.setCell ⟨g, 9, none⟩ (.bool true)) B g (ClR.cn k t) pl tl := by
    have hset := (Chg.refl (fun i => i = g) wb).set (p := ⟨g, 9, none⟩) (.inl rfl) (.bool true)
    exact HB2.out.turn (k' := ClR.cn k t) hset (HB2.out.blk.set 9 _) rfl rfl rfl rfl rfl rfl rfl HB2.out.now0 HB2.out.now1 HB2.out.next0 HB2.out.next1
  have k3 := HC2.out.set (p := ⟨g, 9, none⟩) (.inl rfl) (.bool true)
  obtain ⟨wc, HW⟩ : ∃ wc, Hid (wb.setCell ⟨g, 9, none⟩ (.bool true) = wc) := ⟨_, rfl⟩
  rw [HW.out] at b3 k3 ⊢
  clear HW c7 c9 f9
  have B3 := Lib.hid b3
  have K3 := Lib.hid k3
  clear b3 k3
  go_wp2_with fail
  refine (rstop_any B3.out.blk).mono ?_
  rintro e w4 ⟨rfl, hb4⟩
  have B4 := Lib.hid (B3.out.below hb4)
  have K4 := Lib.hid (K3.out.then (Chg.of_below hb4 (fun i => i = g)) (fun i _ h => h))
  clear hb4
  unfold mc stopM
  simp only
  go_wp2
  go_ret
  exact rtold_one (ClR.cn k t) wb w4 stopM K4.out B4.out _ rfl


/-- A message stored cell by cell. -/
def stored (w : World) (gm : Nat) (m : M) : World := ((((((((((((w.setCell ⟨gm, 0, none⟩ (.int .i64 m.kind)).setCell ⟨gm, 1, none⟩ (.int .u64 m.stream)).setCell ⟨gm, 2, none⟩ (.int .u64 m.session)).setCell ⟨gm, 3, none⟩ (.int .u64 m.attempt)).setCell ⟨gm, 4, none⟩ (.int .u64 m.inc)).setCell ⟨gm, 5, none⟩ (.int .u64 m.n)).setCell ⟨gm, 6, none⟩ (.int .u64 m.count)).setCell ⟨gm, 7, none⟩ (.int .i64 m.why)).setCell ⟨gm, 8, none⟩ (.int .u64 m.js)).setCell ⟨gm, 9, none⟩ (.slice m.ja m.jn m.jc)).setCell ⟨gm, 10, none⟩ (.int .i64 m.jm)).setCell ⟨gm, 11, none⟩ (.slice m.la m.ln m.lc))
theorem stored_arr (m0 m : M) : (((((((((((((mc m0).setIfInBounds 0 (.int .i64 m.kind)).setIfInBounds 1 (.int .u64 m.stream)).setIfInBounds 2 (.int .u64 m.session)).setIfInBounds 3 (.int .u64 m.attempt)).setIfInBounds 4 (.int .u64 m.inc)).setIfInBounds 5 (.int .u64 m.n)).setIfInBounds 6 (.int .u64 m.count)).setIfInBounds 7 (.int .i64 m.why)).setIfInBounds 8 (.int .u64 m.js)).setIfInBounds 9 (.slice m.ja m.jn m.jc)).setIfInBounds 10 (.int .i64 m.jm)).setIfInBounds 11 (.slice m.la m.ln m.lc)) = mc m := by
  simp [mc]
theorem stored_blk {w : World} {gm : Nat} {t : TypeId} {m0 : M} (h : Blk w gm t (mc m0)) (m : M) : Blk (stored w gm m) gm t (mc m) := by
  have h1 := ((((((((((((h.set 0 (.int .i64 m.kind)).set 1 (.int .u64 m.stream)).set 2 (.int .u64 m.session)).set 3 (.int .u64 m.attempt)).set 4 (.int .u64 m.inc)).set 5 (.int .u64 m.n)).set 6 (.int .u64 m.count)).set 7 (.int .i64 m.why)).set 8 (.int .u64 m.js)).set 9 (.slice m.ja m.jn m.jc)).set 10 (.int .i64 m.jm)).set 11 (.slice m.la m.ln m.lc))
  rw [stored_arr] at h1
  exact h1
theorem stored_chg (w : World) (gm : Nat) (m : M) : Chg (fun i => i = gm) w (stored w gm m) := (((((((((((((Chg.refl (fun i => i = gm) w).set (p := ⟨gm, 0, none⟩) (.inl rfl) (.int .i64 m.kind)).set (p := ⟨gm, 1, none⟩) (.inl rfl) (.int .u64 m.stream)).set (p := ⟨gm, 2, none⟩) (.inl rfl) (.int .u64 m.session)).set (p := ⟨gm, 3, none⟩) (.inl rfl) (.int .u64 m.attempt)).set (p := ⟨gm, 4, none⟩) (.inl rfl) (.int .u64 m.inc)).set (p := ⟨gm, 5, none⟩) (.inl rfl) (.int .u64 m.n)).set (p := ⟨gm, 6, none⟩) (.inl rfl) (.int .u64 m.count)).set (p := ⟨gm, 7, none⟩) (.inl rfl) (.int .i64 m.why)).set (p := ⟨gm, 8, none⟩) (.inl rfl) (.int .u64 m.js)).set (p := ⟨gm, 9, none⟩) (.inl rfl) (.slice m.ja m.jn m.jc)).set (p := ⟨gm, 10, none⟩) (.inl rfl) (.int .i64 m.jm)).set (p := ⟨gm, 11, none⟩) (.inl rfl) (.slice m.la m.ln m.lc))

theorem msg_info52 : (Try.prog.info? 34).map (fun i => (i.zero, i.size, i.bytes)) = some (some (.agg (mc ⟨0, 0, 0, 0, 0, 0, 0, 0, 0, none, 0, 0, 0, none, 0, 0⟩)), 12, 128) := by kernel_rfl
theorem msgs52 : ElemT Try.prog 52 34 12 128 := by
  refine ⟨Try.underlying52, ?_⟩
  have h := msg_info52
  cases hi : Try.prog.info? 34 with
  | none => rw [hi] at h; simp at h
  | some i =>
    rw [hi] at h
    simp only [Option.map_some, Option.some.injEq, Prod.mk.injEq] at h
    exact ⟨i, _, rfl, h.1, h.2.1, h.2.2, rfl⟩

def rfirst (k : Ck) (m : M) : Prop := (k.heard = true ∧ m = gotM k.tn) ∨ (k.heard = false ∧ m = askM k k.ja k.jc)
def rticked (k : Ck) (w' : World) (ms : List M) : Prop := ∃ m, rfirst k m ∧ ms = m :: (if k.stopped then [stopM] else [])
theorem own_of_blk {w : World} {B gm : Nat} {e : TypeId} {cs : Array Value} {size n : Nat} (h : Blk w gm e cs) (hB : B ≤ gm) (hn : n ≤ maxLen) (hs : cs.size = n * size) : Own w B e size (some ⟨gm, 0, none⟩) n n cs.toList :=
  ⟨by simpa using hs, .inr ⟨gm, n, cs, rfl, hB, h, Nat.le_refl _, hn, hs, by rw [List.take_of_length_le (by simp [hs])]⟩⟩
theorem rtick_no (h : Cr w B g k pl tl) (t : Int) (hn : k.en ≠ 0 ∨ nowOf k.now t < k.next) :
    Calls Try.prog 18 #[.pointer (some ⟨g, 0, none⟩), .int .i64 t] w (RTold w B g (at_ k t) pl tl (fun _ ms => ms = [])) := by
  have HC := Lib.hid h
  have he := h.ev0
  clear h
  go_enter Try.func18, Try.ntmps18
  go_wp2_with fail
  refine (rlater HC.out t).mono ?_
  rintro e wb ⟨rfl, hb2, hc2⟩
  have HB2 := Lib.hid hb2
  have HC2 := Lib.hid hc2
  obtain ⟨en, H1⟩ : ∃ n, Hid (k.en = n) := ⟨_, rfl⟩
  obtain ⟨nx, H2⟩ : ∃ n, Hid (k.next = n) := ⟨_, rfl⟩
  obtain ⟨nw, H3⟩ : ∃ n, Hid (nowOf k.now t = n) := ⟨_, rfl⟩
  rw [H1.out, H2.out, H3.out] at hn
  have c7 : wb.cell? ⟨g, 7, none⟩ = some (.int .i64 en) := by rw [← H1.out]; exact hb2.blk.cell 7 rfl
  have c10 : wb.cell? ⟨g, 10, none⟩ = some (.int .i64 nw) := by rw [← H3.out]; exact hb2.blk.cell 10 rfl
  have c11 : wb.cell? ⟨g, 11, none⟩ = some (.int .i64 nx) := by rw [← H2.out]; exact hb2.blk.cell 11 rfl
  clear hb2 hc2
  have FIN : Hid (∀ n, RTold w B g (at_ k t) pl tl (fun _ ms => ms = []) (.returned (.slice none 0 0)) (wb.drewN n)) := fun n =>
    ⟨none, 0, [], rfl, Own.none_ _ _ _ _, rfl, HB2.out.drewN n, HC2.out.drewN n⟩
  by_cases h0 : en = 0
  · have h1 : nw < nx := hn.resolve_left (fun h => h h0)
    subst h0
    clear hn
    go_upto_region 2 with (fail)
    go_big_quiet (fail)
    go_wp2
    go_ret
    exact FIN.out _
  · have hb : (en != 0) = true := by simpa using h0
    clear hn h0
    go_upto_region 2 with (fail)
    go_big_quiet (fail)
    go_wp2
    go_ret
    exact FIN.out _

set_option maxHeartbeats 2000000 in
theorem rtick_yes (h : Cr w B g k pl tl) (t : Int) (h0 : k.en = 0) (h1 : k.next ≤ nowOf k.now t) :
    Calls Try.prog 18 #[.pointer (some ⟨g, 0, none⟩), .int .i64 t] w (RTold w B g (tk k t) pl tl (rticked k)) := by
  have HC := Lib.hid h
  have he := h.ev0
  have he1 := h.ev1
  have n0 := nowOf_lo k.now t h.now0
  have n1 := nowOf_hi k.now t h.now1
  clear h
  go_enter Try.func18, Try.ntmps18
  go_wp2_with fail
  refine (rlater HC.out t).mono ?_
  rintro e wb ⟨rfl, hb2, hc2⟩
  have HB2 := Lib.hid hb2
  have HC2 := Lib.hid hc2
  obtain ⟨nx, H2⟩ : ∃ n, Hid (k.next = n) := ⟨_, rfl⟩
  obtain ⟨nw, H3⟩ : ∃ n, Hid (nowOf k.now t = n) := ⟨_, rfl⟩
  obtain ⟨ev, H4⟩ : ∃ n, Hid (k.ev = n) := ⟨_, rfl⟩
  obtain ⟨hd, H5⟩ : ∃ n, Hid (k.heard = n) := ⟨_, rfl⟩
  obtain ⟨sd, H6⟩ : ∃ n, Hid (k.stopped = n) := ⟨_, rfl⟩
  have H0 := Lib.hid h0
  rw [H2.out, H3.out] at h1
  rw [H4.out] at he he1
  rw [H3.out] at n0 n1
  have c7 : wb.cell? ⟨g, 7, none⟩ = some (.int .i64 0) := by rw [← H0.out]; exact hb2.blk.cell 7 rfl
  have c10 : wb.cell? ⟨g, 10, none⟩ = some (.int .i64 nw) := by rw [← H3.out]; exact hb2.blk.cell 10 rfl
  have c11 : wb.cell? ⟨g, 11, none⟩ = some (.int .i64 nx) := by rw [← H2.out]; exact hb2.blk.cell 11 rfl
  have c5 : wb.cell? ⟨g, 5, none⟩ = some (.int .i64 ev) := by rw [← H4.out]; exact hb2.blk.cell 5 rfl
  have f11 := hb2.blk.frozen 11
  clear hb2 hc2 h0
  go_upto_region 2 with (fail)
  go_big_quiet (fail)
  go_upto_region 4 with (fail)
  go_region
  have b3 : Cr ((wb.drewN (nq + 1)).setCell ⟨g, 11, none⟩ (.int .i64 (nw + ev))) B g (tk k t) pl tl := by
    have hset := (Chg.refl (fun i => i = g) (wb.drewN (nq + 1))).set (p := ⟨g, 11, none⟩) (.inl rfl) (.int .i64 (nw + ev))
    have hb : Blk _ g 50 ((cc (at_ k t)).setIfInBounds 11 (.int .i64 (nw + ev))) := (HB2.out.blk.drewN (nq + 1)).set 11 (.int .i64 (nw + ev))
    have hv : (cc (at_ k t)).setIfInBounds 11 (.int .i64 (nw + ev)) = cc (tk k t) := by rw [← H3.out, ← H4.out]; rfl
    rw [hv] at hb
    refine (HB2.out.drewN (nq + 1)).turn (k' := tk k t) hset hb rfl rfl rfl rfl rfl rfl rfl ?_ ?_ ?_ ?_
    · show 0 ≤ nowOf k.now t; rw [H3.out]; exact n0
    · show nowOf k.now t ≤ _; rw [H3.out]; exact n1
    · show 0 ≤ nowOf k.now t + k.ev; rw [H3.out, H4.out]; omega
    · show nowOf k.now t + k.ev ≤ _; rw [H3.out, H4.out]; omega
  have k3 := (HC2.out.drewN (nq + 1)).set (p := ⟨g, 11, none⟩) (.inl rfl) (.int .i64 (nw + ev))
  obtain ⟨wc, HW⟩ : ∃ wc, Hid ((wb.drewN (nq + 1)).setCell ⟨g, 11, none⟩ (.int .i64 (nw + ev)) = wc) := ⟨_, rfl⟩
  rw [HW.out] at b3 k3 ⊢
  clear HW c7 c10 c11 c5 f11
  have B3 := Lib.hid b3
  have K3 := Lib.hid k3
  clear b3 k3
  obtain ⟨tn, H7⟩ : ∃ n, Hid (k.tn = n) := ⟨_, rfl⟩
  go_upto_region 5 with (fail)
  go_wp2_with fail
  refine (rgot_any B3.out.blk B3.out.few).mono ?_
  rintro e w4 ⟨rfl, hb4⟩
  rw [show (tk k t).tn = tn from H7.out]
  have B4 := Lib.hid ((B3.out.below hb4).alloc (.cells (mc (gotM tn)) 34))
  have K4 := Lib.hid ((K3.out.then (Chg.of_below hb4 (fun i => i = g)) (fun i _ h => h)).alloc (.cells (mc (gotM tn)) 34))
  have HM0 := Lib.hid (Blk.new w4 (mc (gotM tn)) 34)
  have hs4 : w.heap.size ≤ w4.heap.size := Nat.le_trans K3.out.size hb4.size
  clear hb4
  obtain ⟨w5, HW5⟩ : ∃ w5, Hid (w4.alloc (.cells (mc (gotM tn)) 34) = w5) := ⟨_, rfl⟩
  have HW6 := HW5.out
  unfold mc gotM at HW6
  simp only at HW6
  unfold mc gotM
  simp only
  rw [HW5.out] at B4 K4 HM0
  go_upto_region 6 with (fail)
  clear HW6 HW5
  obtain ⟨gm, HGM, hgm⟩ : ∃ gm, Hid (w4.heap.size = gm) ∧ w.heap.size ≤ gm := ⟨_, rfl, hs4⟩
  rw [HGM.out] at HM0 ⊢
  have hgg : g < w.heap.size := HC.out.blk.lt
  have c8 : w5.cell? ⟨g, 8, none⟩ = some (.bool hd) := by rw [← H5.out]; exact B4.out.blk.cell 8 rfl
  go_upto_if 44 with (fail)
  go_cut [] from 45 to 59 (fun wx => ∃ m, Hid (rfirst k m) ∧ Hid (Blk wx gm 34 (mc m)) ∧ Hid (Cr wx B g (tk k t) pl tl) ∧ Hid (Chg (fun i => i = g) w wx))
  case first =>
    cases hd with
    | true =>
      go_wp2
      go_meet
      exact ⟨gotM tn, Lib.hid (.inl ⟨H5.out, by rw [H7.out]⟩), HM0, B4, K4⟩
    | false =>
      obtain ⟨js, J1⟩ : ∃ n, Hid (k.js = n) := ⟨_, rfl⟩
      obtain ⟨ja, J2⟩ : ∃ n, Hid (k.ja = n) := ⟨_, rfl⟩
      obtain ⟨jn, J3⟩ : ∃ n, Hid (k.jn = n) := ⟨_, rfl⟩
      obtain ⟨jc, J4⟩ : ∃ n, Hid (k.jc = n) := ⟨_, rfl⟩
      obtain ⟨jm, J5⟩ : ∃ n, Hid (k.jm = n) := ⟨_, rfl⟩
      have a0 : w5.cell? ⟨g, 0, none⟩ = some (.int .u64 3) := B4.out.blk.cell 0 rfl
      have a1 : w5.cell? ⟨g, 1, none⟩ = some (.int .u64 4) := B4.out.blk.cell 1 rfl
      have a2 : w5.cell? ⟨g, 2, none⟩ = some (.int .u64 js) := by rw [← J1.out]; exact B4.out.blk.cell 2 rfl
      have a3 : w5.cell? ⟨g, 3, none⟩ = some (.slice ja jn jc) := by rw [← J2.out, ← J3.out, ← J4.out]; exact B4.out.blk.cell 3 rfl
      have a4 : w5.cell? ⟨g, 4, none⟩ = some (.int .i64 jm) := by rw [← J5.out]; exact B4.out.blk.cell 4 rfl
      have z0 : w5.cell? ⟨gm, 0, none⟩ = some (.int .i64 2) := HM0.out.cell 0 rfl
      have y0 := HM0.out.frozen 0
      have z1 : w5.cell? ⟨gm, 1, none⟩ = some (.int .u64 3) := HM0.out.cell 1 rfl
      have y1 := HM0.out.frozen 1
      have z2 : w5.cell? ⟨gm, 2, none⟩ = some (.int .u64 0) := HM0.out.cell 2 rfl
      have y2 := HM0.out.frozen 2
      have z3 : w5.cell? ⟨gm, 3, none⟩ = some (.int .u64 0) := HM0.out.cell 3 rfl
      have y3 := HM0.out.frozen 3
      have z4 : w5.cell? ⟨gm, 4, none⟩ = some (.int .u64 0) := HM0.out.cell 4 rfl
      have y4 := HM0.out.frozen 4
      have z5 : w5.cell? ⟨gm, 5, none⟩ = some (.int .u64 tn) := HM0.out.cell 5 rfl
      have y5 := HM0.out.frozen 5
      have z6 : w5.cell? ⟨gm, 6, none⟩ = some (.int .u64 0) := HM0.out.cell 6 rfl
      have y6 := HM0.out.frozen 6
      have z7 : w5.cell? ⟨gm, 7, none⟩ = some (.int .i64 0) := HM0.out.cell 7 rfl
      have y7 := HM0.out.frozen 7
      have z8 : w5.cell? ⟨gm, 8, none⟩ = some (.int .u64 0) := HM0.out.cell 8 rfl
      have y8 := HM0.out.frozen 8
      have z9 : w5.cell? ⟨gm, 9, none⟩ = some (.slice none 0 0) := HM0.out.cell 9 rfl
      have y9 := HM0.out.frozen 9
      have z10 : w5.cell? ⟨gm, 10, none⟩ = some (.int .i64 0) := HM0.out.cell 10 rfl
      have y10 := HM0.out.frozen 10
      have z11 : w5.cell? ⟨gm, 11, none⟩ = some (.slice none 0 0) := HM0.out.cell 11 rfl
      have y11 := HM0.out.frozen 11
      have HF : Hid (askM k k.ja k.jc = ⟨1, 3, 4, 0, 0, 0, 0, 0, js, ja, jn, jc, jm, none, 0, 0⟩) := Lib.hid (by unfold askM; rw [J1.out, J2.out, J3.out, J4.out, J5.out])
      have FIN : Hid (∃ m, Hid (rfirst k m) ∧ Hid (Blk (stored w5 gm ⟨1, 3, 4, 0, 0, 0, 0, 0, js, ja, jn, jc, jm, none, 0, 0⟩).drew gm 34 (mc m)) ∧ Hid (Cr (stored w5 gm ⟨1, 3, 4, 0, 0, 0, 0, 0, js, ja, jn, jc, jm, none, 0, 0⟩).drew B g (tk k t) pl tl) ∧ Hid (Chg (fun i => i = g) w (stored w5 gm ⟨1, 3, 4, 0, 0, 0, 0, 0, js, ja, jn, jc, jm, none, 0, 0⟩).drew)) := by
        have hch := (stored_chg w5 gm ⟨1, 3, 4, 0, 0, 0, 0, 0, js, ja, jn, jc, jm, none, 0, 0⟩).drew
        have hbl := (stored_blk HM0.out ⟨1, 3, 4, 0, 0, 0, 0, 0, js, ja, jn, jc, jm, none, 0, 0⟩).drew
        exact ⟨⟨1, 3, 4, 0, 0, 0, 0, 0, js, ja, jn, jc, jm, none, 0, 0⟩, Lib.hid (.inr ⟨H5.out, HF.out.symm⟩), Lib.hid hbl, Lib.hid (B4.out.chg hch (by show ¬ g = gm; omega) (fun x hx e => B4.out.toks.ne HM0.out (by decide) (by rw [hx, e])) (fun x hx e => by have := B4.out.base; have : x = gm := e; omega)), Lib.hid (K4.out.then hch (fun i hi e => by have : i = gm := e; omega))⟩
      clear HM0 c8
      go_upto_region 7 with (fail)
      go_region
      go_wp2
      go_meet
      exact FIN.out
  case rest =>
    obtain ⟨m, HF, HM, HB5, HK5⟩ := hcut
    clear c8
    have c9 : wc.cell? ⟨g, 9, none⟩ = some (.bool sd) := by rw [← H6.out]; exact HB5.out.blk.cell 9 rfl
    have HO5 : Hid (Own wc w.heap.size 34 12 (some ⟨gm, 0, none⟩) 1 1 (mcs [m])) := by
      have := own_of_blk (size := 12) (n := 1) HM.out hgm (by unfold maxLen; omega) rfl
      exact Lib.hid (by simpa [mcs] using this)
    cases sd with
    | false =>
      go_wp2
      go_ret
      exact ⟨some ⟨gm, 0, none⟩, 1, [m], rfl, HO5.out, ⟨_, HF.out, by rw [H6.out]; rfl⟩, HB5.out, HK5.out⟩
    | true =>
      go_wp2_with fail
      refine (rstop_any HB5.out.blk).mono ?_
      rintro e w6 ⟨rfl, hb6⟩
      have HO6 := Lib.hid (HO5.out.chg (Chg.of_below hb6 (fun _ => False)) (fun _ _ => id))
      have HB6 := Lib.hid (HB5.out.below hb6)
      have HK6 := Lib.hid (HK5.out.then (Chg.of_below hb6 (fun i => i = g)) (fun i _ h => h))
      have HM6 := Lib.hid (show Blk w6 gm 34 _ from (hb6.block _ HM.out.lt).trans HM.out)
      clear hb6 c9
      unfold mc stopM
      simp only
      have HM7 := Lib.hid (HM6.out.alloc (.cells (mc stopM) 34))
      have HB7 := Lib.hid (HB6.out.alloc (.cells (mc stopM) 34))
      have HO7 := Lib.hid (HO6.out.chg ((Chg.refl (fun _ => False) w6).alloc (.cells (mc stopM) 34)) (fun _ _ => id))
      have HS7 : Hid (Rd (w6.alloc (.cells (mc stopM) 34)) 12 (some ⟨w6.heap.size, 0, none⟩) 1 1 (mcs [stopM])) := by
        have := (Own.made (size := 12) (B := w6.heap.size) w6 (mc stopM) 34 1 (Nat.le_refl _) (by unfold maxLen; omega) rfl).rd
        exact Lib.hid (by simpa [mcs] using this)
      have HK7 := Lib.hid (HK6.out.alloc (.cells (mc stopM) 34))
      have H1S : Hid (∀ u ∈ mcs [stopM], u.oneCell' = true) := Lib.hid (msgs_one _)
      have HBS : Hid (w.heap.size ≤ (w6.alloc (.cells (mc stopM) 34)).heap.size) := HK7.out.size
      go_wp2_with (at_builtin; refine wpList_app msgs52 (by omega) rfl (.tmp 64) (.tmp 67) (by rfl) (B := w.heap.size) (by rfl) HO7.out (by rfl) HS7.out H1S.out (by omega) (by omega) HBS.out ?_; intro a8 c8 w8 ho8 hg8 ha8)
      go_ret
      have hc8 := Chg.of_grown' hg8
      have hne : ∀ x, ob (some (⟨gm, 0, none⟩ : Addr)) = some x → x = gm := fun x e => by simpa [ob, eq_comm] using e
      refine ⟨a8, c8, [m, stopM], rfl, ?_, ⟨_, HF.out, by rw [H6.out]; rfl⟩,
        HB7.out.chg hc8 (fun e => by have := hne g e; omega) (fun x hx e => HB7.out.toks.ne HM7.out (by decide) (by rw [hx, hne x e])) (fun x hx e => by have := hne x e; have := HB7.out.base; have := HC.out.base; omega), HK7.out.then hc8 (fun i hi e => by have := hne i e; omega)⟩
      have e : mcs [m, stopM] = mcs [m] ++ mcs [stopM] := by simp [mcs]
      rw [e]
      exact ho8
end
end Go.Proofs.Ytoghkikjgilpdaa.ClX
