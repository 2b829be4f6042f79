/-
  Walks over the client: New, ask, take, and what only reads.
-/
import Derived.Test.YtoghkikjgilpdaaClW
namespace Go.Proofs.Ytoghkikjgilpdaa.ClV
open Go.RowKit Go.Proofs.Ytoghkikjgilpdaa.Kit Go.Proofs.Ytoghkikjgilpdaa.ClW
attribute [local go_sem high] max_imax min_imin
set_option linter.unusedVariables false

/-- A client that New made, in memory. -/
structure Cl (w : World) (B g : Nat) (k : Ck) (pl tl : List Int) : Prop where
  blk : Blk w g 58 (cc k)
  toks : Own w B 3 1 k.ta k.tn k.tc (ints tl)
  job : Own w B 3 1 k.ja k.jn k.jc (ints pl)
  far : ∀ x, ob k.ja = some x → ob k.ta ≠ some x
  base : B ≤ g
  ev0 : 1 ≤ k.ev
  ev1 : k.ev ≤ 4294967296
  now0 : 0 ≤ k.now
  now1 : k.now ≤ 1099511627776
  next0 : 0 ≤ k.next
  next1 : k.next ≤ 1103806595072
  few : k.tn ≤ 1099511627776
  jfew : k.jn ≤ 17592186044416

section
variable {B g : Nat} {k : Ck} {pl tl : List Int} {w w' : World}

theorem Cl.ne1 (h : Cl w B g k pl tl) : ob k.ta ≠ some g := h.toks.ne h.blk (by decide)
theorem Cl.ne2 (h : Cl w B g k pl tl) : ob k.ja ≠ some g := h.job.ne h.blk (by decide)
/-- Other blocks may turn. -/
theorem Cl.chg {S : Nat → Prop} (h : Cl w B g k pl tl) (hc : Chg S w w') (h1 : ¬ S g) (h2 : ∀ x, ob k.ta = some x → ¬ S x) (h3 : ∀ x, ob k.ja = some x → ¬ S x) : Cl w' B g k pl tl :=
  ⟨hc.blk h.blk h1, h.toks.chg hc h2, h.job.chg hc h3, h.far, h.base, h.ev0, h.ev1, h.now0, h.now1, h.next0, h.next1, h.few, h.jfew⟩
theorem Cl.below (h : Cl w B g k pl tl) (hb : Below w.heap.size w w') : Cl w' B g k pl tl :=
  h.chg (S := fun _ => False) ⟨hb.os, hb.tape, hb.output, hb.size, fun i hi _ => hb.block i hi⟩ id (fun _ _ => id) (fun _ _ => id)
theorem Cl.drewN (h : Cl w B g k pl tl) (n : Nat) : Cl (w.drewN n) B g k pl tl := h.chg ((Chg.refl (fun _ => False) w).drewN n) id (fun _ _ => id) (fun _ _ => id)
theorem Cl.alloc (h : Cl w B g k pl tl) (o : Obj) : Cl (w.alloc o) B g k pl tl := h.chg ((Chg.refl (fun _ => False) w).alloc o) id (fun _ _ => id) (fun _ _ => id)
/-- Its own block turned, its lists not. -/
theorem Cl.turn (h : Cl w B g k pl tl) {k' : Ck} (hc : Chg (fun i => i = g) w w') (hb : Blk w' g 58 (cc k')) (e1 : k'.ta = k.ta) (e2 : k'.tn = k.tn) (e3 : k'.tc = k.tc) (e4 : k'.ja = k.ja) (e5 : k'.jn = k.jn) (e6 : k'.jc = k.jc) (e7 : k'.ev = k.ev)
    (n0 : 0 ≤ k'.now) (n1 : k'.now ≤ 1099511627776) (x0 : 0 ≤ k'.next) (x1 : k'.next ≤ 1103806595072) : Cl w' B g k' pl tl :=
  ⟨hb, by rw [e1, e2, e3]; exact h.toks.chg hc (fun x hx e => h.ne1 (by rw [hx, e])), by rw [e4, e5, e6]; exact h.job.chg hc (fun x hx e => h.ne2 (by rw [hx, e])), by rw [e1, e4]; exact h.far, h.base, by rw [e7]; exact h.ev0, by rw [e7]; exact h.ev1, n0, n1, x0, x1, by rw [e2]; exact h.few, by rw [e5]; exact h.jfew⟩

theorem later (h : Cl w B g k pl tl) (t : Int) : Calls Try.prog 27 #[.pointer (some ⟨g, 0, none⟩), .int .i64 t] w fun e w' =>
    e = .returned (.tuple #[]) ∧ Cl w' B g { k with now := nowOf k.now t } pl tl ∧ Chg (fun i => i = g) w w' := by
  refine (later_any h.blk t).mono ?_
  rintro e w' ⟨rfl, hb, hc⟩
  exact ⟨rfl, h.turn hc hb rfl rfl rfl rfl rfl rfl rfl (nowOf_lo _ _ h.now0) (nowOf_hi _ _ h.now1) h.next0 h.next1, hc⟩

/-! New -/
def k0 (js : Int) (a : Option Addr) (n c : Nat) (jm ev : Int) : Ck := ⟨js, a, n, c, jm, ev, none, 0, 0, 0, false, false, 0, 0⟩
def Made (w : World) (js : Int) (n : Nat) (jm ev : Int) (pl : List Int) (e : Ending) (w' : World) : Prop :=
  ∃ g a c, e = .returned (.tuple #[.pointer (some ⟨g, 0, none⟩), .int .i64 0]) ∧ w.heap.size ≤ g ∧ Cl w' w.heap.size g (k0 js a n c jm ev) pl [] ∧ Below w.heap.size w w'

theorem new_yes {js jm ev : Int} {a : Option Addr} {n c : Nat} (hr : Rd w 1 a n c (ints pl)) (hn : n ≤ 17592186044416) (e0 : 1 ≤ ev) (e1 : ev ≤ 4294967296) :
    Calls Try.prog 7 #[.int .u64 3, .int .u64 4, .agg #[.int .u64 js, .slice a n c, .int .i64 jm], .int .i64 ev] w (Made w js n jm ev pl) := by
  have HR := Lib.hid hr
  have HB := Lib.hid ((Below.refl w.heap.size w).alloc (Nat.le_refl _) (.cells #[.int .u64 js, .slice a n c, .int .i64 jm] 30))
  have b0 := Lib.hid (Blk.new w #[.int .u64 js, .slice a n c, .int .i64 jm] 30)
  have HR2 := Lib.hid (hr.chg ((Chg.refl (fun _ => False) w).alloc (.cells #[.int .u64 js, .slice a n c, .int .i64 jm] 30)) (fun _ _ _ => id))
  clear hr
  go_enter Try.func7, Try.ntmps7
  go_wp2_with fail
  refine (clone_any HR2.out hn).mono ?_
  rintro e w1 ⟨a1, c1, rfl, ho1, hb1⟩
  have HO := Lib.hid ho1
  have HB1 := Lib.hid hb1
  have hb0 : Blk w1 w.heap.size 30 #[.int .u64 js, .slice a n c, .int .i64 jm] := (hb1.block _ b0.out.lt).trans b0.out
  have f1 := hb0.frozen 1
  have p1 : w1.cell? ⟨w.heap.size, 1, none⟩ = some (.slice a n c) := hb0.cell 1 rfl
  have B1 := Lib.hid hb0
  clear ho1 hb1 hb0
  have hsz : w.heap.size + 1 ≤ w1.heap.size := by have := HB1.out.size; simpa using this
  go_upto_region 4 with (fail)
  have b2 := B1.out.set 1 (.slice a1 n c1)
  have k2 := (Chg.refl (fun i => i = w.heap.size) w1).set (p := ⟨w.heap.size, 1, none⟩) (.inl rfl) (.slice a1 n c1)
  obtain ⟨W2, HW2⟩ : ∃ W2, Hid (w1.setCell ⟨w.heap.size, 1, none⟩ (.slice a1 n c1) = W2) := ⟨_, rfl⟩
  rw [HW2.out] at b2 k2 ⊢
  clear HW2 p1 f1
  have q0 : W2.cell? ⟨w.heap.size, 0, none⟩ = some (.int .u64 js) := b2.cell 0 rfl
  have q1 : W2.cell? ⟨w.heap.size, 1, none⟩ = some (.slice a1 n c1) := b2.cell 1 rfl
  have q2 : W2.cell? ⟨w.heap.size, 2, none⟩ = some (.int .i64 jm) := b2.cell 2 rfl
  have HK2 := Lib.hid k2
  have hs2 := k2.size
  have HS1 := Lib.hid (show (w.alloc (Obj.cells #[.int .u64 js, .slice a n c, .int .i64 jm] 30)).heap.size = w.heap.size + 1 by simp)
  clear b2 k2
  go_wp2
  go_ret2
  have o2 : Own W2 (w.heap.size + 1) 3 1 a1 n c1 (ints pl) := by
    have := HO.out
    rw [HS1.out] at this
    exact this.chg HK2.out (fun x hx e => by have := (this.lt x hx).1; omega)
  have B2 : Below w.heap.size w W2 := by
    have h1 := HB.out.trans (HB1.out.mono (by rw [HS1.out]; omega))
    exact HK2.out.below h1 (by omega) (fun x hx => by omega)
  have hK := (Chg.refl (fun _ => False) W2).alloc (.cells (cc (k0 js a1 n c1 jm ev)) 58)
  have o3 := o2.chg hK (fun _ _ => id)
  refine ⟨W2.heap.size, a1, c1, rfl, by omega, ⟨?_, Own.none_ _ _ _ _, o3.lower (by omega), fun _ _ h => by simp [k0, ob] at h, by omega, e0, e1, by simp [k0], by simp [k0], by simp [k0], by simp [k0], by simp [k0], hn⟩, ?_⟩
  · exact Blk.new W2 (cc (k0 js a1 n c1 jm ev)) 58
  · exact B2.alloc (by omega) _

theorem new_no {js jm ev : Int} {a : Option Addr} {n c : Nat} (h : ¬ (1 ≤ ev ∧ ev ≤ 4294967296)) :
    Calls Try.prog 7 #[.int .u64 3, .int .u64 4, .agg #[.int .u64 js, .slice a n c, .int .i64 jm], .int .i64 ev] w fun e w' => e = .returned (.tuple #[.pointer none, .int .i64 1]) ∧ Below w.heap.size w w' := by
  by_cases h1 : 1 ≤ ev
  · have h2 : 4294967296 < ev := by omega
    clear h
    go_enter Try.func7, Try.ntmps7
    go_wp2
    go_ret2
    exact ⟨rfl, (Below.refl _ w).alloc (Nat.le_refl _) _⟩
  · have h2 : ev < 1 := by omega
    clear h
    go_enter Try.func7, Try.ntmps7
    go_wp2
    go_ret2
    exact ⟨rfl, (Below.refl _ w).alloc (Nat.le_refl _) _⟩

/-! What only reads -/
theorem ended (h : Cl w B g k pl tl) : Calls Try.prog 14 #[.pointer (some ⟨g, 0, none⟩)] w fun e w' => e = .returned (.tuple #[.int .i64 k.en, .bool (k.en != 0)]) ∧ ∃ m, w' = w.drewN m := by
  have HB := Lib.hid h.blk
  have he := h.ev0
  clear h
  obtain ⟨n, HN⟩ : ∃ n, Hid (k.en = n) := ⟨_, rfl⟩
  have c7 : w.cell? ⟨g, 7, none⟩ = some (.int .i64 n) := by rw [← HN.out]; exact HB.out.cell 7 rfl
  rw [HN.out]
  go_enter Try.func14, Try.ntmps14
  go_wp2_with fail
  refine (ok_any HB.out (by omega)).mono ?_
  rintro e w1 ⟨rfl, nd, rfl⟩
  go_upto_region 3 with (fail)
  go_big_quiet (fail)
  go_wp2
  go_ret2
  exact ⟨rfl, _, (World.drewN_drewN w nd nq)⟩

theorem cancelled (h : Cl w B g k pl tl) : Calls Try.prog 22 #[.pointer (some ⟨g, 0, none⟩)] w fun e w' => e = .returned (.bool k.stopped) ∧ ∃ m, w' = w.drewN m := by
  have HB := Lib.hid h.blk
  have he := h.ev0
  clear h
  obtain ⟨n, HN⟩ : ∃ n, Hid (k.stopped = n) := ⟨_, rfl⟩
  have c9 : w.cell? ⟨g, 9, none⟩ = some (.bool n) := by rw [← HN.out]; exact HB.out.cell 9 rfl
  rw [HN.out]
  go_enter Try.func22, Try.ntmps22
  go_wp2_with fail
  refine (ok_any HB.out (by omega)).mono ?_
  rintro e w1 ⟨rfl, nd, rfl⟩
  go_wp2
  go_ret
  exact ⟨rfl, _, rfl⟩

theorem due (h : Cl w B g k pl tl) : Calls Try.prog 23 #[.pointer (some ⟨g, 0, none⟩)] w fun e w' => e = .returned (.int .i64 (if k.en = 0 then k.next else 1099511627776)) ∧ ∃ m, w' = w.drewN m := by
  have HB := Lib.hid h.blk
  have he := h.ev0
  clear h
  obtain ⟨n, HN⟩ : ∃ n, Hid (k.en = n) := ⟨_, rfl⟩
  obtain ⟨x, HX⟩ : ∃ n, Hid (k.next = n) := ⟨_, rfl⟩
  have c7 : w.cell? ⟨g, 7, none⟩ = some (.int .i64 n) := by rw [← HN.out]; exact HB.out.cell 7 rfl
  have c11 : w.cell? ⟨g, 11, none⟩ = some (.int .i64 x) := by rw [← HX.out]; exact HB.out.cell 11 rfl
  rw [HN.out, HX.out]
  by_cases hn : n = 0
  · rw [if_pos hn]
    subst hn
    go_enter Try.func23, Try.ntmps23
    go_wp2_with fail
    refine (ok_any HB.out (by omega)).mono ?_
    rintro e w1 ⟨rfl, nd, rfl⟩
    go_wp2
    go_ret
    exact ⟨rfl, _, rfl⟩
  · rw [if_neg hn]
    have hb : (n != 0) = true := by simpa using hn
    clear hn
    go_enter Try.func23, Try.ntmps23
    go_wp2_with fail
    refine (ok_any HB.out (by omega)).mono ?_
    rintro e w1 ⟨rfl, nd, rfl⟩
    go_wp2
    go_ret
    exact ⟨rfl, _, rfl⟩

theorem now (h : Cl w B g k pl tl) : Calls Try.prog 24 #[.pointer (some ⟨g, 0, none⟩)] w fun e w' => e = .returned (.int .i64 k.now) ∧ ∃ m, w' = w.drewN m := by
  have HB := Lib.hid h.blk
  have he := h.ev0
  clear h
  obtain ⟨n, HN⟩ : ∃ n, Hid (k.now = n) := ⟨_, rfl⟩
  have c10 : w.cell? ⟨g, 10, none⟩ = some (.int .i64 n) := by rw [← HN.out]; exact HB.out.cell 10 rfl
  rw [HN.out]
  go_enter Try.func24, Try.ntmps24
  go_wp2_with fail
  refine (ok_any HB.out (by omega)).mono ?_
  rintro e w1 ⟨rfl, nd, rfl⟩
  go_wp2
  go_ret
  exact ⟨rfl, _, rfl⟩

theorem tokens (h : Cl w B g k pl tl) : Calls Try.prog 11 #[.pointer (some ⟨g, 0, none⟩)] w (Cloned w k.tn tl) := by
  have HB := Lib.hid h.blk
  have he := h.ev0
  have HT := Lib.hid h.toks
  have hf := h.few
  clear h
  obtain ⟨a, HA⟩ : ∃ n, Hid (k.ta = n) := ⟨_, rfl⟩
  obtain ⟨n, HN⟩ : ∃ n, Hid (k.tn = n) := ⟨_, rfl⟩
  obtain ⟨c, HC⟩ : ∃ n, Hid (k.tc = n) := ⟨_, rfl⟩
  rw [HA.out, HN.out, HC.out] at HT
  rw [HN.out] at hf ⊢
  have c6 : w.cell? ⟨g, 6, none⟩ = some (.slice a n c) := by rw [← HN.out, ← HA.out, ← HC.out]; exact HB.out.cell 6 rfl
  go_enter Try.func11, Try.ntmps11
  go_wp2_with fail
  refine (ok_any HB.out (by omega)).mono ?_
  rintro e w1 ⟨rfl, nd, rfl⟩
  go_wp2_with fail
  refine (clone_any ((HT.out.drewN nd).rd) (by omega)).mono ?_
  rintro e w2 ⟨a2, c2, rfl, ho, hb⟩
  have HO := Lib.hid (show Own w2 w.heap.size 3 1 a2 n c2 (ints tl) from ho)
  have HB2 := Lib.hid (show Below w.heap.size w w2 from (below_drewN (Below.refl _ w) nd).trans hb)
  clear ho hb
  go_wp2
  go_ret
  exact ⟨a2, c2, rfl, HO.out, HB2.out⟩
end
end Go.Proofs.Ytoghkikjgilpdaa.ClV
