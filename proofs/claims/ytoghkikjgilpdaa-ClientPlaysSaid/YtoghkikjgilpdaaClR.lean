/-
  Walks over the client: Cancel, Arrive.
-/
import Derived.Test.YtoghkikjgilpdaaClS
namespace Go.Proofs.Ytoghkikjgilpdaa.ClR
open Go.RowKit Go.Proofs.Ytoghkikjgilpdaa.Kit Go.Proofs.Ytoghkikjgilpdaa.ClW Go.Proofs.Ytoghkikjgilpdaa.ClV Go.Proofs.Ytoghkikjgilpdaa.ClS
attribute [local go_sem high] max_imax min_imin
set_option linter.unusedVariables false

section
variable {B g : Nat} {k : Ck} {pl tl ll : List Int} {w w' : World} {m : M}

/-- One message, made anew, is told. -/
theorem told_one (k' : Ck) (wb w4 : World) (m : M) (hc : Chg (fun i => i = g) w w4) (h4 : Cl w4 B g k' pl tl) (P : World → List M → Prop) (hp : P (w4.alloc (.cells (mc m) 39)) [m]) :
    ClS.Told w B g k' pl tl P (.returned (.slice (some ⟨w4.heap.size, 0, none⟩) 1 1)) (w4.alloc (.cells (mc m) 39)) := by
  refine ⟨some ⟨w4.heap.size, 0, none⟩, 1, [m], rfl, ?_, hp, h4.alloc _, hc.alloc _⟩
  have := Own.made (size := 12) (B := w.heap.size) w4 (mc m) 39 1 hc.size (by unfold maxLen; omega) rfl
  simpa [mcs] using this

theorem cancel_no (h : Cl w B g k pl tl) (t : Int) (hn : k.en ≠ 0 ∨ k.stopped = true) :
    Calls Try.prog 19 #[.pointer (some ⟨g, 0, none⟩), .int .i64 t] w (ClS.Told w B g (at_ k t) pl tl (fun _ ms => ms = [])) := by
  have HC := Lib.hid h
  have he := h.ev0
  clear h
  go_enter Try.func19, Try.ntmps19
  go_wp2_with fail
  refine (ok_any HC.out.blk (by omega)).mono ?_
  rintro e wa ⟨rfl, nd, rfl⟩
  go_wp2_with fail
  refine (ClV.later (HC.out.drewN nd) t).mono ?_
  rintro e wb ⟨rfl, hb2, hc2⟩
  have HB2 := Lib.hid hb2
  have HC2 := Lib.hid (((Chg.refl (fun i => i = g) w).drewN nd).then hc2 (fun i _ h => h))
  obtain ⟨en, H1⟩ : ∃ n, Hid (k.en = n) := ⟨_, rfl⟩
  obtain ⟨sd, H2⟩ : ∃ n, Hid (k.stopped = n) := ⟨_, rfl⟩
  rw [H1.out, H2.out] at hn
  have c7 : wb.cell? ⟨g, 7, none⟩ = some (.int .i64 en) := by rw [← H1.out]; exact hb2.blk.cell 7 rfl
  have c9 : wb.cell? ⟨g, 9, none⟩ = some (.bool sd) := by rw [← H2.out]; exact hb2.blk.cell 9 rfl
  clear hb2 hc2
  have FIN : Hid (ClS.Told w B g (at_ k t) pl tl (fun _ ms => ms = []) (.returned (.slice none 0 0)) wb) := 
    ⟨none, 0, [], rfl, Own.none_ _ _ _ _, rfl, HB2.out, HC2.out⟩
  by_cases h0 : en = 0
  · have h1 : sd = true := hn.resolve_left (fun h => h h0)
    subst h0 h1
    clear hn
    go_wp2
    go_ret
    exact FIN.out
  · have hb : (en != 0) = true := by simpa using h0
    clear hn h0
    go_wp2
    go_ret
    exact FIN.out

def cn (k : Ck) (t : Int) : Ck := { k with now := nowOf k.now t, stopped := true }
theorem cancel_yes (h : Cl w B g k pl tl) (t : Int) (h0 : k.en = 0) (h1 : k.stopped = false) :
    Calls Try.prog 19 #[.pointer (some ⟨g, 0, none⟩), .int .i64 t] w (ClS.Told w B g (cn k t) pl tl (fun _ ms => ms = [stopM])) := by
  have HC := Lib.hid h
  have he := h.ev0
  clear h
  go_enter Try.func19, Try.ntmps19
  go_wp2_with fail
  refine (ok_any HC.out.blk (by omega)).mono ?_
  rintro e wa ⟨rfl, nd, rfl⟩
  go_wp2_with fail
  refine (ClV.later (HC.out.drewN nd) t).mono ?_
  rintro e wb ⟨rfl, hb2, hc2⟩
  have HB2 := Lib.hid hb2
  have HC2 := Lib.hid (((Chg.refl (fun i => i = g) w).drewN nd).then hc2 (fun i _ h => h))
  have H0 := Lib.hid h0
  have H1 := Lib.hid h1
  have c7 : wb.cell? ⟨g, 7, none⟩ = some (.int .i64 0) := by rw [← H0.out]; exact hb2.blk.cell 7 rfl
  have c9 : wb.cell? ⟨g, 9, none⟩ = some (.bool false) := by rw [← H1.out]; exact hb2.blk.cell 9 rfl
  have f9 := hb2.blk.frozen 9
  clear hb2 hc2 h0 h1
  go_upto_region 7 with (fail)
  have b3 : Cl (wb.setCell ⟨g, 9, none⟩ (.bool true)) B g (cn k t) pl tl := by
    have hset := (Chg.refl (fun i => i = g) wb).set (p := ⟨g, 9, none⟩) (.inl rfl) (.bool true)
    exact HB2.out.turn (k' := cn k t) hset (HB2.out.blk.set 9 _) rfl rfl rfl rfl rfl rfl rfl HB2.out.now0 HB2.out.now1 HB2.out.next0 HB2.out.next1
  have k3 := HC2.out.set (p := ⟨g, 9, none⟩) (.inl rfl) (.bool true)
  obtain ⟨wc, HW⟩ : ∃ wc, Hid (wb.setCell ⟨g, 9, none⟩ (.bool true) = wc) := ⟨_, rfl⟩
  rw [HW.out] at b3 k3 ⊢
  clear HW c7 c9 f9
  have B3 := Lib.hid b3
  have K3 := Lib.hid k3
  clear b3 k3
  go_wp2_with fail
  refine (stop_any B3.out.blk).mono ?_
  rintro e w4 ⟨rfl, hb4⟩
  have B4 := Lib.hid (B3.out.below hb4)
  have K4 := Lib.hid (K3.out.then (Chg.of_below hb4 (fun i => i = g)) (fun i _ h => h))
  clear hb4
  unfold mc stopM
  simp only
  go_wp2
  go_ret
  exact told_one (cn k t) wb w4 stopM K4.out B4.out _ rfl

/-! Arrive -/
theorem arrive_no (h : Cl w B g k pl tl) (t : Int) (m : M) (hn : k.en ≠ 0 ∨ m.stream ≠ 3 ∨ (m.kind ≠ 4 ∧ m.kind ≠ 5)) :
    Calls Try.prog 10 #[.pointer (some ⟨g, 0, none⟩), .int .i64 t, .agg (mc m)] w (ClS.Told w B g (at_ k t) pl tl (fun _ ms => ms = [])) := by
  have HC := Lib.hid (h.alloc (.cells (mc m) 39))
  have HMB := Lib.hid (Blk.new w (mc m) 39)
  have HK := Lib.hid ((Chg.refl (fun i => i = g) w).alloc (.cells (mc m) 39))
  have he := h.ev0
  have hg := h.blk.lt
  clear h
  obtain ⟨kind, stream, session, attempt, inc, n, count, why, js, ja, jn, jc, jm, la, ln, lc⟩ := m
  obtain ⟨Z, HZ⟩ : ∃ Z, Hid (w.alloc (.cells (mc ⟨kind, stream, session, attempt, inc, n, count, why, js, ja, jn, jc, jm, la, ln, lc⟩) 39) = Z) := ⟨_, rfl⟩
  have HZ' := HZ.out
  rw [HZ.out] at HC HMB HK
  unfold mc at HZ' ⊢
  simp only at hn HZ' ⊢
  clear HZ
  go_enter Try.func10, Try.ntmps10
  go_wp2_with fail
  clear HZ'
  refine (ok_any HC.out.blk (by omega)).mono ?_
  rintro e wa ⟨rfl, nd, rfl⟩
  go_wp2_with fail
  refine (ClV.later (HC.out.drewN nd) t).mono ?_
  rintro e wb ⟨rfl, hb2, hc2⟩
  have HB2 := Lib.hid hb2
  have HC2 := Lib.hid ((HK.out.drewN nd).then hc2 (fun i _ h => h))
  have hgm : Blk wb w.heap.size 39 _ := hc2.blk (HMB.out.drewN nd) (by show ¬ w.heap.size = g; omega)
  obtain ⟨en, H1⟩ : ∃ n, Hid (k.en = n) := ⟨_, rfl⟩
  rw [H1.out] at hn
  have c7 : wb.cell? ⟨g, 7, none⟩ = some (.int .i64 en) := by rw [← H1.out]; exact hb2.blk.cell 7 rfl
  have c0 : wb.cell? ⟨g, 0, none⟩ = some (.int .u64 3) := hb2.blk.cell 0 rfl
  have m0 : wb.cell? ⟨w.heap.size, 0, none⟩ = some (.int .i64 kind) := hgm.cell 0 rfl
  have m1 : wb.cell? ⟨w.heap.size, 1, none⟩ = some (.int .u64 stream) := hgm.cell 1 rfl
  clear hb2 hc2 hgm
  have FIN : Hid (∀ n, ClS.Told w B g (at_ k t) pl tl (fun _ ms => ms = []) (.returned (.slice none 0 0)) (wb.drewN n)) := fun n =>
    ⟨none, 0, [], rfl, Own.none_ _ _ _ _, rfl, HB2.out.drewN n, HC2.out.drewN n⟩
  by_cases h0 : en = 0
  · have h1 := hn.resolve_left (fun h => h h0)
    subst h0
    clear hn
    by_cases h2 : stream = 3
    · have h3 := h1.resolve_left (fun h => h h2)
      subst h2
      obtain ⟨h4, h5⟩ := h3
      have b4 : (kind == 4) = false := by simpa using h4
      have b5 : (kind == 5) = false := by simpa using h5
      clear h1 h4 h5
      go_upto_region 4 with (fail)
      go_big_quiet (fail)
      go_wp2
      go_ret
      exact FIN.out _
    · have hb : (stream != 3) = true := by simpa using h2
      clear h1 h2
      go_upto_region 4 with (fail)
      go_big_quiet (fail)
      go_wp2
      go_ret
      exact FIN.out _
  · have hb : (en != 0) = true := by simpa using h0
    clear hn h0
    go_upto_region 4 with (fail)
    go_big_quiet (fail)
    go_wp2
    go_ret
    exact FIN.out _
end
end Go.Proofs.Ytoghkikjgilpdaa.ClR
