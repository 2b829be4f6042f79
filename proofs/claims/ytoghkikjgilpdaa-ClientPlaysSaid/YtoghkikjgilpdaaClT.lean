/-
  Walks over the client: take.
-/
import Derived.Test.YtoghkikjgilpdaaClU
import Derived.Deep.RegionLaw
namespace Go.Proofs.Ytoghkikjgilpdaa.ClT
open Go.RowKit Go.Proofs.Ytoghkikjgilpdaa.Kit Go.Proofs.Ytoghkikjgilpdaa.ClW Go.Proofs.Ytoghkikjgilpdaa.ClV
attribute [local go_sem high] max_imax min_imin
set_option linter.unusedVariables false

section
variable {B g : Nat} {k : Ck} {pl tl ll : List Int} {w w' : World} {m : M}

theorem take_no (h : Cl w B g k pl tl) (hn : (k.tn : Int) < m.n ∨ (0 ≤ m.n ∧ m.n ≤ k.tn ∧ (m.ln : Int) ≤ k.tn - m.n)) (hl : m.ln ≤ 9223372036854775807) :
    Calls Try.prog 28 #[.pointer (some ⟨g, 0, none⟩), .agg (mc m)] w fun e w' => e = .returned (.tuple #[]) ∧ Below w.heap.size w w' := by
  have HC := Lib.hid h
  have hf := h.few
  clear h
  obtain ⟨kind, stream, session, attempt, inc, n, count, why, js, ja, jn, jc, jm, la, ln, lc⟩ := m
  simp only at hn hl
  obtain ⟨ta, H1⟩ : ∃ n, Hid (k.ta = n) := ⟨_, rfl⟩
  obtain ⟨tn, H2⟩ : ∃ n, Hid (k.tn = n) := ⟨_, rfl⟩
  obtain ⟨tc, H3⟩ : ∃ n, Hid (k.tc = n) := ⟨_, rfl⟩
  rw [H2.out] at hf hn
  have c6 : w.cell? ⟨g, 6, none⟩ = some (.slice ta tn tc) := by rw [← H1.out, ← H2.out, ← H3.out]; exact HC.out.blk.cell 6 rfl
  have hg := HC.out.blk.lt
  unfold mc
  simp only
  rcases hn with hn | ⟨hn0, hn1, hn2⟩
  · go_enter Try.func28, Try.ntmps28
    go_wp2
    exact bodyPost_ret (v := .tuple #[]) (by simp [results, Try.results28, go_sem]) rfl ⟨rfl, (Below.refl _ w).alloc (Nat.le_refl _) _⟩
  · go_enter Try.func28, Try.ntmps28
    go_wp2
    exact bodyPost_ret (v := .tuple #[]) (by simp [results, Try.results28, go_sem]) rfl ⟨rfl, (Below.refl _ w).alloc (Nat.le_refl _) _⟩

def Taken (w : World) (B g : Nat) (k : Ck) (pl tl : List Int) (e : Ending) (w' : World) : Prop :=
  ∃ ta tn tc, e = .returned (.tuple #[]) ∧ tn = tl.length ∧ Cl w' B g { k with ta := ta, tn := tn, tc := tc } pl tl ∧ Chg (fun i => i = g ∨ ob k.ta = some i) w w' ∧ (ob ta = ob k.ta ∨ ∃ x, ob ta = some x ∧ w.heap.size ≤ x)
set_option maxHeartbeats 2000000 in
theorem take_yes (h : Cl w B g k pl tl) {mn : Nat} (hmn : m.n = mn) (hn : mn ≤ k.tn) (hn2 : k.tn - mn < m.ln) (hr : Rd w 1 m.la m.ln m.lc (ints ll)) (hl : m.ln ≤ 549755813888) (ht : k.tn ≤ 549755813888) :
    Calls Try.prog 28 #[.pointer (some ⟨g, 0, none⟩), .agg (mc m)] w (Taken w B g k pl (tl ++ ll.drop (k.tn - mn))) := by
  have HC := Lib.hid h
  have HR := Lib.hid hr
  clear h hr
  obtain ⟨kind, stream, session, attempt, inc, n, count, why, js, ja, jn, jc, jm, la, ln, lc⟩ := m
  simp only at hn hn2 hl hmn HR
  subst hmn
  obtain ⟨ta, H1⟩ : ∃ n, Hid (k.ta = n) := ⟨_, rfl⟩
  obtain ⟨tn, H2⟩ : ∃ n, Hid (k.tn = n) := ⟨_, rfl⟩
  obtain ⟨tc, H3⟩ : ∃ n, Hid (k.tc = n) := ⟨_, rfl⟩
  rw [H2.out] at hn hn2 ht ⊢
  have hg := HC.out.blk.lt
  unfold mc
  simp only
  have kb := HC.out.blk.alloc (.cells #[.int .i64 kind, .int .u64 stream, .int .u64 session, .int .u64 attempt, .int .u64 inc, .int .u64 mn, .int .u64 count, .int .i64 why, .int .u64 js, .slice ja jn jc, .int .i64 jm, .slice la ln lc] 39)
  have mb := Blk.new w #[.int .i64 kind, .int .u64 stream, .int .u64 session, .int .u64 attempt, .int .u64 inc, .int .u64 mn, .int .u64 count, .int .i64 why, .int .u64 js, .slice ja jn jc, .int .i64 jm, .slice la ln lc] 39
  have hc := (Chg.refl (fun _ => False) w).alloc (.cells #[.int .i64 kind, .int .u64 stream, .int .u64 session, .int .u64 attempt, .int .u64 inc, .int .u64 mn, .int .u64 count, .int .i64 why, .int .u64 js, .slice ja jn jc, .int .i64 jm, .slice la ln lc] 39)
  obtain ⟨Z, HZ⟩ : ∃ Z, Hid (w.alloc (.cells #[.int .i64 kind, .int .u64 stream, .int .u64 session, .int .u64 attempt, .int .u64 inc, .int .u64 mn, .int .u64 count, .int .i64 why, .int .u64 js, .slice ja jn jc, .int .i64 jm, .slice la ln lc] 39) = Z) := ⟨_, rfl⟩
  rw [HZ.out] at kb mb hc
  go_enter Try.func28, Try.ntmps28
  go_upto_region 1 with (fail)
  rw [HZ.out]
  clear HZ
  have c6 : Z.cell? ⟨g, 6, none⟩ = some (.slice ta tn tc) := by rw [← H1.out, ← H2.out, ← H3.out]; exact kb.cell 6 rfl
  have f6 := kb.frozen 6
  have q5 : Z.cell? ⟨w.heap.size, 5, none⟩ = some (.int .u64 mn) := mb.cell 5 rfl
  have q11 : Z.cell? ⟨w.heap.size, 11, none⟩ = some (.slice la ln lc) := mb.cell 11 rfl
  have HC2 := Lib.hid (HC.out.chg hc id (fun _ _ => id) (fun _ _ => id))
  have HR2 := Lib.hid (HR.out.chg hc (fun _ _ _ => id))
  have HZ := Lib.hid hc
  clear kb mb hc
  have i0 : (0 : Int) ≤ (tn : Int) - mn := by omega
  have i1 : (tn : Int) - mn < ln := by omega
  go_upto_region 3 with (fail)
  obtain ⟨d, HD⟩ : ∃ d, Hid (tn - mn = d) := ⟨_, rfl⟩
  have s1 : IntKind.u64.wrap ((tn : Int) - mn) = (d : Int) := by rw [← HD.out, IntWalk.u64_in _ (by omega)]; omega
  have d0 : (d : Int) ≤ ln := by have := HD.out; omega
  have HO : Hid (Own Z B 3 1 ta tn tc (ints tl)) := by
    have := HC2.out.toks
    rw [H1.out, H2.out, H3.out] at this
    exact this
  have hd1 : d ≤ ln := by omega
  have hr3 := HR2.out.drop_ d hd1
  rw [Nat.mul_one] at hr3
  have HR3 := Lib.hid hr3
  clear hr3
  have HB := Lib.hid (show B ≤ Z.heap.size by have := HC2.out.base; have := HC2.out.blk.lt; omega)
  have h1n : ∀ u ∈ (ints ll).drop d, u.oneCell' = true := fun u hu => ints_one ll u (List.mem_of_mem_drop hu)
  have H1N := Lib.hid h1n
  have HN : Hid (tn + (ln - d) ≤ 17592186044416) := Lib.hid (by omega)
  clear h1n hd1 i0 i1
  have HT : Hid (ob ta ≠ some g) := by
    have := HC2.out.ne1
    rw [H1.out] at this
    exact this
  have hzs := HZ.out.size
  have HT2 : Hid (ob ta ≠ some w.heap.size) := fun h => by
    have := (HC.out.toks.lt w.heap.size (by rw [H1.out]; exact h)).2
    omega
  have hzl : w.heap.size < Z.heap.size := World.block_lt_of_cell? Z _ q5
  have FIN : Hid (∀ (a9 : Option Addr) (c9 : Nat) (w9 : World), Own w9 B 3 1 a9 (tn + (ln - d)) c9 (ints tl ++ (ints ll).drop d) → Z.drew.grownBy w9 (ob ta) → (ob a9 = ob ta ∨ ob a9 = some Z.drew.heap.size) →
      Taken w B g k pl (tl ++ ll.drop (tn - mn)) (.returned (.tuple #[])) (w9.setCell ⟨g, 6, none⟩ (.slice a9 (tn + (ln - d)) c9))) := by
    intro a9 c9 w9 ho hg9 ha
    have hc9 : Chg (fun x => ob ta = some x) Z w9 := ⟨hg9.os, hg9.tape, hg9.output, hg9.size, fun i hi hs => hg9.block i hi (fun e => hs e.symm)⟩
    have b9 : Blk w9 g 58 (cc k) := hc9.blk HC2.out.blk (fun e => HT.out e)
    have hset := (Chg.refl (fun x => x = g) w9).set (p := ⟨g, 6, none⟩) (.inl rfl) (.slice a9 (tn + (ln - d)) c9)
    have h1 := ho.ne b9 (by decide)
    have hlen := ho.form.1
    have hjb := HC2.out.job
    have hfar := HC2.out.far
    rw [H1.out] at hfar
    refine ⟨a9, tn + (ln - d), c9, rfl, ?_, ⟨b9.set 6 _, ?_, ?_, ?_, HC2.out.base, HC2.out.ev0, HC2.out.ev1, HC2.out.now0, HC2.out.now1, HC2.out.next0, HC2.out.next1, by show tn + (ln - d) ≤ 1099511627776; omega, HC2.out.jfew⟩, ?_, ?_⟩
    · rw [HD.out]
      simpa [ints] using hlen.symm
    · show Own _ B 3 1 a9 (tn + (ln - d)) c9 _
      have e : ints (tl ++ ll.drop (tn - mn)) = ints tl ++ (ints ll).drop d := by rw [HD.out]; simp [ints]
      rw [e]
      exact ho.chg hset (fun x hx e => h1 (by rw [hx, e]))
    · exact (hjb.chg hc9 (fun x hx e => hfar x hx e)).chg hset (fun x hx e => HC2.out.ne2 (by rw [hx, e]))
    · intro x hx
      show ob a9 ≠ some x
      rcases ha with ha | ha
      · rw [ha]; exact hfar x hx
      · rw [ha]
        intro e
        have := (hjb.lt x hx).2
        injection e with e
        have e2 : Z.heap.size = x := e
        omega
    · exact ((HZ.out.mono (T := fun i => i = g ∨ ob k.ta = some i) (fun _ _ h => h.elim)).then hc9 (fun i _ h => .inr (by rw [H1.out]; exact h))).then hset (fun i _ h => .inl h)
    · rcases ha with ha | ha
      · exact .inl (by rw [ha, H1.out])
      · exact .inr ⟨_, ha, HZ.out.size⟩
  clear HC2 HR2 HZ HD hl ht hn hn2
  go_region_law ((refine step_app ints22 (by omega) (by rfl) (.tmp 30) (.tmp 37) (by rfl) (by rfl) HO.out.drew (by rfl) HR3.out.drew H1N.out HN.out (by have := HN.out; omega) HB.out ?_; intro a9 c9 w9 ho9 hg9 ha9; have u6 := hg9.cell_far ⟨g, 6, none⟩ (by simp; omega) (by simp; exact fun h => HT.out h.symm); have v6 := hg9.frozen_far ⟨g, 6, none⟩ (by simp; omega) (by simp; exact fun h => HT.out h.symm); have HO9 := Lib.hid ho9; have HG9 := Lib.hid hg9; have HA9 := Lib.hid ha9; clear ho9 hg9 ha9))
  all_goals exact bodyPost_end (v := .tuple #[]) (by simp [results, Try.results28, go_sem]) rfl (FIN.out a9 c9 w9 HO9.out HG9.out HA9.out)
end
end Go.Proofs.Ytoghkikjgilpdaa.ClT
