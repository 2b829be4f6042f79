/-
  The client and the document's client, side by side: one call of each, and what they tell is the same.
-/
import Derived.Test.YtoghkikjgilpdaaClZ
namespace Go.Proofs.Ytoghkikjgilpdaa.ClH
open Go.RowKit Go.Proofs.Ytoghkikjgilpdaa.Kit Go.Proofs.Ytoghkikjgilpdaa.ClW Go.Proofs.Ytoghkikjgilpdaa.ClV Go.Proofs.Ytoghkikjgilpdaa.ClS Go.Proofs.Ytoghkikjgilpdaa.ClQ Go.Proofs.Ytoghkikjgilpdaa.ClX Go.Proofs.Ytoghkikjgilpdaa.ClY Go.Proofs.Ytoghkikjgilpdaa.ClZ
set_option linter.unusedVariables false

structure Pair (w : World) (B g gr : Nat) (c r : Ck) (pl tl : List Int) : Prop where
  cl : Cl w B g c pl tl
  cr : Cr w B gr r pl tl
  js : r.js = c.js
  jn : r.jn = c.jn
  jm : r.jm = c.jm
  ev : r.ev = c.ev
  en : r.en = c.en
  heard : r.heard = c.heard
  stopped : r.stopped = c.stopped
  now : r.now = c.now
  next : r.next = c.next
  ap1 : ∀ x, ob c.ta = some x → ob r.ta ≠ some x
  ap2 : ∀ x, ob c.ja = some x → ob r.ta ≠ some x

/-- Blocks of other types than those of a client and of whole numbers stay. -/
def Stay (w w' : World) : Prop := ∀ gm t cs, t ≠ 3 → t ≠ 58 → t ≠ 50 → Blk w gm t cs → Blk w' gm t cs

/-- The first call, then the document's, then told. -/
def Three (f2 : FuncId) (args2 : Array Value) (B g gr : Nat) (pl tl : List Int) (more : Nat) (w : World) (e : Ending) (w1 : World) : Prop :=
  ∃ a n c, e = .returned (.slice a n c) ∧ Stay w w1 ∧ Chg (fun i => B ≤ i) w w1 ∧ Calls Try.prog f2 args2 w1 (fun e2 w2 => ∃ b d, e2 = .returned (.slice b n d) ∧ Stay w w2 ∧ Calls Try.prog 17 #[.slice a n c, .slice b n d] w2 (fun e3 w3 =>
    e3 = .returned (.bool true) ∧ ∃ c' r' tl', Pair w3 B g gr c' r' pl tl' ∧ tl'.length ≤ tl.length + more ∧ Chg (fun i => B ≤ i) w w3 ∧ Stay w w3))

section
variable {w w' : World} {B g gr : Nat} {c r : Ck} {pl tl ll : List Int}

theorem stay_of {S : Nat → Prop} (hc : Chg S w w') (h : ∀ gm t cs, t ≠ 3 → t ≠ 58 → t ≠ 50 → Blk w gm t cs → ¬ S gm) : Stay w w' := fun gm t cs h3 h58 h50 hb => hc.blk hb (h gm t cs h3 h58 h50 hb)
theorem stay_trans {w1 w2 w3 : World} (h : Stay w1 w2) (k : Stay w2 w3) : Stay w1 w3 := fun gm t cs h3 h58 h50 hb => k gm t cs h3 h58 h50 (h gm t cs h3 h58 h50 hb)
theorem stay_below {w1 w2 : World} (h : Below w1.heap.size w1 w2) : Stay w1 w2 := fun gm t cs _ _ _ hb => (h.block gm hb.lt).trans hb
theorem Pair.below (h : Pair w B g gr c r pl tl) (hb : Below w.heap.size w w') : Pair w' B g gr c r pl tl :=
  ⟨h.cl.below hb, h.cr.below hb, h.js, h.jn, h.jm, h.ev, h.en, h.heard, h.stopped, h.now, h.next, h.ap1, h.ap2⟩
theorem Pair.drewN (h : Pair w B g gr c r pl tl) (n : Nat) : Pair (w.drewN n) B g gr c r pl tl :=
  ⟨h.cl.drewN n, h.cr.drewN n, h.js, h.jn, h.jm, h.ev, h.en, h.heard, h.stopped, h.now, h.next, h.ap1, h.ap2⟩
theorem Pair.alloc (h : Pair w B g gr c r pl tl) (o : Obj) : Pair (w.alloc o) B g gr c r pl tl :=
  ⟨h.cl.alloc o, h.cr.alloc o, h.js, h.jn, h.jm, h.ev, h.en, h.heard, h.stopped, h.now, h.next, h.ap1, h.ap2⟩
theorem Pair.ne (h : Pair w B g gr c r pl tl) : g ≠ gr := h.cl.blk.ne h.cr.blk (by decide)
/-- The client's own block turned: the document's stays. -/
theorem Pair.cr1 (h : Pair w B g gr c r pl tl) (hc : Chg (fun i => i = g) w w') : Cr w' B gr r pl tl :=
  h.cr.chg hc (fun e => h.ne e.symm) (fun x hx e => h.cr.toks.ne h.cl.blk (by decide) (by rw [hx]; exact congrArg some e)) (fun x hx e => by have := h.cl.base; have : x = g := e; omega)
theorem cl1 {k r : Ck} {tl' : List Int} (h : Cl w B g k pl tl) (hr : Cr w B gr r pl tl') (hc : Chg (fun i => i = gr) w w') : Cl w' B g k pl tl :=
  h.chg hc (fun e => h.blk.ne hr.blk (by decide) e) (fun x hx e => h.toks.ne hr.blk (by decide) (by rw [hx]; exact congrArg some e)) (fun x hx e => h.job.ne hr.blk (by decide) (by rw [hx]; exact congrArg some e))

theorem alike_got (w : World) (n : Int) : ClZ.Alike w (gotM n) (gotM n) := ⟨[], [], rfl, Rd.none_ w 1, Rd.none_ w 1, Rd.none_ w 1, Rd.none_ w 1⟩
theorem alike_stop (w : World) : ClZ.Alike w stopM stopM := ⟨[], [], rfl, Rd.none_ w 1, Rd.none_ w 1, Rd.none_ w 1, Rd.none_ w 1⟩

/-- Both lists of messages lie in memory, alike: told says so. -/
theorem told_end {ms1 ms2 : List M} {a b : Option Addr} {n d : Nat} (P : World → Prop) (h1 : Own w B 39 12 a ms1.length n (mcs ms1)) (h2 : Own w B 34 12 b ms2.length d (mcs ms2)) (hl : ms2.length = ms1.length) (hal : ∀ (k : Nat) m1 m2, ms1[k]? = some m1 → ms2[k]? = some m2 → ClZ.Alike w m1 m2)
    (hP : ∀ w3, Below w.heap.size w w3 → P w3) : Calls Try.prog 17 #[.slice a ms1.length n, .slice b ms2.length d] w (fun e3 w3 => e3 = .returned (.bool true) ∧ P w3) := by
  have r2 := h2.rd
  rw [hl] at r2 ⊢
  refine (told_yes h1.rd r2 rfl hl hal).mono ?_
  rintro e w3 ⟨rfl, hb⟩
  exact ⟨rfl, hP w3 hb⟩

theorem pair_tick (h : Pair w B g gr c r pl tl) (t : Int) : Calls Try.prog 16 #[.pointer (some ⟨g, 0, none⟩), .int .i64 t] w (Three 18 #[.pointer (some ⟨gr, 0, none⟩), .int .i64 t] B g gr pl tl 0 w) := by
  have hB : B ≤ w.heap.size := by have := h.cl.base; have := h.cl.blk.lt; omega
  by_cases hno : c.en ≠ 0 ∨ nowOf c.now t < c.next
  · refine (tick_no h.cl t hno).mono ?_
    rintro e w1 ⟨a, cc, ms, rfl, ho, rfl, h1, hc1⟩
    have hr1 := h.cr1 hc1
    refine ⟨a, _, cc, rfl, stay_of hc1 (fun gm t cs h3 h58 h50 hb e => hb.ne h.cl.blk h58 e), hc1.mono (fun i _ e => by have := h.cl.base; have : i = g := e; omega), ?_⟩
    refine (rtick_no hr1 t (by rw [h.en, h.now, h.next]; exact hno)).mono ?_
    rintro e w2 ⟨b, d, ms2, rfl, ho2, rfl, h2, hc2⟩
    have hcl2 := cl1 h1 hr1 hc2
    have hst2 : Stay w w2 := stay_trans (stay_of hc1 (fun gm t cs h3 h58 h50 hb e => hb.ne h.cl.blk h58 e)) (stay_of hc2 (fun gm t cs h3 h58 h50 hb e => hb.ne hr1.blk h50 e))
    have ho' : Own w2 w.heap.size 39 12 a 0 cc (mcs []) := ho.chg hc2 (fun x hx e => by have := (ho.lt x hx).1; have := h.cr.blk.lt; have : x = gr := e; omega)
    refine ⟨b, d, rfl, hst2, ?_⟩
    refine told_end (B := w.heap.size) (ms1 := []) (ms2 := []) _ ho' (ho2.lower hc1.size) rfl (fun k m1 m2 h => by simp at h) (fun w3 hb => ?_)
    refine ⟨at_ c t, at_ r t, tl, ⟨hcl2.below hb, h2.below hb, h.js, h.jn, h.jm, h.ev, h.en, h.heard, h.stopped, by show nowOf r.now t = nowOf c.now t; rw [h.now], h.next, h.ap1, h.ap2⟩, by omega, ?_⟩
    exact ⟨((hc1.mono (T := fun i => B ≤ i) (fun i _ e => by have := h.cl.base; have : i = g := e; omega)).then hc2 (fun i _ e => by have := h.cr.base; have : i = gr := e; omega)).then (Chg.of_below hb (fun _ => False)) (fun _ _ e => e.elim), stay_trans hst2 (stay_below hb)⟩
  · have h0 : c.en = 0 := by
      by_cases h : c.en = 0
      · exact h
      · exact absurd (.inl h) hno
    have hnx : c.next ≤ nowOf c.now t := by omega
    refine (tick_yes h.cl t h0 hnx).mono ?_
    rintro e w1 ⟨a, cc, ms, rfl, ho, ⟨m1, hf1, rfl⟩, h1, hc1⟩
    have hr1 := h.cr1 hc1
    refine ⟨a, _, cc, rfl, stay_of hc1 (fun gm t cs h3 h58 h50 hb e => hb.ne h.cl.blk h58 e), hc1.mono (fun i _ e => by have := h.cl.base; have : i = g := e; omega), ?_⟩
    refine (rtick_yes hr1 t (by rw [h.en]; exact h0) (by rw [h.now, h.next]; exact hnx)).mono ?_
    rintro e w2 ⟨b, d, ms2, rfl, ho2, ⟨m2, hf2, rfl⟩, h2, hc2⟩
    have hcl2 := cl1 h1 hr1 hc2
    have hst2 : Stay w w2 := stay_trans (stay_of hc1 (fun gm t cs h3 h58 h50 hb e => hb.ne h.cl.blk h58 e)) (stay_of hc2 (fun gm t cs h3 h58 h50 hb e => hb.ne hr1.blk h50 e))
    have ho' := ho.chg hc2 (fun x hx e => by have := (ho.lt x hx).1; have := h.cr.blk.lt; have : x = gr := e; omega)
    have hlen : (m2 :: (if r.stopped = true then [stopM] else [])).length = (m1 :: (if c.stopped = true then [stopM] else [])).length := by
      rw [h.stopped]
      split <;> rfl
    have hal1 : ClZ.Alike w2 m1 m2 := by
      rcases hf1 with ⟨hh, rfl⟩ | ⟨hh, pa, pc, rfl, hpo⟩
      · rcases hf2 with ⟨_, rfl⟩ | ⟨hh2, _⟩
        · rw [rtn h.cr, Cl.tn h.cl]
          exact alike_got _ _
        · rw [h.heard, hh] at hh2
          cases hh2
      · rcases hf2 with ⟨hh2, _⟩ | ⟨_, rfl⟩
        · rw [h.heard, hh] at hh2
          cases hh2
        · have hp2 := (hpo.chg hc2 (fun x hx e => by have := (hpo.lt x hx).1; have := h.cr.blk.lt; have : x = gr := e; omega)).rd
          have hj2 := h2.job
          refine ⟨pl, [], ?_, hp2, ?_, Rd.none_ _ _, Rd.none_ _ _⟩
          · unfold askM
            rw [h.js, h.jn, h.jm]
          · have : Rd w2 1 r.ja r.jn r.jc (ints pl) := hj2
            rw [h.jn] at this
            exact this
    have hfin := told_end (B := w.heap.size) (w := w2) (fun w3 => ∃ c' r' tl', Pair w3 B g gr c' r' pl tl' ∧ tl'.length ≤ tl.length + 0 ∧ Chg (fun i => B ≤ i) w w3 ∧ Stay w w3) ho' (ho2.lower hc1.size) hlen (fun k x1 x2 hx1 hx2 => by
      cases k with
      | zero =>
        simp at hx1 hx2
        subst hx1 hx2
        exact hal1
      | succ k =>
        rw [List.getElem?_cons_succ] at hx1 hx2
        rw [h.stopped] at hx2
        cases hst : c.stopped with
        | false => rw [hst] at hx1; simp at hx1
        | true =>
          rw [hst] at hx1 hx2
          cases k with
          | zero =>
            simp at hx1 hx2
            subst hx1 hx2
            exact alike_stop _
          | succ k => simp at hx1) (fun w3 hb => by
      refine ⟨tk c t, tk r t, tl, ⟨hcl2.below hb, h2.below hb, h.js, h.jn, h.jm, h.ev, h.en, h.heard, h.stopped, by show nowOf r.now t = nowOf c.now t; rw [h.now], by show nowOf r.now t + r.ev = nowOf c.now t + c.ev; rw [h.now, h.ev], h.ap1, h.ap2⟩, by omega, ?_⟩
      exact ⟨((hc1.mono (T := fun i => B ≤ i) (fun i _ e => by have := h.cl.base; have : i = g := e; omega)).then hc2 (fun i _ e => by have := h.cr.base; have : i = gr := e; omega)).then (Chg.of_below hb (fun _ => False)) (fun _ _ e => e.elim), stay_trans hst2 (stay_below hb)⟩)
    exact ⟨b, d, by rw [hlen], hst2, by rw [hlen] at hfin; exact hfin⟩

theorem pair_cancel (h : Pair w B g gr c r pl tl) (t : Int) : Calls Try.prog 19 #[.pointer (some ⟨g, 0, none⟩), .int .i64 t] w (Three 20 #[.pointer (some ⟨gr, 0, none⟩), .int .i64 t] B g gr pl tl 0 w) := by
  have hB : B ≤ w.heap.size := by have := h.cl.base; have := h.cl.blk.lt; omega
  by_cases hno : c.en ≠ 0 ∨ c.stopped = true
  · refine (ClR.cancel_no h.cl t hno).mono ?_
    rintro e w1 ⟨a, cc, ms, rfl, ho, rfl, h1, hc1⟩
    have hr1 := h.cr1 hc1
    refine ⟨a, _, cc, rfl, stay_of hc1 (fun gm t cs h3 h58 h50 hb e => hb.ne h.cl.blk h58 e), hc1.mono (fun i _ e => by have := h.cl.base; have : i = g := e; omega), ?_⟩
    refine (rcancel_no hr1 t (by rw [h.en, h.stopped]; exact hno)).mono ?_
    rintro e w2 ⟨b, d, ms2, rfl, ho2, rfl, h2, hc2⟩
    have hcl2 := cl1 h1 hr1 hc2
    have hst2 : Stay w w2 := stay_trans (stay_of hc1 (fun gm t cs h3 h58 h50 hb e => hb.ne h.cl.blk h58 e)) (stay_of hc2 (fun gm t cs h3 h58 h50 hb e => hb.ne hr1.blk h50 e))
    have ho' : Own w2 w.heap.size 39 12 a 0 cc (mcs []) := ho.chg hc2 (fun x hx e => by have := (ho.lt x hx).1; have := h.cr.blk.lt; have : x = gr := e; omega)
    refine ⟨b, d, rfl, hst2, ?_⟩
    refine told_end (B := w.heap.size) (ms1 := []) (ms2 := []) _ ho' (ho2.lower hc1.size) rfl (fun k m1 m2 h => by simp at h) (fun w3 hb => ?_)
    refine ⟨at_ c t, at_ r t, tl, ⟨hcl2.below hb, h2.below hb, h.js, h.jn, h.jm, h.ev, h.en, h.heard, h.stopped, by show nowOf r.now t = nowOf c.now t; rw [h.now], h.next, h.ap1, h.ap2⟩, by omega, ?_⟩
    exact ⟨((hc1.mono (T := fun i => B ≤ i) (fun i _ e => by have := h.cl.base; have : i = g := e; omega)).then hc2 (fun i _ e => by have := h.cr.base; have : i = gr := e; omega)).then (Chg.of_below hb (fun _ => False)) (fun _ _ e => e.elim), stay_trans hst2 (stay_below hb)⟩
  · have h0 : c.en = 0 := by
      by_cases h : c.en = 0
      · exact h
      · exact absurd (.inl h) hno
    have hst : c.stopped = false := by
      cases hs : c.stopped
      · rfl
      · exact absurd (.inr hs) hno
    refine (ClR.cancel_yes h.cl t h0 hst).mono ?_
    rintro e w1 ⟨a, cc, ms, rfl, ho, rfl, h1, hc1⟩
    have hr1 := h.cr1 hc1
    refine ⟨a, _, cc, rfl, stay_of hc1 (fun gm t cs h3 h58 h50 hb e => hb.ne h.cl.blk h58 e), hc1.mono (fun i _ e => by have := h.cl.base; have : i = g := e; omega), ?_⟩
    refine (rcancel_yes hr1 t (by rw [h.en]; exact h0) (by rw [h.stopped]; exact hst)).mono ?_
    rintro e w2 ⟨b, d, ms2, rfl, ho2, rfl, h2, hc2⟩
    have hcl2 := cl1 h1 hr1 hc2
    have hst2 : Stay w w2 := stay_trans (stay_of hc1 (fun gm t cs h3 h58 h50 hb e => hb.ne h.cl.blk h58 e)) (stay_of hc2 (fun gm t cs h3 h58 h50 hb e => hb.ne hr1.blk h50 e))
    have ho' := ho.chg hc2 (fun x hx e => by have := (ho.lt x hx).1; have := h.cr.blk.lt; have : x = gr := e; omega)
    refine ⟨b, d, rfl, hst2, ?_⟩
    refine told_end (B := w.heap.size) (ms1 := [stopM]) (ms2 := [stopM]) _ ho' (ho2.lower hc1.size) rfl (fun k m1 m2 hx1 hx2 => by
      cases k with
      | zero =>
        simp at hx1 hx2
        subst hx1 hx2
        exact alike_stop _
      | succ k => simp at hx1) (fun w3 hb => ?_)
    refine ⟨ClR.cn c t, ClR.cn r t, tl, ⟨hcl2.below hb, h2.below hb, h.js, h.jn, h.jm, h.ev, h.en, h.heard, rfl, by show nowOf r.now t = nowOf c.now t; rw [h.now], h.next, h.ap1, h.ap2⟩, by omega, ?_⟩
    exact ⟨((hc1.mono (T := fun i => B ≤ i) (fun i _ e => by have := h.cl.base; have : i = g := e; omega)).then hc2 (fun i _ e => by have := h.cr.base; have : i = gr := e; omega)).then (Chg.of_below hb (fun _ => False)) (fun _ _ e => e.elim), stay_trans hst2 (stay_below hb)⟩

/-- One message each, in a block of its own: told. -/
theorem told_one_each {w1 w2 : World} {gm gm2 : Nat} {n : Int} (P : World → Prop) (hb1 : Blk w2 gm 39 (mc (gotM n))) (hb2 : Blk w2 gm2 34 (mc (gotM n))) (hP : ∀ w3, Below w2.heap.size w2 w3 → P w3) :
    Calls Try.prog 17 #[.slice (some ⟨gm, 0, none⟩) 1 1, .slice (some ⟨gm2, 0, none⟩) 1 1] w2 (fun e3 w3 => e3 = .returned (.bool true) ∧ P w3) := by
  have o1 := own_of_blk (B := 0) (size := 12) (n := 1) hb1 (Nat.zero_le _) (by unfold maxLen; omega) rfl
  have o2 := own_of_blk (B := 0) (size := 12) (n := 1) hb2 (Nat.zero_le _) (by unfold maxLen; omega) rfl
  have e1 : (mc (gotM n)).toList = mcs [gotM n] := by simp [mcs]
  rw [e1] at o1 o2
  exact told_end (B := 0) (ms1 := [gotM n]) (ms2 := [gotM n]) P o1 o2 rfl (fun k m1 m2 hx1 hx2 => by
    cases k with
    | zero =>
      simp at hx1 hx2
      subst hx1 hx2
      exact alike_got _ _
    | succ k => simp at hx1) hP

theorem pair_arrive (h : Pair w B g gr c r pl tl) (t : Int) (m : M) (hn : 0 ≤ m.n) (hr : Rd w 1 m.la m.ln m.lc (ints ll)) (hfar : 0 < m.ln → ∀ x, ob m.la = some x → x < B) (hl : m.ln ≤ 549755813888) (ht : tl.length ≤ 549755813888) :
    Calls Try.prog 10 #[.pointer (some ⟨g, 0, none⟩), .int .i64 t, .agg (mc m)] w (Three 21 #[.pointer (some ⟨gr, 0, none⟩), .int .i64 t, .agg (mc m)] B g gr pl tl ll.length w) := by
  have hB : B ≤ w.heap.size := by have := h.cl.base; have := h.cl.blk.lt; omega
  have hg1 := h.cl.base
  have hg2 := h.cr.base
  have hg3 := h.cl.blk.lt
  have hg4 := h.cr.blk.lt
  have hctn : c.tn ≤ 549755813888 := by have := Cl.tn h.cl; omega
  have hrtn : r.tn ≤ 549755813888 := by have := rtn h.cr; omega
  by_cases hno : c.en ≠ 0 ∨ m.stream ≠ 3 ∨ (m.kind ≠ 4 ∧ m.kind ≠ 5)
  · refine (ClR.arrive_no h.cl t m hno).mono ?_
    rintro e w1 ⟨a, cc, ms, rfl, ho, rfl, h1, hc1⟩
    have hr1 := h.cr1 hc1
    refine ⟨a, _, cc, rfl, stay_of hc1 (fun gm t cs h3 h58 h50 hb e => hb.ne h.cl.blk h58 e), hc1.mono (fun i _ e => by have := h.cl.base; have : i = g := e; omega), ?_⟩
    refine (rarrive_no hr1 t m (by rw [h.en]; exact hno)).mono ?_
    rintro e w2 ⟨b, d, ms2, rfl, ho2, rfl, h2, hc2⟩
    have hcl2 := cl1 h1 hr1 hc2
    have hst2 : Stay w w2 := stay_trans (stay_of hc1 (fun gm t cs h3 h58 h50 hb e => hb.ne h.cl.blk h58 e)) (stay_of hc2 (fun gm t cs h3 h58 h50 hb e => hb.ne hr1.blk h50 e))
    have ho' : Own w2 w.heap.size 39 12 a 0 cc (mcs []) := ho.chg hc2 (fun x hx e => by have := (ho.lt x hx).1; have : x = gr := e; omega)
    refine ⟨b, d, rfl, hst2, ?_⟩
    refine told_end (B := w.heap.size) (ms1 := []) (ms2 := []) _ ho' (ho2.lower hc1.size) rfl (fun k m1 m2 h => by simp at h) (fun w3 hb => ?_)
    refine ⟨at_ c t, at_ r t, tl, ⟨hcl2.below hb, h2.below hb, h.js, h.jn, h.jm, h.ev, h.en, h.heard, h.stopped, by show nowOf r.now t = nowOf c.now t; rw [h.now], h.next, h.ap1, h.ap2⟩, by omega, ?_⟩
    exact ⟨((hc1.mono (T := fun i => B ≤ i) (fun i _ e => by have : i = g := e; omega)).then hc2 (fun i _ e => by have : i = gr := e; omega)).then (Chg.of_below hb (fun _ => False)) (fun _ _ e => e.elim), stay_trans hst2 (stay_below hb)⟩
  · have h0 : c.en = 0 := by
      by_cases h : c.en = 0
      · exact h
      · exact absurd (.inl h) hno
    have hs : m.stream = 3 := by
      by_cases h : m.stream = 3
      · exact h
      · exact absurd (.inr (.inl h)) hno
    have key : ∀ (tl' : List Int) (E : Int), tl'.length ≤ tl.length + ll.length →
        Calls Try.prog 10 #[.pointer (some ⟨g, 0, none⟩), .int .i64 t, .agg (mc m)] w (Arrived w B g c t pl tl' E) →
        (∀ w1, Chg (fun i => i = g ∨ ob c.ta = some i) w w1 → Cr w1 B gr r pl tl → Calls Try.prog 21 #[.pointer (some ⟨gr, 0, none⟩), .int .i64 t, .agg (mc m)] w1 (RArrived w1 B gr r t pl tl' E)) →
        Calls Try.prog 10 #[.pointer (some ⟨g, 0, none⟩), .int .i64 t, .agg (mc m)] w (Three 21 #[.pointer (some ⟨gr, 0, none⟩), .int .i64 t, .agg (mc m)] B g gr pl tl ll.length w) := by
      intro tl' E hlen hA hR
      refine hA.mono ?_
      rintro e w1 ⟨ta, tn, tc, gm, rfl, htn, hgm, hbm, h1, hc1, ha1⟩
      have hct : ∀ i, ob c.ta = some i → B ≤ i ∧ i < w.heap.size := h.cl.toks.lt
      have hcB : ∀ i, (i = g ∨ ob c.ta = some i) → B ≤ i := fun i e => e.elim (fun e => by omega) (fun e => (hct i e).1)
      have hr1 : Cr w1 B gr r pl tl := h.cr.chg hc1 (fun e => e.elim (fun e => h.ne e.symm) (fun e => h.cl.toks.ne h.cr.blk (by decide) e)) (fun x hx e => e.elim (fun e => h.cr.toks.ne h.cl.blk (by decide) (by rw [hx, e])) (fun e => h.ap1 x e hx)) (fun x hx e => by have := hcB x e; omega)
      refine ⟨_, 1, 1, rfl, stay_of hc1 (fun gm t cs h3 h58 h50 hb e => e.elim (fun e => hb.ne h.cl.blk h58 e) (fun e => h.cl.toks.ne hb (fun q => h3 q.symm) e)), hc1.mono (fun i _ e => hcB i e), ?_⟩
      refine (hR w1 hc1 hr1).mono ?_
      rintro e w2 ⟨ta2, tn2, tc2, gm2, rfl, htn2, hgm2, hbm2, h2, hc2, ha2⟩
      have hcl2 := cl1 h1 hr1 hc2
      have hst2 : Stay w w2 := stay_trans (stay_of hc1 (fun gm t cs h3 h58 h50 hb e => e.elim (fun e => hb.ne h.cl.blk h58 e) (fun e => h.cl.toks.ne hb (fun q => h3 q.symm) e))) (stay_of hc2 (fun gm t cs h3 h58 h50 hb e => hb.ne hr1.blk h50 e))
      have hbm' : Blk w2 gm 39 (mc (gotM tn)) := hc2.blk hbm (fun e => by have : gm = gr := e; omega)
      rw [htn] at hbm'
      rw [htn2] at hbm2
      refine ⟨_, 1, rfl, hst2, told_one_each (w1 := w1) _ hbm' hbm2 (fun w3 hb => ?_)⟩
      refine ⟨_, _, tl', ⟨hcl2.below hb, h2.below hb, h.js, h.jn, h.jm, h.ev, rfl, rfl, h.stopped, by show nowOf r.now t = nowOf c.now t; rw [h.now], h.next, fun x hx hy => ?_, fun x hx hy => ?_⟩, hlen, ?_⟩
      · have q1 : ob ta = some x := hx
        have q2 : ob ta2 = some x := hy
        have l1 := (h1.toks.lt x q1).2
        have l2 := hc1.size
        rcases ha2 x q2 with q3 | q3
        · have l3 := (h.cr.toks.lt x q3).2
          rcases ha1 with ha1 | ⟨y, ha1, hy1⟩
          · exact h.ap1 x (by rw [← ha1]; exact q1) q3
          · rw [q1] at ha1
            injection ha1 with ha1
            omega
        · omega
      · have q1 : ob c.ja = some x := hx
        have q2 : ob ta2 = some x := hy
        have l1 := (h.cl.job.lt x q1).2
        have l2 := hc1.size
        rcases ha2 x q2 with q3 | q3
        · exact h.ap2 x q1 q3
        · omega
      · exact ⟨((hc1.mono (T := fun i => B ≤ i) (fun i _ e => hcB i e)).then hc2 (fun i _ e => by have : i = gr := e; omega)).then (Chg.of_below hb (fun _ => False)) (fun _ _ e => e.elim), stay_trans hst2 (stay_below hb)⟩
    by_cases h4 : m.kind = 4
    · refine key (takeN tl ll m.n) c.en ?_ (arrive_tok h.cl t m h0 hs h4 hn hr (fun h0 x hx e => by have := hfar h0 x hx; omega) hl hctn) (fun w1 hc1 hr1 => ?_)
      · unfold takeN
        split
        · simp
        · omega
      · have := rarrive_tok hr1 t m (by rw [h.en]; exact h0) hs h4 hn (hr.chg hc1 (fun hm x hx e => e.elim (fun e => by have := hfar hm x hx; omega) (fun e => by have := hfar hm x hx; have := (h.cl.toks.lt x e).1; omega))) (fun h0 x hx e => by have := hfar h0 x hx; omega) hl hrtn
        rw [h.en] at this
        exact this
    · have h5 : m.kind = 5 := by
        by_cases h : m.kind = 5
        · exact h
        · exact absurd (.inr (.inr ⟨h4, h⟩)) hno
      refine key tl (if m.n = c.tn then m.why else c.en) (by omega) (arrive_end h.cl t m h0 hs h5) (fun w1 hc1 hr1 => ?_)
      have := rarrive_end hr1 t m (by rw [h.en]; exact h0) hs h5
      rw [h.en, rtn h.cr, ← Cl.tn h.cl] at this
      exact this
end
end Go.Proofs.Ytoghkikjgilpdaa.ClH
