/-
  Plain laws for ProbeEvery: what holds of a prober, of the last question's time and of the numbers that came; and a map of whole numbers to bools that the call made.
-/
import Derived.Test.YtandaanfdpedhaaPrL
import Derived.Maps.Own
import Derived.Maps.Views
set_option linter.unusedVariables false
namespace Go.Proofs.Ytandaanfdpedhaa.PrE
open Go.RowKit Go.Proofs.Ytandaanfdpedhaa.Kit Go.Proofs.Ytandaanfdpedhaa.PrP Go.Proofs.Ytandaanfdpedhaa.PrN Go.Proofs.Ytandaanfdpedhaa.PrL

structure Ev (ev wt ms ht : Int) (j k : Nat) (now last : Int) (S : Int → Bool) (p : Pb) : Prop where
  inv : Inv ms ht p
  few : p.asked ≤ (j : Int)
  n0 : 0 ≤ now
  n1 : now ≤ (k : Int) * 1048576
  pn : p.now ≤ now
  l0 : -1 ≤ last
  l1 : last ≤ now
  nx : 0 ≤ last → p.next = last + ev
  nz : last < 0 → p.ends < 0
  en : 0 ≤ p.ends → p.ends = last + wt ∧ S p.asked = false
  s : ∀ n, S n = true → n ≤ p.asked

section
variable {ev wt ms ht : Int} {j k : Nat} {now last : Int} {S : Int → Bool} {p : Pb}

theorem Ev.good (h : Ev ev wt ms ht j k now last S p) : PrL.Good wt ms ht (p.ends - wt) j p := ⟨h.inv, fun _ => by omega, h.few⟩
theorem Ev.time (h : Ev ev wt ms ht j k now last S p) {now' : Int} (h1 : now ≤ now') (h2 : now' ≤ now + 1048576) : Ev ev wt ms ht j (k + 1) now' last S p :=
  ⟨h.inv, h.few, by have := h.n0; omega, by have := h.n1; omega, by have := h.pn; omega, h.l0, by have := h.l1; omega, h.nx, h.nz, h.en, h.s⟩
theorem Ev.more (h : Ev ev wt ms ht j k now last S p) : Ev ev wt ms ht (j + 1) k now last S p :=
  ⟨h.inv, by have := h.few; omega, h.n0, h.n1, h.pn, h.l0, h.l1, h.nx, h.nz, h.en, h.s⟩

theorem Ev.later (h : Ev ev wt ms ht j k now last S p) (hM : May ev wt ms ht) (hk : k ≤ 1000) :
    Ev ev wt ms ht j k now last S (later ms p now) ∧ (later ms p now).now = now ∧ (later ms p now).next = p.next ∧ (0 ≤ (later ms p now).ends → now < (later ms p now).ends) := by
  obtain ⟨⟨e0, e1⟩, ⟨w0, w1⟩, ⟨m0, m1⟩, ⟨h0, h1⟩⟩ := hM
  have hi := h.inv.later m0 h0 now
  obtain ⟨hv, hf, n0, n1, pn, l0, l1, nx, nz, en, s⟩ := h
  have hnow : nowOf p.now now = now := nowOf_is _ _ pn (by omega)
  have ha := PrS.later_asked ms p now
  have he := PrS.later_ends ms p now
  have hx : (PrP.later ms p now).now = now ∧ (PrP.later ms p now).next = p.next ∧ (0 ≤ (PrP.later ms p now).ends → now < (PrP.later ms p now).ends) := by
    unfold PrP.later
    rw [hnow]
    split
    · unfold missed
      split <;> exact ⟨rfl, rfl, fun h => by simp at h⟩
    · rename_i hc
      exact ⟨rfl, rfl, fun h => by simp only at h ⊢; omega⟩
  obtain ⟨x1, x2, x3⟩ := hx
  exact ⟨⟨hi, by omega, n0, n1, by omega, l0, l1, fun h => by rw [x2]; exact nx h, fun h => by
    by_cases hh : 0 ≤ (PrP.later ms p now).ends
    · have := he hh; have := nz h; omega
    · omega,
    fun hh => by rw [he hh, ha]; exact en (by rw [← he hh]; exact hh), fun n hn => by rw [ha]; exact s n hn⟩, x1, x2, x3⟩

/-- A question is asked only behind Every, and has the next number. -/
theorem Ev.tick (h : Ev ev wt ms ht j k now last S p) (hM : May ev wt ms ht) (hk : k ≤ 1000) :
    (tkB ms p now = true → tkN ms p now = p.asked + 1 ∧ (0 ≤ last → ev ≤ now - last) ∧ Ev ev wt ms ht (j + 1) k now now S (tkP ev wt ms p now) ∧ (tkP ev wt ms p now).asked = p.asked + 1) ∧
    (tkB ms p now = false → tkN ms p now = 0 ∧ Ev ev wt ms ht (j + 1) k now last S (tkP ev wt ms p now) ∧ (tkP ev wt ms p now).asked = p.asked) := by
  obtain ⟨hl, x1, x2, x3⟩ := h.later hM hk
  have ha := PrS.later_asked ms p now
  unfold tkB tkN tkP
  by_cases hlt : (PrP.later ms p now).now < (PrP.later ms p now).next
  · simp only [if_pos hlt]
    exact ⟨fun h => by simp at h, fun _ => ⟨trivial, hl.more, ha⟩⟩
  · simp only [if_neg hlt]
    refine ⟨fun _ => ⟨trivial, fun h0 => ?_, ?_, by rw [ask_asked, ha]⟩, fun h => by simp at h⟩
    · have := h.nx h0
      omega
    · obtain ⟨⟨e0, e1⟩, ⟨w0, w1⟩, ⟨m0, m1⟩, ⟨h0, h1⟩⟩ := hM
      have hnext : (PrP.ask ev wt ms (PrP.later ms p now)).next = (PrP.later ms p now).now + ev := by unfold PrP.ask missed; (repeat' split) <;> rfl
      have hnow : (PrP.ask ev wt ms (PrP.later ms p now)).now = (PrP.later ms p now).now := by unfold PrP.ask missed; (repeat' split) <;> rfl
      have hf := hl.few
      have hn0 := hl.n0
      refine ⟨hl.inv.ask m0 h0 e0 e1 w0 w1, by rw [ask_asked]; omega, hl.n0, hl.n1, by rw [hnow]; omega, by omega, Int.le_refl _, fun _ => by rw [hnext, x1], fun h => by omega, fun _ => ⟨by rw [ask_ends, x1], ?_⟩, fun n hn => ?_⟩
      · rw [ask_asked]
        cases hs : S ((PrP.later ms p now).asked + 1)
        · rfl
        · have := hl.s _ hs
          omega
      · rw [ask_asked]
        have := hl.s n hn
        omega

/-- An answer is taken only if it is the open question's, in time, and for the first time. -/
theorem Ev.pong (h : Ev ev wt ms ht j k now last S p) (hM : May ev wt ms ht) (hk : k ≤ 1000) (n : Int) :
    (pgP ms ht p now n).asked = p.asked ∧
    (pgB ms p now n = true → S n = false ∧ n = p.asked ∧ now - last < wt ∧ Ev ev wt ms ht (j + 1) k now last (fun m => if n = m then true else S m) (pgP ms ht p now n)) ∧
    (pgB ms p now n = false → Ev ev wt ms ht (j + 1) k now last S (pgP ms ht p now n)) := by
  obtain ⟨hl, x1, x2, x3⟩ := h.later hM hk
  have ha := PrS.later_asked ms p now
  unfold pgB pgP
  by_cases hlt : 0 ≤ (PrP.later ms p now).ends ∧ n = (PrP.later ms p now).asked
  · rw [if_pos hlt, decide_eq_true hlt]
    obtain ⟨h1, h2⟩ := hlt
    have h3 := hl.en h1
    have h4 := x3 h1
    refine ⟨by rw [came_asked, ha], fun _ => ⟨by rw [h2]; exact h3.2, by omega, by omega, ?_⟩, fun h => by simp at h⟩
    have cn : (came ht (PrP.later ms p now)).now = (PrP.later ms p now).now := by unfold came; split <;> rfl
    have cx : (came ht (PrP.later ms p now)).next = (PrP.later ms p now).next := by unfold came; split <;> rfl
    have ce := came_ends ht (PrP.later ms p now)
    have ca := came_asked ht (PrP.later ms p now)
    have hf := hl.few
    refine ⟨hl.inv.came hM.2.2.1.1 hM.2.2.2.1, by omega, hl.n0, hl.n1, by have := hl.pn; omega, hl.l0, hl.l1, fun h => by have := hl.nx h; omega, fun _ => by omega, fun h => by omega, fun m hm => ?_⟩
    split at hm
    · omega
    · have := hl.s m hm
      omega
  · rw [if_neg hlt, decide_eq_false hlt]
    exact ⟨ha, fun h => by simp at h, fun _ => hl.more⟩
end

/-! A map of u64 to bool that the call made. -/
def MapS (w : World) (b n : Nat) (S : Int → Bool) : Prop :=
  ∃ D : DataW Unit, w.ownsMap Try.prog 32 (plainElem Try.prog 4) b n D ∧ Maps.IsMap D ∧ ∀ x, (Lit.int .u64 x).wf = true → D.atKey (.int .u64 x) (.lit (.bool false)) = .lit (.bool (S x))

theorem MapS.made (w : World) : MapS (w.alloc (.map #[] 0)) w.heap.size 0 (fun _ => false) := ⟨.map [], World.ownsMap_made w _ _ _, Maps.isMap_empty, fun x _ => rfl⟩
theorem MapS.lt {w : World} {b n : Nat} {S : Int → Bool} (h : MapS w b n S) : b < w.heap.size := by obtain ⟨D, h, _⟩ := h; exact h.lt
theorem MapS.chg {w w' : World} {b n : Nat} {S : Int → Bool} (h : MapS w b n S) {T : Nat → Prop} (hc : Chg T w w') (hb : ¬ T b) : MapS w' b n S := by
  have hlt := h.lt
  obtain ⟨D, ⟨es, clock, hbl, F, hs, hD⟩, hv⟩ := h
  exact ⟨D, ⟨es, clock, (hc.block b hlt hb).trans hbl, F, hs, hD⟩, hv⟩
theorem MapS.mono {w : World} {b n m : Nat} {S : Int → Bool} (h : MapS w b n S) (hm : n ≤ m) : MapS w b m S := by obtain ⟨D, h, hv⟩ := h; exact ⟨D, h.mono hm, hv⟩
theorem MapS.look {w : World} {b n : Nat} {S : Int → Bool} (h : MapS w b n S) {x : Int} (hx : (Lit.int .u64 x).wf = true) :
    (Instr.lookup 33 (.map (some b)) (.int .u64 x) false).run Try.prog w = .ok (.bool (S x)) w := by
  obtain ⟨D, h, hm, hv⟩ := h
  have h1 := h.lookup (t := 33) (e := 4) (z := .bool false) (zd := .lit (.bool false)) (zp := []) (Maps.int_keyed Try.underlying32) Try.underlying33 (by simp [go_sem]) (plainElem_bool Try.underlying4 false) (Maps.keyOf_int_mk Try.underlying32 hx)
  obtain ⟨v, ps, hrun, hr⟩ := h1
  rw [hv x hx] at hr
  have hz := hr
  unfold plainElem at hz
  rw [Try.underlying4] at hz
  cases v <;> simp at hz
  obtain ⟨rfl, _⟩ := hz
  exact hrun
theorem MapS.store {w : World} {b n : Nat} {S : Int → Bool} (h : MapS w b n S) {x : Int} (hx : (Lit.int .u64 x).wf = true) (hn : n < maxLen) :
    ∃ w', (Instr.mapUpdate 33 (.map (some b)) (.int .u64 x) (.bool true)).run Try.prog w = .ok () w' ∧ MapS w' b (n + 1) (fun m => if x = m then true else S m) ∧ Chg (fun k => k = b) w w' := by
  obtain ⟨D, h, hm, hv⟩ := h
  obtain ⟨w', h1, h2, h3⟩ := h.update (t := 33) (e := 4) (Maps.int_keyed Try.underlying32) Try.underlying33 hn (Maps.keyOf_int_mk Try.underlying32 hx) (plainElem_bool Try.underlying4 true)
  refine ⟨w', h1, ⟨_, h2, hm.put _ _, fun y hy => ?_⟩, Chg.of_grown h3 (fun k hk => by injection hk with hk; exact .inl hk.symm)⟩
  by_cases hxy : x = y
  · subst hxy
    show _ = DataW.lit (Lit.bool (if x = x then true else S x))
    rw [if_pos rfl]
    exact Maps.atKey_put_same (k := .int .u64 x) hm trivial _ _
  · show _ = DataW.lit (Lit.bool (if x = y then true else S y))
    rw [if_neg hxy, Maps.atKey_put_other (by intro h; injection h with _ h; exact hxy h.symm)]
    exact hv y hy
end Go.Proofs.Ytandaanfdpedhaa.PrE
