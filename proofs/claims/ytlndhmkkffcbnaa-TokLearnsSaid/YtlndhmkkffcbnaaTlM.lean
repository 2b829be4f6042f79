/-
  A map of pairs to numbers whose keys are known; one more under a key (m[k]++).
-/
import Derived.Test.YtlndhmkkffcbnaaTlP
import Derived.WideKeyEntry
import Derived.Maps.Range
namespace Go.Proofs.Ytlndhmkkffcbnaa.TlM
open Go.ChangeMaps Go.RowKit Go.Proofs.Ytlndhmkkffcbnaa.Kit Go.Proofs.Ytlndhmkkffcbnaa.TkM Go.Proofs.Ytlndhmkkffcbnaa.TkP Go.Proofs.Ytlndhmkkffcbnaa.TkQ Go.Proofs.Ytlndhmkkffcbnaa.TlP
set_option linter.unusedVariables false
/-- Block b is a map of at most n entries that tells f of each pair; its keys are pairs of G. -/
def MapQ (G : Pr → Prop) (w : World) (b n : Nat) (f : Pr → Int) : Prop :=
  ∃ D : DataW Unit, w.ownsMap Try.prog 54 iR b n D ∧ Maps.IsMap D ∧ (∀ p, okP p → D.atKey (K p) (.lit (.int .i64 0)) = .lit (.int .i64 (f p))) ∧ ∀ kl, Maps.has D kl = true → ∃ p, okP p ∧ G p ∧ kl = K p
theorem law54 : WideMaps.KeyLaw Try.prog 54 := deep_law_laid (by kernel_rfl : laidOutB Try.prog = true) (m := 2) (by omega) (of_decide_eq_true (by kernel_rfl)) (by kernel_rfl) (by rw [Try.underlying54])
section
variable {G : Pr → Prop} {w w' : World} {b n : Nat} {f : Pr → Int}
theorem MapQ.p (h : MapQ G w b n f) : MapP w b n f := by obtain ⟨D, h1, h2, h3, _⟩ := h; exact ⟨D, h1, h2, h3⟩
theorem MapQ.made (w : World) : MapQ G (w.alloc (.map #[] 0)) w.heap.size 0 (fun _ => 0) := ⟨.map [], World.ownsMap_made w _ _ _, Maps.isMap_empty, fun x _ => rfl, fun kl h => by simp [Maps.has_eq] at h⟩
theorem MapQ.lt (h : MapQ G w b n f) : b < w.heap.size := h.p.lt
theorem MapQ.chg {T : Nat → Prop} (h : MapQ G w b n f) (hc : Chg T w w') (hb : ¬ T b) : MapQ G w' b n f := by
  have hlt := h.lt
  obtain ⟨D, ⟨es, clock, hbl, F, hs, hD⟩, hv⟩ := h
  exact ⟨D, ⟨es, clock, (hc.block b hlt hb).trans hbl, F, hs, hD⟩, hv⟩
theorem MapQ.mono {m : Nat} (h : MapQ G w b n f) (hm : n ≤ m) : MapQ G w b m f := by obtain ⟨D, h, hv⟩ := h; exact ⟨D, h.mono hm, hv⟩
theorem MapQ.congr {f' : Pr → Int} (h : MapQ G w b n f) (hf : ∀ x, okP x → f' x = f x) : MapQ G w b n f' := by
  obtain ⟨D, h, hm, h1, h2⟩ := h
  exact ⟨D, h, hm, fun x hx => by rw [hf x hx]; exact h1 x hx, h2⟩
theorem MapQ.store (h : MapQ G w b n f) {p : Pr} (hp : okP p) (hG : G p) (hn : n < maxLen) (x : Int) :
    ∃ w', (Instr.mapUpdate 61 (.map (some b)) (pv p) (.int .i64 x)).run Try.prog w = .ok () w' ∧ MapQ G w' b (n + 1) (fun m => if p = m then x else f m) ∧ Chg (fun k => k = b) w w' := by
  obtain ⟨D, h, hm, hv, hk⟩ := h
  obtain ⟨w', h1, h2, h3⟩ := h.update (t := 61) (e := 3) key54 Try.underlying61 hn (K_some hp) (show iR (.int .i64 x) = some (.lit (.int .i64 x), []) from rfl)
  refine ⟨w', h1, ⟨_, h2, hm.put _ _, fun y hy => ?_, fun kl hkl => ?_⟩, Chg.of_grown h3 (fun k hk => by injection hk with hk; exact .inl hk.symm)⟩
  · by_cases hxy : p = y
    · subst hxy
      show _ = DataW.lit (.int .i64 (if p = p then x else f p))
      rw [if_pos rfl]
      exact Maps.atKey_put_same hm (K_key hp) _ _
    · show _ = DataW.lit (.int .i64 (if p = y then x else f y))
      rw [if_neg hxy, Maps.atKey_put_other (fun h => hxy (K_inj hy hp h).symm)]
      exact hv y hy
  · by_cases e : kl = K p
    · exact ⟨p, hp, hG, e⟩
    · rw [Maps.has_put_other e] at hkl
      exact hk kl hkl
theorem zero3 (w : World) : (zeroValue 3).run Try.prog w = .ok (.int .i64 0) w := by simp [go_sem]
theorem MapQ.entry (h : MapQ G w b n f) {p : Pr} (hp : okP p) (hG : G p) (hn : n < maxLen) :
    ∃ (w1 : World) (v0 : Value) (st : Nat), (Instr.mapEntry 61 (.map (some b)) (pv p)).run Try.prog w = .ok (.tuple #[v0, goInt st]) w1 ∧ MapQ G w1 b (n + 1) f ∧ Chg (fun k => k = b) w w1 ∧
      ∀ x : Int, ∃ w2, (Instr.entryStore 61 (.map (some b)) (goInt st) (.int .i64 x)).run Try.prog w1 = .ok () w2 ∧ MapQ G w2 b (n + 1) (fun m => if p = m then x else f m) ∧ Chg (fun k => k = b) w w2 := by
  have h0 := h
  have hl := h.p.look hp
  obtain ⟨D, ⟨es, clock, hbl, F, hs, hD⟩, hm, hv, hk⟩ := h
  have hkey := K_some hp
  obtain ⟨v0, st, es1, clock1, hE, _, hS⟩ := WideElems.entry_then_store law54 Try.underlying61 (fun u => zero3 u) hbl F hkey
  have hw1 : MapQ G (setBlock w b (.map es1 clock1)) b (n + 1) f := by
    rcases key54.find w hkey es.toList F.keys with ⟨h1, h2⟩ | ⟨j, e0, h1, h2, h3⟩
    · -- a new entry: as if 0 were stored
      have e1 : (Instr.mapEntry 61 (.map (some b)) (pv p)).run Try.prog w = .ok (.tuple #[.int .i64 0, goInt clock]) (setBlock w b (.map (es.push ⟨pv p, .int .i64 0, clock⟩) (clock + 1))) := by
        simp [Instr.mapEntry, run_underlying Try.underlying61, MapKept.run_getObj_map hbl, key54.check w false hkey, h1, MapKept.run_setObj_map _ hbl, Result.andThen, setBlock]
      have e2 : (Instr.mapUpdate 61 (.map (some b)) (pv p) (.int .i64 0)).run Try.prog w = .ok () (setBlock w b (.map (es.push ⟨pv p, .int .i64 0, clock⟩) (clock + 1))) := by
        simp [Instr.mapUpdate, run_underlying Try.underlying61, MapKept.run_getObj_map hbl, key54.check w false hkey, h1, MapKept.run_setObj_map _ hbl, Result.andThen, setBlock]
      have e3 : (Instr.lookup 61 (.map (some b)) (pv p) false).run Try.prog w = .ok (.int .i64 0) w := by
        simp [Instr.lookup, run_underlying Try.underlying61, MapKept.run_getObj_map hbl, key54.check w _ hkey, h1, Result.andThen]
      rw [e3] at hl
      injection hl with hl _
      injection hl with _ hl
      rw [e1] at hE
      injection hE with _ hE
      obtain ⟨w', h4, h5, _⟩ := h0.store hp hG hn 0
      rw [e2] at h4
      injection h4 with _ h4
      rw [← hE, h4]
      exact h5.congr (fun m _ => by
        split
        · rename_i e
          rw [← e, ← hl]
        · rfl)
    · -- the entry is there
      have hj : es[j]? = some e0 := by simpa using h2
      have hsame : es.modify j (fun e => { e with key := pv p }) = es := by
        apply Array.ext
        · simp
        · intro i h5 h6
          rw [Array.getElem_modify]
          split
          · rename_i e
            subst e
            have : es[j] = e0 := by
              rw [Array.getElem?_eq_getElem h6] at hj
              injection hj
            rw [this, ← h3]
          · rfl
      have e1 : (Instr.mapEntry 61 (.map (some b)) (pv p)).run Try.prog w = .ok (.tuple #[e0.val, goInt e0.born]) (setBlock w b (.map es clock)) := by
        simp [Instr.mapEntry, run_underlying Try.underlying61, MapKept.run_getObj_map hbl, key54.check w false hkey, h1, hj, h3, key54.stays w hkey, hsame, MapKept.run_setObj_map _ hbl, Result.andThen, setBlock]
      rw [e1] at hE
      injection hE with _ hE
      rw [← hE]
      exact ⟨D, ⟨es, clock, heap_setBlock_same hbl _, F, by omega, hD⟩, hm, hv, hk⟩
  have hchg : ∀ o, Chg (fun k => k = b) w (setBlock w b o) := fun o => ⟨rfl, rfl, rfl, by simp [setBlock], fun k _ hk => heap_setBlock_other hbl _ hk⟩
  refine ⟨_, v0, st, hE, hw1, hchg _, fun x => ?_⟩
  obtain ⟨es', clock', h6, h7⟩ := hS (setBlock w b (.map es1 clock1)) (.int .i64 x) (heap_setBlock_same hbl _)
  obtain ⟨w', h8, h9, h10⟩ := h0.store hp hG hn x
  rw [h7] at h8
  injection h8 with _ h8
  have e : setBlock (setBlock w b (.map es1 clock1)) b (.map es' clock') = setBlock w b (.map es' clock') := by
    unfold setBlock
    simp
  refine ⟨_, h6, ?_, ?_⟩
  · rw [e, h8]; exact h9
  · rw [e, h8]; exact h10
end
end Go.Proofs.Ytlndhmkkffcbnaa.TlM
