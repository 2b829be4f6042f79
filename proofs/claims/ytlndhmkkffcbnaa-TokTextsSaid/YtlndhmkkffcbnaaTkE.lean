/-
  A region that draws: a load may be taken first where a condition S holds till the last operations come; those may break S.
-/
import Derived.Deep.RegionHeld3
namespace Go.Proofs.Ytlndhmkkffcbnaa.TkE
set_option linter.unusedVariables false
section
variable {P : Program} {ops : Array Oper} {Q : Exit → Act → World → Prop} {md : Region.Mode} {S : World → Prop} {last : Nat}
/-- Whatever comes up; behind it S holds, as long as number `last` has not come up. -/
def Ways (P : Program) (md : Region.Mode) (ops : Array Oper) (Q : Exit → Act → World → Prop) (S : World → Prop) (last : Nat) : Nat → Array Bool → Act → World → Prop
  | 0, l, a, w => Region.ready md ops l = [] ∧ Q .normal a w
  | n + 1, l, a, w => (Region.ready md ops l = [] → Q .normal a w) ∧
      ∀ i, i ∈ Region.ready md ops l → wpOp P ops Q i (fun a' w' => ((l.setIfInBounds i true).getD last true = false → S w') ∧ Ways P md ops Q S last n (l.setIfInBounds i true) a' w') a w
theorem Ways.any : ∀ (n : Nat) (l : Array Bool) (a : Act) (w : World), Ways P md ops Q S last n l a w → wpAny P md ops Q n l a w
  | 0, _, _, _, h => h
  | n + 1, l, a, w, h => ⟨h.1, fun i hi => wpOp_mono (fun a' w' h' => Ways.any n _ a' w' h'.2) (h.2 i hi)⟩
/-- Each waits for the one ahead of it, and none has come up. -/
def chain (md : Region.Mode) (ops : Array Oper) (l : Array Bool) : Nat → List Nat → Bool
  | _, [] => true
  | i, k :: r => (l.getD k true == false) && (match ops[k]? with | some o => o.after.any (fun e => Region.binds md e && e.on == i) | none => false) && chain md ops l k r
theorem chain_step {l : Array Bool} {j : Nat} (hj : j ∈ Region.ready md ops l) : ∀ (r : List Nat) (i : Nat), j ≠ i → l.getD i true = false → chain md ops l i r = true → j ∉ r ∧ chain md ops (l.setIfInBounds j true) i r = true
  | [], i, _, _, _ => ⟨List.not_mem_nil, rfl⟩
  | k :: r, i, hne, hi, h => by
    simp only [chain, Bool.and_eq_true, beq_iff_eq] at h
    obtain ⟨⟨hk, hd⟩, hr⟩ := h
    have hjk : j ≠ k := by
      rintro rfl
      obtain ⟨_, p, hp, hall⟩ := mem_ready.1 hj
      rw [hp] at hd
      obtain ⟨e, he, hb⟩ := Array.any_eq_true'.1 hd
      simp only [Bool.and_eq_true, beq_iff_eq] at hb
      have hl := hall e he hb.1
      rw [hb.2] at hl
      rcases Nat.lt_or_ge i l.size with hlt | hge
      · simp [hlt] at hi hl
        rw [hi] at hl
        exact Bool.noConfusion hl
      · simp [Array.getElem?_eq_none hge] at hl
    obtain ⟨h1, h2⟩ := chain_step hj r k hjk hk hr
    refine ⟨fun h => ?_, ?_⟩
    · rcases List.mem_cons.1 h with h | h
      · exact hjk h
      · exact h1 h
    · simp only [chain, Bool.and_eq_true, beq_iff_eq]
      exact ⟨⟨by rw [getD_set_ne true hjk]; exact hk, hd⟩, h2⟩
theorem chain_last {l : Array Bool} : ∀ (r : List Nat) (i : Nat), last ∈ r → chain md ops l i r = true → l.getD last true = false
  | [], _, h, _ => absurd h List.not_mem_nil
  | k :: r, i, h, hc => by
    simp only [chain, Bool.and_eq_true, beq_iff_eq] at hc
    rcases List.mem_cons.1 h with rfl | h
    · exact hc.1.1
    · exact chain_last r k h hc.2
theorem Ways.first {i : Nat} {o : Oper} {v : Value} (ho : ops[i]? = some o) (hsel : ∀ (j : Nat) (o : Oper) cs b, ops[j]? = some o → o.op ≠ .select cs b)
    (hQ : ∀ c a w, Q (.panic c) (a.put o.dst v) w → Q (.panic c) a w) {r : List Nat} (hlast : last ∈ r) (hil : last ≠ i) (n : Nat) :
    ∀ (l : Array Bool) (a : Act) (w : World),
      (∀ j p, ops[j]? = some p → j ≠ i → l.getD j true = false → (∀ e ∈ p.after, Region.binds md e = true → e.on ≠ i) → o.apart ops p = true) →
      chain md ops l i r = true → i ∈ Region.ready md ops l → YieldsIf P ops S o v a → S w → Ways P md ops Q S last n (l.setIfInBounds i true) (a.put o.dst v) w → Ways P md ops Q S last (n + 1) l a w := by
  induction n with
  | zero =>
    intro l a w _ _ hr hy hS H
    constructor
    · intro h0
      rw [h0] at hr
      exact absurd hr List.not_mem_nil
    · intro j hj
      rcases Decidable.em (j = i) with rfl | hne
      · exact hy.wpOp ho hS ⟨fun _ => hS, H⟩
      · have := ready_mono hj hne
        rw [H.1] at this
        exact absurd this List.not_mem_nil
  | succ n ih =>
    intro l a w hfree hch hr hy hS H
    constructor
    · intro h0
      rw [h0] at hr
      exact absurd hr List.not_mem_nil
    · intro j hj
      rcases Decidable.em (j = i) with rfl | hne
      · exact hy.wpOp ho hS ⟨fun _ => hS, H⟩
      · have hstep := H.2 j (ready_mono hj hne)
        obtain ⟨hju, p, hp, hall⟩ := mem_ready.1 hj
        have hui := (mem_ready.1 hr).1
        obtain ⟨hjr, hch'⟩ := chain_step hj r i hne hui hch
        have hno : ∀ e ∈ p.after, Region.binds md e = true → e.on ≠ i := by
          intro e he hb heq
          have hl := hall e he hb
          rw [heq] at hl
          rcases Nat.lt_or_ge i l.size with hlt | hge
          · simp [hlt] at hui hl
            rw [hui] at hl
            exact Bool.noConfusion hl
          · simp [Array.getElem?_eq_none hge] at hl
        refine wpOp_mono ?_ (wpOp_putIf hp (hfree j p hp hne hju hno) (fun cs b => hsel i o cs b ho) (fun cs b => hsel j p cs b hp) hQ hy hstep)
        intro a' w' ⟨hy', hs', H'⟩
        have hs2 : (l.setIfInBounds j true).getD last true = false := chain_last _ _ hlast hch'
        have hs3 := hs' (by rw [Array.setIfInBounds_comm _ _ (Ne.symm hne), getD_set_ne true (Ne.symm hil)]; exact hs2)
        refine ⟨fun _ => hs3, ih (l.setIfInBounds j true) a' w' ?_ hch' (ready_mono hr (Ne.symm hne)) hy' hs3 ?_⟩
        · intro k q hq hki hun hn
          refine hfree k q hq hki ?_ hn
          rcases Decidable.em (j = k) with rfl | hjk
          · exact hju
          · rwa [getD_set_ne true hjk] at hun
        · rw [Array.setIfInBounds_comm _ _ hne]
          exact H'
theorem Ways.first0 {i : Nat} {o : Oper} {v : Value} (ho : ops[i]? = some o) (hsel : ∀ (j : Nat) (o : Oper) cs b, ops[j]? = some o → o.op ≠ .select cs b)
    (hQ : ∀ c a w, Q (.panic c) (a.put o.dst v) w → Q (.panic c) a w) (hil : last ≠ i) (n : Nat) :
    ∀ (l : Array Bool) (a : Act) (w : World),
      (∀ j p, ops[j]? = some p → j ≠ i → l.getD j true = false → (∀ e ∈ p.after, Region.binds md e = true → e.on ≠ i) → o.apart ops p = true) →
      i ∈ Region.ready md ops l → YieldsIf P ops (fun _ => True) o v a → (l.getD last true = false → S w) → Ways P md ops Q S last n (l.setIfInBounds i true) (a.put o.dst v) w → Ways P md ops Q S last (n + 1) l a w := by
  induction n with
  | zero =>
    intro l a w _ hr hy hS H
    constructor
    · intro h0
      rw [h0] at hr
      exact absurd hr List.not_mem_nil
    · intro j hj
      rcases Decidable.em (j = i) with rfl | hne
      · exact hy.wpOp ho trivial ⟨fun h => hS (by rw [getD_set_ne true (Ne.symm hil)] at h; exact h), H⟩
      · have := ready_mono hj hne
        rw [H.1] at this
        exact absurd this List.not_mem_nil
  | succ n ih =>
    intro l a w hfree hr hy hS H
    constructor
    · intro h0
      rw [h0] at hr
      exact absurd hr List.not_mem_nil
    · intro j hj
      rcases Decidable.em (j = i) with rfl | hne
      · exact hy.wpOp ho trivial ⟨fun h => hS (by rw [getD_set_ne true (Ne.symm hil)] at h; exact h), H⟩
      · have hstep := H.2 j (ready_mono hj hne)
        obtain ⟨hju, p, hp, hall⟩ := mem_ready.1 hj
        have hui := (mem_ready.1 hr).1
        have hno : ∀ e ∈ p.after, Region.binds md e = true → e.on ≠ i := by
          intro e he hb heq
          have hl := hall e he hb
          rw [heq] at hl
          rcases Nat.lt_or_ge i l.size with hlt | hge
          · simp [hlt] at hui hl
            rw [hui] at hl
            exact Bool.noConfusion hl
          · simp [Array.getElem?_eq_none hge] at hl
        refine wpOp_mono ?_ (wpOp_putIf hp (hfree j p hp hne hju hno) (fun cs b => hsel i o cs b ho) (fun cs b => hsel j p cs b hp) hQ hy hstep)
        intro a' w' ⟨hy', hs', H'⟩
        have hs3 : (l.setIfInBounds j true).getD last true = false → S w' := fun h => hs' (by rw [Array.setIfInBounds_comm _ _ (Ne.symm hne), getD_set_ne true (Ne.symm hil)]; exact h)
        refine ⟨hs3, ih (l.setIfInBounds j true) a' w' ?_ (ready_mono hr (Ne.symm hne)) hy' hs3 ?_⟩
        · intro k q hq hki hun hn
          refine hfree k q hq hki ?_ hn
          rcases Decidable.em (j = k) with rfl | hjk
          · exact hju
          · rwa [getD_set_ne true hjk] at hun
        · rw [Array.setIfInBounds_comm _ _ hne]
          exact H'
/-- Take number i first. -/
theorem Ways.take {i : Nat} {o : Oper} {v : Value} {n : Nat} {l : Array Bool} {a : Act} {w : World} (r : List Nat) (hlast : r.contains last = true) (hil : (last != i) = true) (ho : ops[i]? = some o)
    (hs : Region.noSelect ops = true) (hf : Region.free md ops l i = true) (hc : chain md ops l i r = true) (hr : (Region.ready md ops l).contains i = true)
    (hQ : ∀ c a w, Q (.panic c) (a.put o.dst v) w → Q (.panic c) a w) (hy : YieldsIf P ops S o v a) (hS : S w)
    (h : Ways P md ops Q S last n (l.setIfInBounds i true) (a.put o.dst v) w) : Ways P md ops Q S last (n + 1) l a w :=
  Ways.first ho (Region.noSelect_spec hs) hQ (by simpa using hlast) (by simpa using hil) n l a w (Region.free_spec ho hf) hc (by simpa using hr) hy hS h
/-- Take number i first: it yields its value in every world. -/
theorem Ways.take0 {i : Nat} {o : Oper} {v : Value} {n : Nat} {l : Array Bool} {a : Act} {w : World} (hil : (last != i) = true) (ho : ops[i]? = some o)
    (hs : Region.noSelect ops = true) (hf : Region.free md ops l i = true) (hr : (Region.ready md ops l).contains i = true)
    (hQ : ∀ c a w, Q (.panic c) (a.put o.dst v) w → Q (.panic c) a w) (hy : YieldsIf P ops (fun _ => True) o v a) (hS : S w)
    (h : Ways P md ops Q S last n (l.setIfInBounds i true) (a.put o.dst v) w) : Ways P md ops Q S last (n + 1) l a w :=
  Ways.first0 ho (Region.noSelect_spec hs) hQ (by simpa using hil) n l a w (Region.free_spec ho hf) (by simpa using hr) hy (fun _ => hS) h
/-- One alone can come up. -/
theorem Ways.only {i : Nat} {n : Nat} {l : Array Bool} {a : Act} {w : World} (hr : Region.ready md ops l = [i])
    (h : wpOp P ops Q i (fun a' w' => ((l.setIfInBounds i true).getD last true = false → S w') ∧ Ways P md ops Q S last n (l.setIfInBounds i true) a' w') a w) : Ways P md ops Q S last (n + 1) l a w := by
  refine ⟨fun h0 => ?_, fun j hj => ?_⟩
  · rw [hr] at h0
    cases h0
  · rw [hr] at hj
    obtain rfl := List.mem_singleton.1 hj
    exact h
theorem Ways.done {l : Array Bool} {a : Act} {w : World} (hr : Region.ready md ops l = []) (h : Q .normal a w) : ∀ n, Ways P md ops Q S last n l a w
  | 0 => ⟨hr, h⟩
  | n + 1 => ⟨fun _ => h, fun i hi => by rw [hr] at hi; exact absurd hi List.not_mem_nil⟩
theorem Ways.start {id : Nat} {a : Act} {w : World} (hm : P.follows .mixedOrders = true)
    (h : Ways P .any ops Q S last ops.size (Array.replicate ops.size false) a w.drew) : (Code.region id ops true).wp P Q a w :=
  wp_region_any hm (Ways.any _ _ _ _ h)
end
end Go.Proofs.Ytlndhmkkffcbnaa.TkE
