/-
  Plain: how often a pair stands side by side; which is learnt next; what is learnt.
-/
import Derived.Test.YtlndhmkkffcbnaaTkQ
namespace Go.Proofs.Ytlndhmkkffcbnaa.TlP
open Go.RowKit Go.Proofs.Ytlndhmkkffcbnaa.Kit Go.Proofs.Ytlndhmkkffcbnaa.TkM Go.Proofs.Ytlndhmkkffcbnaa.TkP Go.Proofs.Ytlndhmkkffcbnaa.TkQ
set_option linter.unusedVariables false
def at2 (l : List Int) (i : Nat) : Pr := (l.getD i 0, l.getD (i + 1) 0)
/-- How often a pair stands at the first k places. -/
def cntK (l : List Int) (p : Pr) : Nat → Int
  | 0 => 0
  | k + 1 => cntK l p k + if at2 l k = p then 1 else 0
def cntL (l : List Int) (p : Pr) : Int := cntK l p (l.length - 1)
def cntX : List (List Int) → Pr → Int
  | [], _ => 0
  | l :: X, p => cntL l p + cntX X p
theorem cntX_snoc (X : List (List Int)) (l : List Int) (p : Pr) : cntX (X ++ [l]) p = cntX X p + cntL l p := by
  induction X with
  | nil => simp [cntX]
  | cons m X ih => simp only [List.cons_append, cntX, ih]; omega
theorem cntK_in (l : List Int) (p : Pr) : ∀ k, 0 ≤ cntK l p k ∧ cntK l p k ≤ k
  | 0 => by simp [cntK]
  | k + 1 => by
    have := cntK_in l p k
    unfold cntK
    split <;> omega
theorem cntL_in (l : List Int) (p : Pr) : 0 ≤ cntL l p ∧ cntL l p ≤ l.length := by
  have := cntK_in l p (l.length - 1)
  unfold cntL
  omega
def tot : List (List Int) → Nat
  | [] => 0
  | l :: X => l.length + tot X
theorem tot_snoc (X : List (List Int)) (l : List Int) : tot (X ++ [l]) = tot X + l.length := by
  induction X with
  | nil => simp [tot]
  | cons m X ih => simp only [List.cons_append, tot, ih]; omega
theorem tot_take (X : List (List Int)) (k : Nat) : tot (X.take k) ≤ tot X := by
  induction X generalizing k with
  | nil => simp
  | cons l X ih =>
    cases k with
    | zero => simp [tot]
    | succ k => simp only [List.take_succ_cons, tot]; have := ih k; omega
theorem cntX_in (X : List (List Int)) (p : Pr) : 0 ≤ cntX X p ∧ cntX X p ≤ tot X := by
  induction X with
  | nil => simp [cntX, tot]
  | cons l X ih =>
    have := cntL_in l p
    simp only [cntX, tot]
    omega
theorem cntK_occ {l : List Int} {p : Pr} : ∀ {k : Nat}, k + 1 ≤ l.length → 0 < cntK l p k → ∃ i, occ l p i
  | 0, _, h => by simp [cntK] at h
  | k + 1, hk, h => by
    unfold cntK at h
    split at h
    · rename_i e
      refine ⟨k, ?_⟩
      unfold at2 at e
      subst e
      unfold occ
      dsimp only
      rw [List.getD_eq_getElem?_getD, List.getD_eq_getElem?_getD, List.getElem?_eq_getElem (show k < l.length by omega), List.getElem?_eq_getElem (show k + 1 < l.length by omega)]
      exact ⟨rfl, rfl⟩
    · exact cntK_occ (k := k) (by omega) (by omega)
theorem cntX_occ {X : List (List Int)} {p : Pr} (h : 0 < cntX X p) : ∃ l, l ∈ X ∧ ∃ i, occ l p i := by
  induction X with
  | nil => simp [cntX] at h
  | cons l X ih =>
    simp only [cntX] at h
    have h1 := cntL_in l p
    by_cases h2 : 0 < cntL l p
    · unfold cntL at h2
      have hl : 1 ≤ l.length - 1 := by
        rcases Nat.eq_zero_or_pos (l.length - 1) with e | e
        · rw [e] at h2; simp [cntK] at h2
        · exact e
      exact ⟨l, by simp, cntK_occ (by omega) h2⟩
    · obtain ⟨m, hm, hi⟩ := ih (by omega)
      exact ⟨m, List.mem_cons_of_mem _ hm, hi⟩
/-! Which is learnt. -/
def cand (L : List Pr) (p : Pr) : Prop := 1 ≤ p.1 ∧ p.1 < 17 + (L.length : Int) ∧ 1 ≤ p.2 ∧ p.2 < 17 + (L.length : Int) ∧ szG (szs L) p.1 + szG (szs L) p.2 ≤ 64
def lex (p q : Pr) : Prop := p.1 < q.1 ∨ p.1 = q.1 ∧ p.2 < q.2
theorem lex_tri (p q : Pr) : lex p q ∨ p = q ∨ lex q p := by
  obtain ⟨a, b⟩ := p
  obtain ⟨c, d⟩ := q
  unfold lex
  dsimp only
  rw [Prod.mk.injEq]
  omega
theorem lex_no {p q : Pr} (h : lex p q) (h' : lex q p) : False := by unfold lex at h h'; omega
theorem lex_irr {p : Pr} (h : lex p p) : False := by unfold lex at h; omega
theorem lex_tr {p q r : Pr} (h : lex p q) (h' : lex q r) : lex p r := by unfold lex at h h' ⊢; omega
/-- What is known of the pairs of S. -/
def Bs (X : List (List Int)) (L : List Pr) (S : Pr → Prop) (b : Pr) (m : Int) : Prop :=
  (m = 1 ∧ ∀ q, cand L q → S q → cntX X q ≤ 1) ∨ (2 ≤ m ∧ cand L b ∧ S b ∧ cntX X b = m ∧ ∀ q, cand L q → S q → cntX X q < m ∨ (cntX X q = m ∧ (q = b ∨ lex b q)))
theorem Bs.start (X : List (List Int)) (L : List Pr) (b : Pr) {S : Pr → Prop} (hs : ∀ q, ¬ S q) : Bs X L S b 1 := .inl ⟨rfl, fun q _ h => absurd h (hs q)⟩
theorem Bs.ge {X : List (List Int)} {L : List Pr} {S : Pr → Prop} {b : Pr} {m : Int} (h : Bs X L S b m) : 1 ≤ m := by
  rcases h with ⟨rfl, _⟩ | ⟨h, _⟩ <;> omega
/-- One more pair, which is better. -/
theorem Bs.take_ {X : List (List Int)} {L : List Pr} {S S' : Pr → Prop} {b p : Pr} {m : Int} (h : Bs X L S b m) (hc : cand L p) (hs : ∀ q, S' q ↔ S q ∨ q = p) (hb : m < cntX X p ∨ (1 < m ∧ cntX X p = m ∧ lex p b)) : Bs X L S' p (cntX X p) := by
  have hm := h.ge
  refine .inr ⟨by omega, hc, (hs p).2 (.inr rfl), rfl, fun q hq hsq => ?_⟩
  rcases (hs q).1 hsq with hsq | rfl
  · rcases h with ⟨rfl, h⟩ | ⟨h1, h2, h3, h4, h⟩
    · have := h q hq hsq
      omega
    · rcases h q hq hsq with h5 | ⟨h5, h6⟩
      · omega
      · rcases hb with hb | ⟨_, hb, hl⟩
        · omega
        · refine .inr ⟨by omega, ?_⟩
          rcases h6 with rfl | h6
          · exact .inr hl
          · exact .inr (lex_tr hl h6)
  · exact .inr ⟨rfl, .inl rfl⟩
/-- One more pair, which is not. -/
theorem Bs.pass {X : List (List Int)} {L : List Pr} {S S' : Pr → Prop} {b p : Pr} {m : Int} (h : Bs X L S b m) (hs : ∀ q, S' q ↔ S q ∨ q = p) (hb : cand L p → cntX X p < m ∨ (cntX X p = m ∧ (m = 1 ∨ lex b p))) : Bs X L S' b m := by
  rcases h with ⟨rfl, h⟩ | ⟨h1, h2, h3, h4, h⟩
  · refine .inl ⟨rfl, fun q hq hsq => ?_⟩
    rcases (hs q).1 hsq with hsq | rfl
    · exact h q hq hsq
    · rcases hb hq with h | ⟨h, _⟩ <;> omega
  · refine .inr ⟨h1, h2, (hs b).2 (.inl h3), h4, fun q hq hsq => ?_⟩
    rcases (hs q).1 hsq with hsq | rfl
    · exact h q hq hsq
    · rcases hb hq with h | ⟨h, h5⟩
      · exact .inl h
      · refine .inr ⟨h, ?_⟩
        rcases h5 with h5 | h5
        · omega
        · exact .inr h5
theorem Bs.congr {X : List (List Int)} {L : List Pr} {S S' : Pr → Prop} {b : Pr} {m : Int} (h : Bs X L S b m) (hs : ∀ q, cand L q → (S' q ↔ S q)) (hb : 2 ≤ m → S b → S' b) : Bs X L S' b m := by
  rcases h with ⟨rfl, h⟩ | ⟨h1, h2, h3, h4, h⟩
  · exact .inl ⟨rfl, fun q hq hsq => h q hq ((hs q hq).1 hsq)⟩
  · exact .inr ⟨h1, h2, hb h1 h3, h4, fun q hq hsq => h q hq ((hs q hq).1 hsq)⟩
def IsBest (X : List (List Int)) (L : List Pr) (p : Pr) : Prop := cand L p ∧ 2 ≤ cntX X p ∧ ∀ q, cand L q → cntX X q < cntX X p ∨ (cntX X q = cntX X p ∧ (q = p ∨ lex p q))
def NoBest (X : List (List Int)) (L : List Pr) : Prop := ∀ q, cand L q → cntX X q ≤ 1
theorem Bs.last {X : List (List Int)} {L : List Pr} {S : Pr → Prop} {b : Pr} {m : Int} (h : Bs X L S b m) (hs : ∀ q, cand L q → S q ∨ cntX X q ≤ 1) : (m = 1 ∧ NoBest X L) ∨ (2 ≤ m ∧ IsBest X L b) := by
  rcases h with ⟨rfl, h⟩ | ⟨h1, h2, h3, h4, h⟩
  · refine .inl ⟨rfl, fun q hq => ?_⟩
    rcases hs q hq with h5 | h5
    · exact h q hq h5
    · exact h5
  · refine .inr ⟨h1, h2, by omega, fun q hq => ?_⟩
    rw [h4]
    rcases hs q hq with h5 | h5
    · exact h q hq h5
    · exact .inl (by omega)
theorem IsBest.one {X : List (List Int)} {L : List Pr} {p q : Pr} (h : IsBest X L p) (k : IsBest X L q) : p = q := by
  rcases h.2.2 q k.1 with h1 | ⟨h1, h2⟩
  · rcases k.2.2 p h.1 with h3 | ⟨h3, h4⟩
    · omega
    · omega
  · rcases h2 with h2 | h2
    · exact h2.symm
    · rcases k.2.2 p h.1 with h3 | ⟨h3, h4⟩
      · omega
      · rcases h4 with h4 | h4
        · exact h4
        · exact (lex_no h2 h4).elim
theorem IsBest.no {X : List (List Int)} {L : List Pr} {p : Pr} (h : IsBest X L p) (k : NoBest X L) : False := by
  have h1 := k p h.1
  have h2 := h.2.1
  omega
/-! All lists are merged. -/
inductive Mgs (L : List Pr) : List (List Int) → List (List Int) → Prop where
  | nil : Mgs L [] []
  | cons {l r : List Int} {X Y : List (List Int)} : Mg L l r → Mgs L X Y → Mgs L (l :: X) (r :: Y)
theorem Mgs.one {L : List Pr} {X Y Z : List (List Int)} (h : Mgs L X Y) (k : Mgs L X Z) : Y = Z := by
  induction h generalizing Z with
  | nil => cases k; rfl
  | cons h1 _ ih =>
    cases k with
    | cons h2 h3 => rw [h1.one h2, ih h3]
theorem Mgs.snoc {L : List Pr} {X Y : List (List Int)} {l r : List Int} (h : Mgs L X Y) (k : Mg L l r) : Mgs L (X ++ [l]) (Y ++ [r]) := by
  induction h with
  | nil => exact .cons k .nil
  | cons h1 _ ih => exact .cons h1 ih
theorem Mgs.len {L : List Pr} {X Y : List (List Int)} (h : Mgs L X Y) : X.length = Y.length := by
  induction h with
  | nil => rfl
  | cons _ _ ih => simp [ih]
inductive Lrn (most : Int) : List Pr → List (List Int) → List Pr → Prop where
  | full {L : List Pr} {X : List (List Int)} : ¬ (L.length : Int) < imin most 40 → Lrn most L X L
  | none {L : List Pr} {X : List (List Int)} : NoBest X L → Lrn most L X L
  | step {L R : List Pr} {X Y : List (List Int)} {p : Pr} : (L.length : Int) < imin most 40 → IsBest X L p → Mgs (L ++ [p]) X Y → Lrn most (L ++ [p]) Y R → Lrn most L X R
theorem Lrn.one {most : Int} {L R R' : List Pr} {X : List (List Int)} (h : Lrn most L X R) (k : Lrn most L X R') : R = R' := by
  induction h with
  | full h1 =>
    cases k with
    | full _ => rfl
    | none _ => rfl
    | step h2 _ _ _ => exact absurd h2 h1
  | none h1 =>
    cases k with
    | full _ => rfl
    | none _ => rfl
    | step _ h2 _ _ => exact (h2.no h1).elim
  | step h1 h2 h3 _ ih =>
    cases k with
    | full h4 => exact absurd h1 h4
    | none h4 => exact (h2.no h4).elim
    | step _ h5 h6 h7 =>
      obtain rfl := h2.one h5
      obtain rfl := h3.one h6
      exact ih h7
/-- What all lists are as long as merges are learnt. -/
def Okx (L : List Pr) (X : List (List Int)) : Prop := TkP.Good L ∧ (∀ l ∈ X, NoLeast L l) ∧ ∀ l ∈ X, ∃ x, Xps L l x
theorem noleast_nil (l : List Int) : NoLeast [] l := fun k q hq => by simp at hq
theorem okx_nil {X : List (List Int)} (h : ∀ l ∈ X, ∀ t ∈ l, 1 ≤ t ∧ t < 17) : Okx [] X := ⟨good_nil, fun l _ => noleast_nil l, fun l hl => ⟨l, xps_low l (h l hl)⟩⟩
theorem occ_mem {l : List Int} {p : Pr} {i : Nat} (h : occ l p i) : p.1 ∈ l ∧ p.2 ∈ l := ⟨List.mem_of_getElem? h.1, List.mem_of_getElem? h.2⟩
theorem okx_okAt {L : List Pr} {X : List (List Int)} {p : Pr} (h : Okx L X) (hb : 0 < cntX X p) : okAt L p := by
  obtain ⟨l, hl, i, hi⟩ := cntX_occ hb
  obtain ⟨x, hx⟩ := h.2.2 l hl
  have h1 := hx.range p.1 (occ_mem hi).1
  have h2 := hx.range p.2 (occ_mem hi).2
  refine ⟨h1.1, h1.2, h2.1, h2.2, fun hm => ?_⟩
  obtain ⟨k, hk⟩ := List.getElem?_of_mem hm
  exact h.2.1 l hl k p hk i hi
theorem xp_more {L : List Pr} {t : Int} {x : List Int} (h : Xp L t x) (p : Pr) : Xp (L ++ [p]) t x := by
  induction h with
  | leaf h1 h2 => exact .leaf h1 h2
  | node hk _ _ ih1 ih2 => exact .node (by rw [List.getElem?_append_left (List.getElem?_eq_some_iff.1 hk).1]; exact hk) ih1 ih2
theorem xps_more {L : List Pr} {l x : List Int} (h : Xps L l x) (p : Pr) : Xps (L ++ [p]) l x := by
  induction h with
  | nil => exact .nil
  | cons h1 _ ih => exact .cons (xp_more h1 p) ih
theorem okx_step {L : List Pr} {X Y : List (List Int)} {p : Pr} (h : Okx L X) (hp : okAt L p) (hm : Mgs (L ++ [p]) X Y) : Okx (L ++ [p]) Y := by
  refine ⟨good_snoc h.1 hp, ?_, ?_⟩
  · have : ∀ {X Y : List (List Int)}, Mgs (L ++ [p]) X Y → ∀ r ∈ Y, NoLeast (L ++ [p]) r := by
      intro X Y hm
      induction hm with
      | nil => intro r hr; simp at hr
      | cons h1 _ ih =>
        intro r hr
        rcases List.mem_cons.1 hr with rfl | hr
        · exact h1.last
        · exact ih r hr
    exact this hm
  · have : ∀ {X Y : List (List Int)}, Mgs (L ++ [p]) X Y → (∀ l ∈ X, ∃ x, Xps L l x) → ∀ r ∈ Y, ∃ x, Xps (L ++ [p]) r x := by
      intro X Y hm
      induction hm with
      | nil => intro _ r hr; simp at hr
      | cons h1 _ ih =>
        intro hx r hr
        rcases List.mem_cons.1 hr with rfl | hr
        · obtain ⟨x, hx⟩ := hx _ (List.mem_cons_self ..)
          exact ⟨x, h1.spell (xps_more hx p)⟩
        · exact ih (fun l hl => hx l (List.mem_cons_of_mem _ hl)) r hr
    exact this hm h.2.2
theorem mgs_tot {L : List Pr} {X Y : List (List Int)} (h : Mgs L X Y) : tot Y ≤ tot X := by
  induction h with
  | nil => exact Nat.le_refl _
  | cons h1 _ ih => have := h1.len; simp only [tot]; omega
end Go.Proofs.Ytlndhmkkffcbnaa.TlP
