/-
  Lists that the call made, in memory.
-/
import Derived.Test.YtlndhmkkffcbnaaTlB
namespace Go.Proofs.Ytlndhmkkffcbnaa.TlE
open Go.RowKit Go.Proofs.Ytlndhmkkffcbnaa.Kit Go.Proofs.Ytlndhmkkffcbnaa.TkM Go.Proofs.Ytlndhmkkffcbnaa.TkP Go.Proofs.Ytlndhmkkffcbnaa.TkQ Go.Proofs.Ytlndhmkkffcbnaa.TkW Go.Proofs.Ytlndhmkkffcbnaa.TkE Go.Proofs.Ytlndhmkkffcbnaa.TkA Go.Proofs.Ytlndhmkkffcbnaa.TkN Go.Proofs.Ytlndhmkkffcbnaa.TkG Go.Proofs.Ytlndhmkkffcbnaa.TlP Go.Proofs.Ytlndhmkkffcbnaa.TlM Go.Proofs.Ytlndhmkkffcbnaa.TlC
set_option linter.unusedVariables false
theorem el67 : ElemT Try.prog 67 24 1 24 := by
  refine ⟨Try.underlying67, ?_⟩
  have h : (Try.prog.info? 24).map (fun i => (i.zero, i.size, i.bytes)) = some (some (.slice none 0 0), 1, 24) := by kernel_rfl
  cases hi : Try.prog.info? 24 with
  | none => rw [hi] at h; simp at h
  | some i =>
    rw [hi] at h
    simp at h
    exact ⟨i, _, rfl, h.1, h.2.1, h.2.2, rfl⟩
/-- The headers of lists. -/
def vls : List (Option Addr × Nat) → List (List Int) → List Value
  | (a, c) :: A, x :: X => .slice a x.length c :: vls A X
  | _, _ => []
theorem vls_snoc (a : Option Addr) (c : Nat) (x : List Int) : ∀ {A : List (Option Addr × Nat)} {X : List (List Int)}, A.length = X.length → vls (A ++ [(a, c)]) (X ++ [x]) = vls A X ++ [.slice a x.length c]
  | [], [], _ => rfl
  | [], _ :: _, h => by simp at h
  | _ :: _, [], h => by simp at h
  | (b, d) :: A, y :: X, h => by
    show _ :: vls (A ++ [(a, c)]) (X ++ [x]) = _ :: (vls A X ++ _)
    rw [vls_snoc a c x (by simpa using h)]
theorem vls_get : ∀ {A : List (Option Addr × Nat)} {X : List (List Int)} {i : Nat} {a : Option Addr} {c : Nat} {x : List Int}, A[i]? = some (a, c) → X[i]? = some x → (vls A X)[i]? = some (.slice a x.length c)
  | [], _, i, a, c, x, h, _ => by simp at h
  | _ :: _, [], i, a, c, x, _, h => by simp at h
  | (b, d) :: A, y :: X, 0, a, c, x, h, k => by
    simp at h k
    obtain ⟨rfl, rfl⟩ := h
    subst k
    rfl
  | (b, d) :: A, y :: X, i + 1, a, c, x, h, k => by
    simp at h k
    exact vls_get (A := A) (X := X) h k
theorem vls_set : ∀ {A : List (Option Addr × Nat)} {X : List (List Int)} {i : Nat} {a : Option Addr} {c : Nat} (r : List Int), A[i]? = some (a, c) → (vls A X).set i (.slice a r.length c) = vls A (X.set i r)
  | [], X, i, a, c, r, h => by simp at h
  | (b, d) :: A, [], i, a, c, r, h => by simp [vls]
  | (b, d) :: A, y :: X, 0, a, c, r, h => by
    simp at h
    obtain ⟨rfl, rfl⟩ := h
    rfl
  | (b, d) :: A, y :: X, i + 1, a, c, r, h => by
    simp at h
    show _ :: (vls A X).set i _ = _ :: vls A (X.set i r)
    rw [vls_set (A := A) (X := X) r h]
theorem vls_one : ∀ {A : List (Option Addr × Nat)} {X : List (List Int)}, ∀ u ∈ vls A X, u.oneCell' = true
  | [], X, u, hu => by simp [vls] at hu
  | (b, d) :: A, [], u, hu => by simp [vls] at hu
  | (b, d) :: A, y :: X, u, hu => by
    rcases List.mem_cons.1 hu with rfl | hu
    · rfl
    · exact vls_one (A := A) (X := X) u hu
/-- Lists of the call's own, from block B on, below block T. -/
structure LsO (w : World) (B T : Nat) (al : Option Addr) (cl : Nat) (A : List (Option Addr × Nat)) (X : List (List Int)) : Prop where
  main : Own w B 24 1 al X.length cl (vls A X)
  len : A.length = X.length
  rows : ∀ (i : Nat) (a : Option Addr) (c : Nat) (x : List Int), A[i]? = some (a, c) → X[i]? = some x → Own w B 3 1 a x.length c (ints x)
  sep : ∀ (i j : Nat) (a a' : Option Addr) (c c' : Nat), i ≠ j → A[i]? = some (a, c) → A[j]? = some (a', c') → ∀ q, ob a = some q → ob a' ≠ some q
  hiM : ∀ q, ob al = some q → q < T
  hi : ∀ (i : Nat) (a : Option Addr) (c : Nat), A[i]? = some (a, c) → ∀ q, ob a = some q → q < T
section
variable {w w' : World} {B T : Nat} {al : Option Addr} {cl : Nat} {A : List (Option Addr × Nat)} {X : List (List Int)}
theorem LsO.nil (w : World) (B T : Nat) : LsO w B T none 0 [] [] :=
  ⟨Own.none_ _ _ _ _, rfl, fun i a c x h _ => by simp at h, fun i j a a' c c' _ h _ => by simp at h, fun q h => by simp [ob] at h, fun i a c h => by simp at h⟩
theorem LsO.lsr (h : LsO w B T al cl A X) : LsR w al cl X := ⟨⟨_, h.main.rd, fun i x hx => by
  have hi : i < A.length := by rw [h.len]; exact (List.getElem?_eq_some_iff.1 hx).1
  obtain ⟨⟨a, c⟩, ha⟩ : ∃ p, A[i]? = some p := ⟨_, List.getElem?_eq_getElem hi⟩
  exact ⟨a, c, vls_get ha hx, (h.rows i a c x ha hx).rd⟩⟩⟩
/-- Nothing below T turns. -/
theorem LsO.chg {S : Nat → Prop} (h : LsO w B T al cl A X) (hc : Chg S w w') (hs : ∀ q, q < T → ¬ S q) : LsO w' B T al cl A X :=
  ⟨h.main.chg hc (fun q hq => hs q (h.hiM q hq)), h.len, fun i a c x ha hx => (h.rows i a c x ha hx).chg hc (fun q hq => hs q (h.hi i a c ha q hq)), h.sep, h.hiM, h.hi⟩
theorem LsO.up {T' : Nat} (h : LsO w B T al cl A X) (hT : T ≤ T') : LsO w B T' al cl A X :=
  ⟨h.main, h.len, h.rows, h.sep, fun q hq => Nat.lt_of_lt_of_le (h.hiM q hq) hT, fun i a c ha q hq => Nat.lt_of_lt_of_le (h.hi i a c ha q hq) hT⟩
/-- One more list. -/
theorem LsO.push {al' : Option Addr} {cl' : Nat} {a : Option Addr} {c : Nat} {x : List Int} (h : LsO w B T al cl A X) (hl : ∀ q, ob al = some q → q < w.heap.size) (hc : Chg (fun k => ob al = some k) w w')
    (hm : Own w' B 24 1 al' (X.length + 1) cl' (vls A X ++ [.slice a x.length c])) (hx : Own w' B 3 1 a x.length c (ints x)) (hnew : ∀ q, ob a = some q → T ≤ q) : LsO w' B w'.heap.size al' cl' (A ++ [(a, c)]) (X ++ [x]) := by
  have hlen := h.len
  have hget : ∀ (i : Nat) (p : Option Addr × Nat), (A ++ [(a, c)])[i]? = some p → (i < A.length ∧ A[i]? = some p) ∨ (i = A.length ∧ p = (a, c)) := by
    intro i p hp
    rcases Nat.lt_or_ge i A.length with hi | hi
    · rw [List.getElem?_append_left hi] at hp
      exact .inl ⟨hi, hp⟩
    · have hil : i < A.length + 1 := by
        have := (List.getElem?_eq_some_iff.1 hp).1
        simpa using this
      obtain rfl : i = A.length := by omega
      simp at hp
      exact .inr ⟨rfl, hp.symm⟩
  refine ⟨by rw [vls_snoc a c x hlen, List.length_append]; exact hm, by simp [hlen], fun i a1 c1 x1 ha hx1 => ?_, fun i j a1 a2 c1 c2 hij ha1 ha2 q hq => ?_, fun q hq => (hm.lt q hq).2, fun i a1 c1 ha q hq => ?_⟩
  · rcases hget i _ ha with ⟨hi, ha'⟩ | ⟨rfl, ha'⟩
    · rw [List.getElem?_append_left (by omega)] at hx1
      have hr := h.rows i a1 c1 x1 ha' hx1
      exact hr.chg hc (fun q hq e => by
        have h1 : ob al ≠ some q := by
          rcases h.main.form.2 with ⟨rfl, _⟩ | ⟨g, cur, rfl, _, hg, _⟩
          · simp [ob]
          · intro e2
            have : g = q := by simpa [ob] using e2
            subst this
            exact hr.ne (show Blk w g 24 cur from hg) (by decide) hq
        exact h1 e)
    · injection ha' with e1 e2
      subst e1 e2
      rw [hlen] at hx1
      simp at hx1
      subst hx1
      exact hx
  · rcases hget i _ ha1 with ⟨hi, h1⟩ | ⟨rfl, h1⟩
    · rcases hget j _ ha2 with ⟨hj, h2⟩ | ⟨rfl, h2⟩
      · exact h.sep i j a1 a2 c1 c2 hij h1 h2 q hq
      · injection h2 with e1 e2
        subst e1
        intro e
        have h3 := hnew q e
        have h4 := h.hi i a1 c1 h1 q hq
        omega
    · injection h1 with e1 e2
      subst e1
      rcases hget j _ ha2 with ⟨hj, h2⟩ | ⟨rfl, h2⟩
      · intro e
        have h3 := hnew q hq
        have h4 := h.hi j a2 c2 h2 q e
        omega
      · exact absurd rfl hij
  · rcases hget i _ ha with ⟨hi, h1⟩ | ⟨rfl, h1⟩
    · have hi' : i < X.length := by omega
      have := (h.rows i a1 c1 _ h1 (List.getElem?_eq_getElem hi')).lt q hq
      have := hc.size
      omega
    · injection h1 with e1 e2
      subst e1
      exact (hx.lt q hq).2
/-- List i is another one. -/
theorem LsO.put {g i : Nat} {a : Option Addr} {c : Nat} {r : List Int} (h : LsO w B T (some ⟨g, 0, none⟩) cl A X) (ha : A[i]? = some (a, c)) (hi : i < X.length) (hc : Chg (fun k => ob a = some k) w w') (hr : Own w' B 3 1 a r.length c (ints r)) :
    LsO (w'.setCell ⟨g, i, none⟩ (.slice a r.length c)) B T (some ⟨g, 0, none⟩) cl A (X.set i r) ∧ Chg (fun k => k = g ∨ ob a = some k) w (w'.setCell ⟨g, i, none⟩ (.slice a r.length c)) := by
  obtain ⟨hl, ⟨h0, _⟩ | ⟨g', cur, hg', hB, hh, h3, h4, h5, h6⟩⟩ := h.main.form
  · cases h0
  · injection hg' with hg'
    injection hg' with hg' _
    subst hg'
    have hb : Blk w g 24 cur := hh
    have hne : ob a ≠ some g := by
      have hx := h.rows i a c _ ha (List.getElem?_eq_getElem hi)
      exact hx.ne hb (by decide)
    have hb1 : Blk w' g 24 cur := hc.blk hb hne
    have hs : Chg (fun k => k = g) w' (w'.setCell ⟨g, i, none⟩ (.slice a r.length c)) := (Chg.refl (fun k => k = g) w').set (p := ⟨g, i, none⟩) (.inl rfl) _
    have h5' : cur.size = cl := by omega
    refine ⟨⟨?_, by rw [List.length_set]; exact h.len, fun j a1 c1 x1 ha1 hx1 => ?_, h.sep, h.hiM, h.hi⟩, (hc.mono (fun _ _ e => .inr e)).then hs (fun _ _ e => .inl e)⟩
    · rw [List.length_set, ← vls_set r ha, ← h6, Nat.mul_one]
      refine own_of (hb1.set i (.slice a r.length c)) hB h3 h4 (by simp; omega) ?_
      rw [Nat.mul_one, Array.toList_setIfInBounds, List.take_set]
    · by_cases e : i = j
      · subst e
        rw [ha] at ha1
        injection ha1 with ha1
        injection ha1 with e1 e2
        subst e1 e2
        rw [List.getElem?_set_self hi] at hx1
        injection hx1 with hx1
        subst hx1
        exact hr.chg hs (fun q hq e => hne (by rw [hq, e]))
      · rw [List.getElem?_set_ne e] at hx1
        have ho := h.rows j a1 c1 x1 ha1 hx1
        have hng : ob a1 ≠ some g := ho.ne hb (by decide)
        exact (ho.chg hc (fun q hq e2 => h.sep i j a a1 c c1 e ha ha1 q e2 hq)).chg hs (fun q hq e2 => hng (by rw [hq, e2]))
end
/-- A table stays while only blocks below its base turn. -/
theorem tab_keep {w w' : World} {S : Nat → Prop} {B g : Nat} {L : List Pr} (h : Tab w B g L) (hc : Chg S w w') (hs : ∀ q, S q → q < B) : Tab w' B g L := by
  obtain ⟨a, c, sa, sc, bm, h⟩ := h
  have hn : ∀ q, B ≤ q → ¬ S q := fun q hq e => by have := hs q e; omega
  exact ⟨a, c, sa, sc, bm, hc.blk h.blk (hn _ h.low), h.low, h.mlow, h.ms.chg hc (fun q hq => hn _ (h.ms.lt q hq).1), h.sz.chg hc (fun q hq => hn _ (h.sz.lt q hq).1), h.mp.chg hc (hn _ h.mlow)⟩
/-- Texts that came in. -/
structure TxR (w : World) (at_ : Option Addr) (ct : Nat) (T : List (List Int)) : Prop where
  rows : ∃ vs : List Value, Rd w 1 at_ T.length ct vs ∧ ∀ (i : Nat) (x : List Int), T[i]? = some x → ∃ a c, vs[i]? = some (.slice a x.length c) ∧ Rd w 1 a x.length c (TkO.bys x)
  ok : ∀ x ∈ T, TkO.okB x
theorem TxR.on {w w' : World} {al : Option Addr} {cl : Nat} {X : List (List Int)} (h : TxR w al cl X) (hb : Below w.heap.size w w') : TxR w' al cl X := by
  obtain ⟨⟨vs, h1, h2⟩, h3⟩ := h
  exact ⟨⟨vs, rd_on (by omega) h1 hb, fun i x hx => by obtain ⟨a, c, h3, h4⟩ := h2 i x hx; exact ⟨a, c, h3, rd_on (by omega) h4 hb⟩⟩, h3⟩
theorem TxR.get {w : World} {al : Option Addr} {cl : Nat} {X : List (List Int)} (h : TxR w al cl X) {k : Nat} {x : List Int} (hx : X[k]? = some x) : ∃ b o a c, al = some ⟨b, o, none⟩ ∧ w.cell? ⟨b, o + k, none⟩ = some (.slice a x.length c) ∧ Rd w 1 a x.length c (TkO.bys x) := by
  obtain ⟨⟨vs, h1, h2⟩, _⟩ := h
  obtain ⟨b, o, u, rfl, hu, hc⟩ := h1.get (List.getElem?_eq_some_iff.1 hx).1
  obtain ⟨a, c, h3, h4⟩ := h2 k x hx
  rw [hu] at h3
  injection h3 with h3
  subst h3
  exact ⟨b, o, a, c, rfl, hc, h4⟩
/-- Few texts, and short ones. -/
def Few (T : List (List Int)) : Prop := T.length ≤ 6 ∧ ∀ x ∈ T, x.length ≤ 30
theorem few_tot {T : List (List Int)} (h : Few T) : tot (T.map TkO.hv) ≤ 360 := by
  have key : ∀ T : List (List Int), (∀ x ∈ T, x.length ≤ 30) → tot (T.map TkO.hv) ≤ 60 * T.length := by
    intro T
    induction T with
    | nil => intro _; simp [tot]
    | cons x T ih =>
      intro hx
      have h1 := ih (fun y hy => hx y (List.mem_cons_of_mem _ hy))
      have h2 := hx x (List.mem_cons_self ..)
      simp only [List.map_cons, tot, TkO.hv_len, List.length_cons]
      omega
  have := key T h.2
  have := h.1
  omega
end Go.Proofs.Ytlndhmkkffcbnaa.TlE
