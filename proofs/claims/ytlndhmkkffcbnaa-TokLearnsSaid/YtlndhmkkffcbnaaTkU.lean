/-
  spell, Spell.
-/
import Derived.Test.YtlndhmkkffcbnaaTkT
namespace Go.Proofs.Ytlndhmkkffcbnaa.TkU
open Go.RowKit Go.Proofs.Ytlndhmkkffcbnaa.Kit Go.Proofs.Ytlndhmkkffcbnaa.TkM Go.Proofs.Ytlndhmkkffcbnaa.TkP Go.Proofs.Ytlndhmkkffcbnaa.TkQ Go.Proofs.Ytlndhmkkffcbnaa.TkW Go.Proofs.Ytlndhmkkffcbnaa.TkA Go.Proofs.Ytlndhmkkffcbnaa.TkN Go.Proofs.Ytlndhmkkffcbnaa.TkO Go.Proofs.Ytlndhmkkffcbnaa.TkL Go.Proofs.Ytlndhmkkffcbnaa.TkR Go.Proofs.Ytlndhmkkffcbnaa.TkS Go.Proofs.Ytlndhmkkffcbnaa.TkT
attribute [local go_sem high] max_imax min_imin
attribute [local go_sem ↓] Go.wp_at_zero Go.wp_at_succ
set_option linter.unusedVariables false
/-- l with x behind it. -/
structure SpR (w : World) (B : Nat) (l x : List Int) (a : Option Addr) (w' : World) (a' : Option Addr) (c' : Nat) : Prop where
  own : Own w' B 3 1 a' (l ++ x).length c' (ints (l ++ x))
  chg : Chg (fun k => ob a = some k) w w'
  ob : ob a' = ob a ∨ ∃ k, ob a' = some k ∧ w.heap.size ≤ k
def SpellR (w : World) (B : Nat) (l x : List Int) (a : Option Addr) (e : Ending) (w' : World) : Prop := ∃ a' c', e = .returned (.slice a' (l ++ x).length c') ∧ SpR w B l x a w' a' c'
theorem SpR.two {w w1 w2 : World} {B : Nat} {l x y : List Int} {a a1 a2 : Option Addr} {c1 c2 : Nat} (h : SpR w B l x a w1 a1 c1) (k : SpR w1 B (l ++ x) y a1 w2 a2 c2) : SpR w B l (x ++ y) a w2 a2 c2 := by
  refine ⟨by rw [← List.append_assoc]; exact k.own, h.chg.then k.chg (fun i hi hk => ?_), ?_⟩
  · rcases h.ob with e | ⟨q, e, hq⟩
    · rw [← e]; exact hk
    · rw [e] at hk
      injection hk with hk
      omega
  · rcases k.ob with e | ⟨q, e, hq⟩
    · rcases h.ob with e' | ⟨q', e', hq'⟩
      · exact .inl (e.trans e')
      · exact .inr ⟨q', e.trans e', hq'⟩
    · exact .inr ⟨q, e, Nat.le_trans h.chg.size hq⟩
theorem SpR.pre {w w0 w1 : World} {B : Nat} {l x : List Int} {a a1 : Option Addr} {c1 : Nat} (h0 : Chg (fun _ => False) w w0) (h : SpR w0 B l x a w1 a1 c1) : SpR w B l x a w1 a1 c1 :=
  ⟨h.own, (h0.mono (fun _ _ h => h.elim)).trans h.chg, h.ob.imp id (fun ⟨k, e, hk⟩ => ⟨k, e, Nat.le_trans h0.size hk⟩)⟩
/-- What spell asks of its table and of its list. -/
structure SpA (w : World) (B B0 g : Nat) (L : List Pr) (l : List Int) (a : Option Addr) (c : Nat) : Prop where
  tab : ∀ w', Chg (fun k => ob a = some k) w w' → Tab w' B0 g L
  own : Own w B 3 1 a l.length c (ints l)
  le : B ≤ w.heap.size
theorem SpA.on {w w' : World} {B B0 g : Nat} {L : List Pr} {l : List Int} {a : Option Addr} {c : Nat} (h : SpA w B B0 g L l a c) (hc : Chg (fun _ => False) w w') : SpA w' B B0 g L l a c :=
  ⟨fun w2 h2 => h.tab w2 ((hc.mono (fun _ _ h => h.elim)).trans h2), h.own.chg hc (fun _ _ => id), Nat.le_trans h.le hc.size⟩
theorem SpA.next {w w1 : World} {B B0 g : Nat} {L : List Pr} {l x : List Int} {a a1 : Option Addr} {c c1 : Nat} (h : SpA w B B0 g L l a c) (k : SpR w B l x a w1 a1 c1) : SpA w1 B B0 g L (l ++ x) a1 c1 :=
  ⟨fun w2 h2 => h.tab w2 (k.chg.then h2 (fun i hi hk => by
    rcases k.ob with e | ⟨q, e, hq⟩
    · rw [← e]; exact hk
    · rw [e] at hk
      injection hk with hk
      omega)), k.own, Nat.le_trans h.le k.chg.size⟩
set_option maxHeartbeats 1000000 in
theorem spell_leaf {w : World} {B B0 g c : Nat} {L : List Pr} {l : List Int} {a : Option Addr} {t : Int} (h : SpA w B B0 g L l a c) (h1 : 1 ≤ t) (h2 : t < 17) (hl : l.length ≤ 1000000) :
    Calls Try.prog 29 #[.pointer (some ⟨g, 0, none⟩), .slice a l.length c, .int .i64 t] w (SpellR w B l [t] a) := by
  have HZO := Lib.hid (h.own.chg ((Chg.refl (fun _ => False) w).alloc (.cells #[.int .i64 t] 3)) (fun _ _ => id))
  have HZR := Lib.hid (Own.made (B := w.heap.size) (size := 1) w #[.int .i64 t] 3 1 (Nat.le_refl _) (by unfold maxLen; omega) rfl).rd
  have H1C : Hid (∀ u ∈ [Value.int .i64 t], u.oneCell' = true) := Lib.hid (by simp [Value.oneCell'])
  have HSZ : Hid (B ≤ (w.alloc (.cells #[.int .i64 t] 3)).heap.size) := Lib.hid (by have := h.le; simp; omega)
  have HFIN : Hid (∀ a' c' w', Own w' B 3 1 a' (l.length + 1) c' (ints l ++ [.int .i64 t]) → (w.alloc (.cells #[.int .i64 t] 3)).grownBy w' (ob a) → (ob a' = ob a ∨ ob a' = some (w.alloc (.cells #[.int .i64 t] 3)).heap.size) → SpellR w B l [t] a (.returned (.slice a' (l.length + 1) c')) w') := Lib.hid (by
    intro a' c' w' ho hg ha
    refine ⟨a', c', by simp, ⟨?_, ((Chg.refl _ _).alloc _).trans (Chg.of_grown' hg), ha.imp id (fun h => ⟨_, h, by simp⟩)⟩⟩
    rw [← ints_append, List.length_append]
    exact ho)
  obtain ⟨n, HN⟩ : ∃ n, Hid (l.length = n) := ⟨_, Lib.hid rfl⟩
  rw [HN.out] at hl HZO HFIN ⊢
  clear h
  go_enter Try.func29, Try.ntmps29
  go_wp2_with (at_builtin; refine wpList_app el24 (by omega) rfl (.tmp 10) (.tmp 12) rfl (B := B) (by rfl) HZO.out (by rfl) HZR.out H1C.out (by omega) (by omega) HSZ.out ?_; intro a' c' w' hown hg hat)
  have HF := Lib.hid (HFIN.out a' c' w' hown hg hat)
  clear hown hg hat
  go_wp2_with fail
  go_ret
  exact HF.out
set_option maxHeartbeats 2000000 in
theorem spell_node {w : World} {B B0 g c k : Nat} {L : List Pr} {l x y : List Int} {a : Option Addr} {p : Pr} (h : SpA w B B0 g L l a c) (hL : L.length ≤ 1000) (hk : L[k]? = some p) (hok : okP p)
    (ih1 : ∀ {w : World} {l : List Int} {a : Option Addr} {c : Nat}, SpA w B B0 g L l a c → l.length + x.length ≤ 1000000 → Calls Try.prog 29 #[.pointer (some ⟨g, 0, none⟩), .slice a l.length c, .int .i64 p.1] w (SpellR w B l x a))
    (ih2 : ∀ {w : World} {l : List Int} {a : Option Addr} {c : Nat}, SpA w B B0 g L l a c → l.length + y.length ≤ 1000000 → Calls Try.prog 29 #[.pointer (some ⟨g, 0, none⟩), .slice a l.length c, .int .i64 p.2] w (SpellR w B l y a))
    (hl : l.length + (x ++ y).length ≤ 1000000) :
    Calls Try.prog 29 #[.pointer (some ⟨g, 0, none⟩), .slice a l.length c, .int .i64 (17 + (k : Int))] w (SpellR w B l (x ++ y) a) := by
  rw [List.length_append] at hl
  obtain ⟨am, cm, sa, sc, bm, ht⟩ := h.tab w (Chg.refl _ _)
  have hkl : k < L.length := (List.getElem?_eq_some_iff.1 hk).1
  obtain ⟨b0, off, p', rfl, hp', hc0, hc1⟩ := rd_pair ht.ms.rd hkl
  rw [hk] at hp'
  injection hp' with hp'
  subst hp'
  have c0 : w.cell? ⟨g, 0, none⟩ = some (.slice (some ⟨b0, off, none⟩) L.length cm) := ht.blk.cell 0 rfl
  obtain ⟨px, py⟩ := p
  dsimp only at hc0 hc1 ih1 ih2
  have hkk : (17 + (k : Int)) - 17 = (k : Int) := by omega
  have HA := Lib.hid (h.on (w' := (w.alloc (.cells #[.int .i64 px, .int .i64 py] 54)).drew) ((Chg.refl _ _).alloc _).drew)
  have H1 := Lib.hid (ih1 HA.out (by omega))
  have HC0 : Hid (Chg (fun _ => False) w (w.alloc (.cells #[.int .i64 px, .int .i64 py] 54)).drew) := Lib.hid ((Chg.refl _ _).alloc _).drew
  have H2 : Hid (∀ w1 a1 c1, SpR (w.alloc (.cells #[.int .i64 px, .int .i64 py] 54)).drew B l x a w1 a1 c1 → Calls Try.prog 29 #[.pointer (some ⟨g, 0, none⟩), .slice a1 (l ++ x).length c1, .int .i64 py] w1 (SpellR w1 B (l ++ x) y a1)) :=
    Lib.hid (fun w1 a1 c1 hs => ih2 (HA.out.next hs) (by rw [List.length_append]; omega))
  obtain ⟨m, HM⟩ : ∃ m, Hid ((l ++ x).length = m) := ⟨_, Lib.hid rfl⟩
  rw [HM.out] at H2
  have HFIN : Hid (∀ w1 a1 c1 v w2, SpR (w.alloc (.cells #[.int .i64 px, .int .i64 py] 54)).drew B l x a w1 a1 c1 → SpellR w1 B (l ++ x) y a1 (.returned v) w2 → SpellR w B l (x ++ y) a (.returned v) w2) := Lib.hid (by
    rintro w1 a1 c1 v w2 hs ⟨a2, c2, he, h2⟩
    exact ⟨a2, c2, by rw [he, List.append_assoc], (SpR.pre HC0.out hs).two h2⟩)
  have hkz : (k : Int) < (L.length : Int) := by omega
  have hk0 : (0 : Int) ≤ (k : Int) := by omega
  have HKP : Hid (∀ x w1 a1 c1, SpR (w.alloc (.cells #[.int .i64 px, .int .i64 py] 54)).drew B l x a w1 a1 c1 → w1.cell? ⟨w.heap.size, 0, none⟩ = some (.int .i64 px) ∧ w1.cell? ⟨w.heap.size, 1, none⟩ = some (.int .i64 py)) := Lib.hid (by
    intro x w1 a1 c1 hs
    have hb := hs.chg.blk (Blk.new w #[.int .i64 px, .int .i64 py] 54).drew (fun e => by have := (h.own.lt _ e).2; omega)
    exact ⟨hb.cell 0 rfl, hb.cell 1 rfl⟩)
  obtain ⟨n, HN⟩ : ∃ n, Hid (l.length = n) := ⟨_, Lib.hid rfl⟩
  rw [HN.out] at hl H1 ⊢
  clear h ih1 ih2 ht hk hok
  go_enter Try.func29, Try.ntmps29
  go_wp2_with fail
  go_region_held3 (fun w' => w'.cell? ⟨w.heap.size, 0, none⟩ = some (.int .i64 px) ∧ w'.cell? ⟨w.heap.size, 1, none⟩ = some (.int .i64 py)) (first | go_keep | exact ⟨by assumption, by assumption⟩) (first | (go_at_call 29; (with_reducible refine H1.out.mono ?_); rintro e w1 ⟨a1, c1, he, hs⟩; rw [HM.out] at he; subst he; have HS1 := Lib.hid hs; obtain ⟨q0, q1⟩ := HKP.out _ w1 a1 c1 hs; clear hs) | (go_at_call 29; (with_reducible refine (H2.out _ _ _ HS1.out).mono ?_); intro e w2 hs2; have hs3 := hs2; obtain ⟨a2, c2, he2, hs4⟩ := hs3; obtain ⟨q2, q3⟩ := HKP.out _ w2 a2 c2 (HS1.out.two hs4); clear hs4; obtain ⟨v2, he3⟩ : ∃ v, e = .returned v := ⟨_, he2⟩; clear he2; subst he3; have HF := Lib.hid (HFIN.out _ _ _ _ _ HS1.out hs2); clear hs2))
  all_goals
    go_wp2_with fail
    go_ret
    exact HF.out
theorem spell_any {B B0 g : Nat} {L : List Pr} (hg : TkP.Good L) (hL : L.length ≤ 1000) {t : Int} {x : List Int} (hx : Xp L t x) : ∀ {w : World} {l : List Int} {a : Option Addr} {c : Nat}, SpA w B B0 g L l a c → l.length + x.length ≤ 1000000 →
    Calls Try.prog 29 #[.pointer (some ⟨g, 0, none⟩), .slice a l.length c, .int .i64 t] w (SpellR w B l x a) := by
  induction hx with
  | leaf h1 h2 => exact fun h hl => spell_leaf h h1 h2 (by omega)
  | @node k p x y hk h1 h2 ih1 ih2 =>
    intro w l a c h hl
    have hp := h1.range
    have hq := h2.range
    exact spell_node h hL hk ⟨(okT_iff _).2 (by omega), (okT_iff _).2 (by omega)⟩ ih1 ih2 hl
/-- Spell's answer. -/
def SplR (w : World) (L : List Pr) (t : Int) (e : Ending) (w' : World) : Prop :=
  Below w.heap.size w w' ∧ ∃ r a c, e = .returned (.slice a r.length c) ∧ Own w' w.heap.size 3 1 a r.length c (ints r) ∧ ((¬ (1 ≤ t ∧ t < 17 + (L.length : Int)) ∧ r = []) ∨ Xp L t r)
theorem spl_any {w : World} {B g : Nat} {L : List Pr} (ht : Tab w B g L) (hg : TkP.Good L) (hL : L.length ≤ 1000) {t : Int} (hsz : ∀ x, Xp L t x → x.length ≤ 1000000) :
    Calls Try.prog 18 #[.pointer (some ⟨g, 0, none⟩), .int .i64 t] w (SplR w L t) := by
  have HV := Lib.hid (vocab_any ht)
  by_cases h1 : 1 ≤ t ∧ t < 17 + (L.length : Int)
  · obtain ⟨x, hx⟩ := xp_ex hg _ t rfl h1.1 h1.2
    have HSP := Lib.hid (spell_any (B := w.heap.size) (B0 := B) (g := g) hg hL hx (w := w) (l := []) (a := none) (c := 0) ⟨fun w' hc => ht.on (hc.mono (fun _ _ h => by cases h)).none, Own.none_ _ _ _ _, Nat.le_refl _⟩ (by have := hsz x hx; simpa using this))
    rw [List.length_nil] at HSP
    have HFIN : Hid (∀ e w', SpellR w w.heap.size [] x none e w' → SplR w L t e w') := Lib.hid (by
      rintro e w' ⟨a', c', rfl, h⟩
      exact ⟨(h.chg.mono (fun _ _ h => by cases h)).none, x, a', c', rfl, h.own, .inr hx⟩)
    have t0 := h1.1
    have t1 : t < ((17 + L.length : Nat) : Int) := by omega
    obtain ⟨n, HN⟩ : ∃ n, Hid (17 + L.length = n) := ⟨_, Lib.hid rfl⟩
    rw [HN.out] at HV t1
    clear ht hg hx hsz h1
    go_enter Try.func18, Try.ntmps18
    go_wp2_with fail
    with_reducible refine HV.out.mono ?_
    rintro e w1 ⟨rfl, rfl⟩
    go_wp2_with fail
    with_reducible refine HSP.out.mono ?_
    intro e w1 hs
    have hs2 := hs
    obtain ⟨a', c', he, _⟩ := hs2
    obtain ⟨v, he3⟩ : ∃ v, e = .returned v := ⟨_, he⟩
    clear he
    subst he3
    have HF := Lib.hid (HFIN.out _ _ hs)
    clear hs
    go_wp2_with fail
    go_ret
    exact HF.out
  · have HFIN : Hid (SplR w L t (.returned (.slice none 0 0)) w) := Lib.hid ⟨Below.refl _ _, [], none, 0, rfl, Own.none_ _ _ _ _, .inl ⟨h1, rfl⟩⟩
    by_cases t0 : t < 1
    · clear ht hg hsz h1
      go_enter Try.func18, Try.ntmps18
      go_wp2_with fail
      go_ret
      exact HFIN.out
    · have t1 : ((17 + L.length : Nat) : Int) ≤ t := by omega
      obtain ⟨n, HN⟩ : ∃ n, Hid (17 + L.length = n) := ⟨_, Lib.hid rfl⟩
      rw [HN.out] at HV t1
      clear ht hg hsz h1
      go_enter Try.func18, Try.ntmps18
      go_wp2_with fail
      with_reducible refine HV.out.mono ?_
      rintro e w1 ⟨rfl, rfl⟩
      go_wp2_with fail
      go_ret
      exact HFIN.out
theorem spl_nil {w : World} : Calls Try.prog 18 #[.pointer none, .int .i64 1] w (NilR w (.slice none 0 0)) := by
  have HV := Lib.hid (vocab_nil (w := w))
  go_enter Try.func18, Try.ntmps18
  go_wp2_with fail
  with_reducible refine HV.out.mono ?_
  rintro e w1 ⟨rfl, rfl⟩
  go_wp2_with fail
  go_ret
  exact ⟨rfl, rfl⟩
end Go.Proofs.Ytlndhmkkffcbnaa.TkU
