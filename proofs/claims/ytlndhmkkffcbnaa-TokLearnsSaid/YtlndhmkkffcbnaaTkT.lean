/-
  Encode; spell, Spell.
-/
import Derived.Test.YtlndhmkkffcbnaaTkS
namespace Go.Proofs.Ytlndhmkkffcbnaa.TkT
open Go.RowKit Go.Proofs.Ytlndhmkkffcbnaa.Kit Go.Proofs.Ytlndhmkkffcbnaa.TkM Go.Proofs.Ytlndhmkkffcbnaa.TkP Go.Proofs.Ytlndhmkkffcbnaa.TkQ Go.Proofs.Ytlndhmkkffcbnaa.TkW Go.Proofs.Ytlndhmkkffcbnaa.TkA Go.Proofs.Ytlndhmkkffcbnaa.TkN Go.Proofs.Ytlndhmkkffcbnaa.TkO Go.Proofs.Ytlndhmkkffcbnaa.TkL Go.Proofs.Ytlndhmkkffcbnaa.TkR Go.Proofs.Ytlndhmkkffcbnaa.TkS
attribute [local go_sem high] max_imax min_imin
attribute [local go_sem ↓] Go.wp_at_zero Go.wp_at_succ
set_option linter.unusedVariables false
section
variable {w : World}
theorem hv_low {b : List Int} (h : okB b) : ∀ t ∈ hv b, 1 ≤ t ∧ t < 17 := by
  intro t ht
  simp only [hv, List.mem_flatten, List.mem_map] at ht
  obtain ⟨l, ⟨x, hx, rfl⟩, ht⟩ := ht
  have := h x hx
  simp at ht
  omega
/-- Encode's answer: its tokens, its error. -/
def EncR (w : World) (L : List Pr) (b : List Int) (e : Ending) (w' : World) : Prop :=
  Below w.heap.size w w' ∧ ∃ r a c f, e = .returned (.tuple #[.slice a r.length c, .int .i64 f]) ∧ Own w' w.heap.size 3 1 a r.length c (ints r) ∧ ((512 < b.length ∧ r = [] ∧ f = 5) ∨ (b.length ≤ 512 ∧ f = 0 ∧ Mg L (hv b) r))
set_option maxHeartbeats 1000000 in
theorem enc_any {B g : Nat} {L : List Pr} (ht : Tab w B g L) (hg : TkP.Good L) (hL : L.length ≤ 1000) {a : Option Addr} {c : Nat} {b : List Int} (h : Rd w 1 a b.length c (bys b)) (hok : okB b) :
    Calls Try.prog 12 #[.pointer (some ⟨g, 0, none⟩), .slice a b.length c] w (EncR w L b) := by
  have hmax := Nat.le_trans h.cap h.max
  unfold maxLen at hmax
  have HOK := Lib.hid (ok_any ht)
  by_cases hb : 512 < b.length
  · have HFIN : Hid (EncR w L b (.returned (.tuple #[.slice none 0 0, .int .i64 5])) w) := Lib.hid ⟨Below.refl _ _, [], none, 0, 5, rfl, Own.none_ _ _ _ _, .inl ⟨hb, rfl, rfl⟩⟩
    obtain ⟨n, HN⟩ : ∃ n, Hid (b.length = n) := ⟨_, Lib.hid rfl⟩
    rw [HN.out] at hmax hb ⊢
    have hb' : (512 : Int) < (n : Int) := by omega
    clear h hok ht hg
    go_enter Try.func12, Try.ntmps12
    go_wp2_with fail
    with_reducible refine HOK.out.mono ?_
    rintro e w1 ⟨rfl, rfl⟩
    go_wp2_with fail
    go_ret2
    exact HFIN.out
  · have hb1 : b.length ≤ 512 := by omega
    have HV := Lib.hid (halves_any h hok (by omega))
    have HM : Hid (∀ e w1, HvR w b e w1 → ∃ a1 c1, e = .returned (.slice a1 (hv b).length c1) ∧ Below w.heap.size w w1 ∧ Calls Try.prog 25 #[.pointer (some ⟨g, 0, none⟩), .slice a1 (hv b).length c1] w1 (MergeR w1 L (hv b) w.heap.size a1 c1)) := Lib.hid (by
      rintro e w1 ⟨a1, c1, rfl, ho1, hb1⟩
      refine ⟨a1, c1, rfl, hb1, merge_any (fun w' hc => ht.on ?_) hg hL ho1 (xps_low _ (hv_low hok))⟩
      exact hc.below hb1 hb1.size (fun k hk => (ho1.lt k hk).1))
    have HFIN : Hid (∀ w1 w2 a1 c1 v, Below w.heap.size w w1 → MergeR w1 L (hv b) w.heap.size a1 c1 (.returned v) w2 → EncR w L b (.returned (.tuple #[v, .int .i64 0])) w2) := Lib.hid (by
      rintro w1 w2 a1 c1 v hb0 ⟨r, he, ho, hm, hc⟩
      injection he with he
      subst he
      refine ⟨hc.below hb0 hb0.size ?_, r, a1, c1, 0, rfl, ho, .inr ⟨hb1, rfl, hm⟩⟩
      intro k hk
      exact (ho.lt k hk).1)
    obtain ⟨n, HN⟩ : ∃ n, Hid (b.length = n) := ⟨_, Lib.hid rfl⟩
    rw [HN.out] at hmax hb hb1 HV ⊢
    have hb' : (n : Int) ≤ 512 := by omega
    clear h hok ht hg hb
    go_enter Try.func12, Try.ntmps12
    go_wp2_with fail
    with_reducible refine HOK.out.mono ?_
    rintro e w1 ⟨rfl, rfl⟩
    go_wp2_with fail
    with_reducible refine HV.out.mono ?_
    intro e w1 hr
    obtain ⟨a1, c1, rfl, hbw, hmm⟩ := HM.out e w1 hr
    have HMM := Lib.hid hmm
    have HBW := Lib.hid hbw
    clear hr hmm hbw
    go_wp2_with fail
    with_reducible refine HMM.out.mono ?_
    intro e w2 hr2
    obtain ⟨r, he, hr3⟩ := hr2
    subst he
    have HF := Lib.hid (HFIN.out w1 w2 a1 c1 _ HBW.out ⟨r, rfl, hr3⟩)
    clear hr3
    go_wp2_with fail
    go_ret2
    exact HF.out
def NilR (w : World) (v : Value) (e : Ending) (w' : World) : Prop := e = .returned v ∧ w' = w
theorem enc_nil (v : Value) : Calls Try.prog 12 #[.pointer none, v] w (NilR w (.tuple #[.slice none 0 0, .int .i64 2])) := by
  have HOK := Lib.hid (ok_nil (w := w))
  go_enter Try.func12, Try.ntmps12
  go_wp2_with fail
  with_reducible refine HOK.out.mono ?_
  rintro e w1 ⟨rfl, rfl⟩
  go_wp2_with fail
  go_ret2
  exact ⟨rfl, rfl⟩
end
end Go.Proofs.Ytlndhmkkffcbnaa.TkT
