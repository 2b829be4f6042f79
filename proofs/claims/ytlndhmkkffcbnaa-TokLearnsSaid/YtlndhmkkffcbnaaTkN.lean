/-
  New; ok, Vocab.
-/
import Derived.Test.YtlndhmkkffcbnaaTkA
namespace Go.Proofs.Ytlndhmkkffcbnaa.TkN
open Go.RowKit Go.Proofs.Ytlndhmkkffcbnaa.Kit Go.Proofs.Ytlndhmkkffcbnaa.TkM Go.Proofs.Ytlndhmkkffcbnaa.TkP Go.Proofs.Ytlndhmkkffcbnaa.TkQ Go.Proofs.Ytlndhmkkffcbnaa.TkW Go.Proofs.Ytlndhmkkffcbnaa.TkA
attribute [local go_sem high] max_imax min_imin
attribute [local go_sem ↓] Go.wp_at_zero Go.wp_at_succ
set_option linter.unusedVariables false
section
variable {w : World} {L : List Pr}
theorem rd_on {w w' : World} {size : Nat} {a : Option Addr} {m c : Nat} {xs : List Value} (hs : 0 < size) (h : Rd w size a m c xs) (hb : Below w.heap.size w w') : Rd w' size a m c xs := h.below hb (fun hm k hk => h.lt hs hm k hk)
/-- A table, wherever its parts lie. -/
def Tab (w : World) (B g : Nat) (L : List Pr) : Prop := ∃ a c sa sc bm, Tb w B g L a c sa sc bm
theorem Tab.on {w w' : World} {B g : Nat} (h : Tab w B g L) (hb : Below w.heap.size w w') : Tab w' B g L := by
  obtain ⟨a, c, sa, sc, bm, h⟩ := h
  exact ⟨a, c, sa, sc, bm, h.on hb⟩
def NewR (w : World) (L : List Pr) (e : Ending) (w' : World) : Prop := Below w.heap.size w w' ∧ ∃ p, e = .returned (.tuple #[.pointer p, .int .i64 (newE L)]) ∧
  ((newE L ≠ 0 ∧ p = none) ∨ (newE L = 0 ∧ ∃ g, p = some ⟨g, 0, none⟩ ∧ Tab w' w.heap.size g L))
theorem new_any {a : Option Addr} {c : Nat} (h : Rd w 2 a L.length c (prs L)) (hok : ∀ p ∈ L, okP p) : Calls Try.prog 8 #[.slice a L.length c] w (NewR w L) := by
  have hmax := Nat.le_trans h.cap h.max
  unfold maxLen at hmax
  by_cases hbig : 40 < L.length
  · have FIN : Hid (NewR w L (.returned (.tuple #[.pointer none, .int .i64 5])) w) := Lib.hid (by
      have e := newE_many hbig
      exact ⟨Below.refl _ _, none, by rw [e], .inl ⟨by rw [e]; decide, rfl⟩⟩)
    obtain ⟨n, HN⟩ : ∃ n, Hid (L.length = n) := ⟨_, rfl⟩
    rw [HN.out] at hmax hbig ⊢
    have hb : (40 : Int) < (n : Int) := by omega
    clear h
    go_enter Try.func8, Try.ntmps8
    go_wp2_with fail
    go_ret2
    exact FIN.out
  · have HR := Lib.hid h
    have HOK := Lib.hid hok
    have HSM := Lib.hid hbig
    obtain ⟨n, HN⟩ : ∃ n, Hid (L.length = n) := ⟨_, rfl⟩
    rw [HN.out] at hmax hbig HR ⊢
    have hb : (n : Int) ≤ 40 := by omega
    clear h hok
    go_enter Try.func8, Try.ntmps8
    go_wp2_with fail
    refine empty_any.mono ?_
    rintro e w1 ⟨rfl, ht, hb1⟩
    obtain ⟨g, HG⟩ : ∃ g, Hid (w.heap.size + 1 + 1 = g) := ⟨_, rfl⟩
    rw [HG.out] at ht ⊢
    have HT1 : Hid (Tab w1 w.heap.size g []) := Lib.hid ⟨_, _, _, _, _, ht⟩
    have HL1 := Lib.hid hb1
    clear ht hb1
    go_wp2_with fail
    go_loopw [13] (fun i wr => ∃ k : Nat, k ≤ n ∧ i = .int .i64 k ∧ Hid (Tab wr w.heap.size g (L.take k)) ∧ Hid (TkP.Good (L.take k)) ∧ Hid (Below w.heap.size w wr)) (fun i _ => n - (intOf i).toNat)
    case atStart => exact ⟨0, by omega, rfl, HT1, Lib.hid (by rw [List.take_zero]; exact good_nil), HL1⟩
    case round =>
      obtain ⟨k, hk, rfl, HT, HGD, HL⟩ := hrel
      by_cases hlt : k < n
      · obtain ⟨b0, off, p, rfl, hp, hc0, hc1⟩ := rd_pair (rd_on (by omega) HR.out HL.out) hlt
        have k0 : (0 : Int) ≤ (k : Int) := by omega
        have k1 : (k : Int) < (n : Int) := by omega
        obtain ⟨x, y⟩ := p
        have HP := Lib.hid hp
        dsimp only at hc0 hc1
        clear hp
        have HTA := Lib.hid (HT.out.on (w' := wr.alloc (.cells #[.int .i64 x, .int .i64 y] 54)) ((Below.refl _ _).alloc (Nat.le_refl _) _))
        obtain ⟨a1, c1, sa, sc, bm, ht⟩ := HTA.out
        have HADD := Lib.hid (add_any ht (by have := HL.out.size; simp; omega) (p := (x, y)) (HOK.out _ (List.mem_of_getElem? HP.out)) (by simp; omega))
        clear ht
        go_wp2_with fail
        with_reducible refine HADD.out.mono ?_
        rintro e w2 (⟨hok2, rfl, ⟨a2, c2, sa2, sc2, ht2⟩, hb2⟩ | ⟨hno, rfl, hb2⟩)
        · have HT2 : Hid (Tab w2 w.heap.size g (L.take (k + 1))) := Lib.hid (by
            rw [List.take_add_one, HP.out]
            exact ⟨_, _, _, _, _, ht2⟩)
          have HG2 : Hid (TkP.Good (L.take (k + 1))) := Lib.hid (by
            rw [List.take_add_one, HP.out]
            exact good_snoc HGD.out hok2)
          have HL2 := Lib.hid (HL.out.trans (Below.trans ((Below.refl _ _).alloc HL.out.size _) hb2))
          have HLT := Lib.hid hlt
          clear ht2 hok2 hb2 hlt k1
          go_wp2_with fail
          go_roundw
          case rel => exact ⟨k + 1, HLT.out, by go_num, HT2, HG2, HL2⟩
          case measure => have := HLT.out; simp [intOf]; omega
        · have HFIN : Hid (NewR w L (.returned (.tuple #[.pointer none, .int .i64 1])) w2) := Lib.hid (by
            have e := newE_bad HSM.out (fun hg => hno (hg k _ HP.out))
            refine ⟨HL.out.trans (Below.trans ((Below.refl _ _).alloc HL.out.size _) (hb2.mono ?_)), none, by rw [e], .inl ⟨by rw [e]; decide, rfl⟩⟩
            have := HL.out.size
            simp
            omega)
          clear hno hb2
          go_wp2_with fail
          go_ret2
          exact HFIN.out
      · obtain rfl : k = n := by omega
        have HFIN : Hid (NewR w L (.returned (.tuple #[.pointer (some ⟨g, 0, none⟩), .int .i64 0])) wr) := Lib.hid (by
          have hg := HGD.out
          have ht := HT.out
          rw [List.take_of_length_le (by have := HN.out; omega)] at hg ht
          have e := newE_good HSM.out hg
          exact ⟨HL.out, _, by rw [e], .inr ⟨e, g, rfl, ht⟩⟩)
        clear hlt
        go_wp2_with fail
        go_ret2
        exact HFIN.out
end
end Go.Proofs.Ytlndhmkkffcbnaa.TkN
