/-
  alive; what a slice of bytes is as a text.
-/
import Derived.Test.YtlndhmkkffcbnaaTkH
import Derived.Laws.BytesArg
import Derived.Lib.SlBytesConst
import Derived.Lib.SmallJoins
namespace Go.Proofs.Ytlndhmkkffcbnaa.TkI
open Go.RowKit Go.Proofs.Ytlndhmkkffcbnaa.Kit Go.Proofs.Ytlndhmkkffcbnaa.TkM Go.Proofs.Ytlndhmkkffcbnaa.TkP Go.Proofs.Ytlndhmkkffcbnaa.TkQ Go.Proofs.Ytlndhmkkffcbnaa.TkW Go.Proofs.Ytlndhmkkffcbnaa.TkA Go.Proofs.Ytlndhmkkffcbnaa.TkN Go.Proofs.Ytlndhmkkffcbnaa.TkO Go.Proofs.Ytlndhmkkffcbnaa.TkL Go.Proofs.Ytlndhmkkffcbnaa.TkR Go.Proofs.Ytlndhmkkffcbnaa.TkS Go.Proofs.Ytlndhmkkffcbnaa.TkT Go.Proofs.Ytlndhmkkffcbnaa.TkU Go.Proofs.Ytlndhmkkffcbnaa.TkD
attribute [local go_sem high] max_imax min_imin
attribute [local go_sem ↓] Go.wp_at_zero Go.wp_at_succ
set_option linter.unusedVariables false
section
variable {w : World}
theorem conv_rd {a : Option Addr} {c : Nat} {b : List Int} (h : Rd w 1 a b.length c (bys b)) : (convert 23 9 (.slice a b.length c)).run Try.prog w = .ok (.string (strOfNums b)) w := by
  rcases Nat.eq_zero_or_pos b.length with h0 | h0
  · obtain rfl : b = [] := List.eq_nil_of_length_eq_zero h0
    rw [run_convert_bytes_string w 23 9 5 _ _ _ Try.underlying23 Try.underlying5 Try.underlying9]
    rcases a with _ | a
    · simp [Conv.bytesToString]
      rfl
    · simp [Conv.bytesToString, loadCells, loadCellsFrom]
      rfl
  · obtain ⟨g, o, rfl, hc⟩ := h.at_ h0
    refine run_convert_bytes_arg (P := Try.prog) w 23 5 Try.underlying23 Try.underlying5 g o b.length c b rfl (fun i hi => hc i _ ?_) 9 Try.underlying9
    unfold bys
    rw [List.getElem?_map, List.getElem?_eq_getElem hi, List.getD_eq_getElem?_getD, List.getElem?_eq_getElem hi]
    rfl
/-! alive's merges and texts. -/
def L1 : List Pr := [(5, 2)]
theorem good1 : TkP.Good L1 := by
  have := good_snoc good_nil (p := (5, 2)) ⟨by decide, by decide, by decide, by decide, by simp⟩
  exact this
theorem mg1 : Mg L1 (hv [65, 66]) [17, 5, 3] := by
  have h1 : Least L1 [5, 2, 5, 3] 0 0 := ⟨(5, 2), rfl, ⟨rfl, rfl⟩, fun j hj => by omega, fun k hk => by omega⟩
  refine .step (k := 0) (i := 0) h1 (.done ?_)
  intro k q hk j hj
  have hk1 := (List.getElem?_eq_some_iff.1 hk).1
  obtain rfl : k = 0 := by simp [L1] at hk1; omega
  have : q = (5, 2) := by simpa [L1] using hk.symm
  subst this
  obtain ⟨h2, h3⟩ := hj
  have hlt : j + 1 < 3 := (List.getElem?_eq_some_iff.1 h3).1
  rcases (show j = 0 ∨ j = 1 by omega) with rfl | rfl
  · exact absurd h2 (by decide)
  · exact absurd h3 (by decide)
theorem dec1 : DecA L1 [17, 5, 3] [65, 66] 0 := by
  refine .inr ⟨[5, 2, 5, 3], ?_, .inr (.inr ⟨by decide, by decide, by decide, rfl⟩)⟩
  have h5 : Xp L1 5 [5] := .leaf (by decide) (by decide)
  have h2 : Xp L1 2 [2] := .leaf (by decide) (by decide)
  have h3 : Xp L1 3 [3] := .leaf (by decide) (by decide)
  have h17 : Xp L1 17 [5, 2] := .node (k := 0) (p := (5, 2)) rfl h5 h2
  exact .cons h17 (.cons h5 (.cons h3 .nil))
theorem rd_ab (w : World) : Rd (w.alloc (.cells #[.int .u8 65, .int .u8 66] 5 (2, 3))) 1 (some ⟨w.heap.size, 0, none⟩) 2 2 (bys [65, 66]) :=
  ⟨rfl, Nat.le_refl _, by unfold maxLen; omega, by simp, fun _ => ⟨w.heap.size, 0, rfl, fun j u hu => by
    rw [World.cell?_alloc_mark, Nat.zero_add]
    have : (bys [65, 66]) = [.int .u8 65, .int .u8 66] := rfl
    rw [this] at hu
    simpa using hu⟩⟩
set_option maxHeartbeats 1000000 in
theorem alive_any : Calls Try.prog 7 #[] w fun e w' => e = .returned (.bool true) ∧ Below w.heap.size w w' := by
  have r0 := (Own.made (B := w.heap.size) (size := 2) w #[.int .i64 5, .int .i64 2] 54 1 (Nat.le_refl _) (by unfold maxLen; omega) rfl).rd
  have HB0 := Lib.hid ((Below.refl _ w).alloc (Nat.le_refl _) (.cells #[.int .i64 5, .int .i64 2] 54))
  have HNW := Lib.hid (new_any (L := L1) r0 (fun p hp => by
    have : p = (5, 2) := by simpa [L1] using hp
    subst this
    exact ⟨(okT_iff _).2 (by decide), (okT_iff _).2 (by decide)⟩))
  have HNZ : Hid (newE L1 = 0) := Lib.hid (newE_good (by decide) good1)
  have hln : L1.length = 1 := rfl
  rw [hln] at HNW
  have hcc := fun (w : World) (C : Array Value) (n c : Nat) => Lib.run_convert_bytes_const (P := Try.prog) w 23 5 C n c Try.underlying23 Try.underlying5
  clear r0 hln
  go_enter Try.func7, Try.ntmps7
  go_wp2_with fail
  with_reducible refine HNW.out.mono ?_
  rintro e w1 ⟨hb1, p, rfl, ⟨hne, _⟩ | ⟨_, g, rfl, ht⟩⟩
  · exact absurd HNZ.out hne
  · rw [HNZ.out]
    have HT := Lib.hid ht
    have HB1 := Lib.hid (HB0.out.trans (hb1.mono HB0.out.size))
    have HT2 := Lib.hid (HT.out.on (w' := w1.alloc (.cells #[.int .u8 65, .int .u8 66] 5 (2, 3))) ((Below.refl _ _).alloc (Nat.le_refl _) _))
    have HEN := Lib.hid (enc_any HT2.out good1 (by decide) (b := [65, 66]) (rd_ab w1) (by intro x hx; simp at hx; omega))
    rw [show ([65, 66] : List Int).length = 2 from rfl] at HEN
    have HB2 := Lib.hid (HB1.out.trans (((Below.refl w1.heap.size w1).alloc (Nat.le_refl _) (.cells #[.int .u8 65, .int .u8 66] 5 (2, 3))).mono HB1.out.size))
    clear ht hb1
    go_wp2_with fail
    with_reducible refine HEN.out.mono ?_
    rintro e w2 ⟨hb2, r, a, c, f, rfl, ho, ⟨hbad, _⟩ | ⟨_, rfl, hm⟩⟩
    · exact absurd hbad (by decide)
    · obtain rfl := hm.one mg1
      have HO := Lib.hid ho
      have HT3 := Lib.hid (HT2.out.on hb2)
      have HB3 := Lib.hid (HB2.out.trans (hb2.mono HB2.out.size))
      have HDC := Lib.hid (dec_any HT3.out good1 (by decide) HO.out.rd (fun t ht => by
        simp at ht
        exact (okT_iff _).2 (by omega)) (by decide))
      rw [show ([17, 5, 3] : List Int).length = 3 from rfl] at HDC HO ⊢
      clear ho hb2 hm
      go_wp2_with fail
      with_reducible refine HDC.out.mono ?_
      rintro e w3 ⟨hb3, bs, a3, c3, f3, rfl, ho3, hd3⟩
      obtain ⟨rfl, rfl⟩ := hd3.one dec1
      have HT4 := Lib.hid (HT3.out.on hb3)
      have HB4 := Lib.hid (HB3.out.trans (hb3.mono HB3.out.size))
      have hcv := conv_rd ho3.rd
      rw [show ([65, 66] : List Int).length = 2 from rfl] at hcv ⊢
      have hst : strOfNums [65, 66] = ⟨#[65, 66]⟩ := by rfl
      rw [hst] at hcv
      have HVC := Lib.hid (vocab_any HT4.out)
      obtain ⟨b0, o0, u, rfl, hu, hc0⟩ := (rd_on (by omega) HO.out.rd hb3).get (k := 0) (by omega)
      obtain ⟨b0', o0', u1, he, hu1, hc1⟩ := (rd_on (by omega) HO.out.rd hb3).get (k := 1) (by omega)
      injection he with he
      injection he with e1 e2
      subst e1 e2
      have hu' : u = .int .i64 17 := by simpa [ints] using hu.symm
      have hu1' : u1 = .int .i64 5 := by simpa [ints] using hu1.symm
      subst hu' hu1'
      rw [Nat.add_zero] at hc0
      rw [show ((17 + L1.length : Nat) : Int) = 18 from rfl] at HVC
      clear ho3 hb3 hd3 hu hu1 hst
      go_wp2_with fail
      with_reducible refine HVC.out.mono ?_
      rintro e w4 ⟨rfl, rfl⟩
      go_wp2_with fail
      go_ret
      exact ⟨rfl, HB4.out⟩
end
end Go.Proofs.Ytlndhmkkffcbnaa.TkI
