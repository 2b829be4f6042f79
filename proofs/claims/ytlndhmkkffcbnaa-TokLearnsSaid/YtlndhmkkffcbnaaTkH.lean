/-
  theirs; alive.
-/
import Derived.Test.YtlndhmkkffcbnaaTkD
namespace Go.Proofs.Ytlndhmkkffcbnaa.TkH
open Go.RowKit Go.Proofs.Ytlndhmkkffcbnaa.Kit Go.Proofs.Ytlndhmkkffcbnaa.TkM Go.Proofs.Ytlndhmkkffcbnaa.TkP Go.Proofs.Ytlndhmkkffcbnaa.TkQ Go.Proofs.Ytlndhmkkffcbnaa.TkW Go.Proofs.Ytlndhmkkffcbnaa.TkA Go.Proofs.Ytlndhmkkffcbnaa.TkN Go.Proofs.Ytlndhmkkffcbnaa.TkO Go.Proofs.Ytlndhmkkffcbnaa.TkL Go.Proofs.Ytlndhmkkffcbnaa.TkR Go.Proofs.Ytlndhmkkffcbnaa.TkS Go.Proofs.Ytlndhmkkffcbnaa.TkT Go.Proofs.Ytlndhmkkffcbnaa.TkU Go.Proofs.Ytlndhmkkffcbnaa.TkD
attribute [local go_sem high] max_imax min_imin
attribute [local go_sem ↓] Go.wp_at_zero Go.wp_at_succ
set_option linter.unusedVariables false
section
variable {w : World}
def ThR (w : World) (L : List Pr) (e : Ending) (w' : World) : Prop := ∃ a c, e = .returned (.slice a L.length c) ∧ Own w' w.heap.size 54 2 a L.length c (prs L) ∧ Below w.heap.size w w'
set_option maxHeartbeats 1000000 in
theorem theirs_any {a : Option Addr} {c : Nat} {L : List Pr} (h : Rd w 2 a L.length c (prs L)) (hl : L.length ≤ 100000) : Calls Try.prog 9 #[.slice a L.length c] w (ThR w L) := by
  have HR := Lib.hid h
  obtain ⟨n, HN⟩ : ∃ n, Hid (L.length = n) := ⟨_, Lib.hid rfl⟩
  have FIN : Hid (∀ a1 c1 w', Own w' w.heap.size 54 2 a1 n c1 (prs (L.take n)) → Below w.heap.size w w' → ThR w L (.returned (.slice a1 n c1)) w') := Lib.hid (by
    intro a1 c1 w' ho hb
    rw [List.take_of_length_le (by have := HN.out; omega)] at ho
    exact ⟨a1, c1, by rw [HN.out], by rw [HN.out]; exact ho, hb⟩)
  rw [HN.out] at HR hl ⊢
  clear h
  go_enter Try.func9, Try.ntmps9
  go_wp2_with fail
  go_loopw [3, 8] (fun v i wr => ∃ (k : Nat) (a1 : Option Addr) (c1 : Nat), k ≤ n ∧ i = .int .i64 k ∧ v = .slice a1 k c1 ∧ Hid (Own wr w.heap.size 54 2 a1 k c1 (prs (L.take k))) ∧ Hid (Below w.heap.size w wr)) (fun _ i _ => n - (intOf i).toNat)
  case atStart => exact ⟨0, none, 0, by omega, rfl, rfl, Lib.hid (Own.none_ _ _ _ _), Lib.hid (Below.refl _ _)⟩
  case round =>
    obtain ⟨k, a1, c1, hk, rfl, rfl, HO, HB⟩ := hrel
    by_cases hlt : k < n
    · obtain ⟨b0, off, ⟨x, y⟩, rfl, hp, hc0, hc1⟩ := rd_pair (rd_on (by omega) HR.out HB.out) hlt
      dsimp only at hc0 hc1
      have k0 : (0 : Int) ≤ (k : Int) := by omega
      have k1 : (k : Int) < (n : Int) := by omega
      have HLT := Lib.hid hlt
      have HP := Lib.hid hp
      have HZC : Hid (Chg (fun _ => False) wr ((wr.alloc (.cells #[.int .i64 x, .int .i64 y] 49)).alloc (.cells #[.int .i64 x, .int .i64 y] 54))) := Lib.hid (((Chg.refl _ _).alloc _).alloc _)
      have HZO := Lib.hid (HO.out.chg HZC.out (fun _ _ => id))
      have hzr := (Own.made (B := wr.heap.size) (size := 2) (wr.alloc (.cells #[.int .i64 x, .int .i64 y] 49)) #[.int .i64 x, .int .i64 y] 54 1 (by simp) (by unfold maxLen; omega) rfl).rd
      rw [show (wr.alloc (.cells #[.int .i64 x, .int .i64 y] 49)).heap.size = wr.heap.size + 1 by simp] at hzr
      have HZR := Lib.hid hzr
      have H1C : Hid (∀ u ∈ [Value.int .i64 x, Value.int .i64 y], u.oneCell' = true) := Lib.hid (by simp [Value.oneCell'])
      have HSZ : Hid (w.heap.size ≤ ((wr.alloc (.cells #[.int .i64 x, .int .i64 y] 49)).alloc (.cells #[.int .i64 x, .int .i64 y] 54)).heap.size) := Lib.hid (Nat.le_trans HB.out.size HZC.out.size)
      have HBZ := Lib.hid (HB.out.trans (HZC.out.none.mono HB.out.size))
      clear hp hlt hzr
      go_wp2_with (at_builtin; go_loud (refine wpList_app el30 (by omega) rfl (.tmp 12) (.tmp 18) rfl (B := w.heap.size) (by rfl) HZO.out (by rfl) HZR.out H1C.out (by omega) (by omega) HSZ.out ?_); intro a' c' w' hown hg hat)
      have HO2 : Hid (Own w' w.heap.size 54 2 a' (k + 1) c' (prs (L.take (k + 1)))) := Lib.hid (by
        rw [List.take_add_one, HP.out, Option.toList_some, prs_append]
        exact hown)
      have HB2 : Hid (Below w.heap.size w w') := Lib.hid ((Chg.of_grown' hg).below HBZ.out HSZ.out (fun k hk => (HZO.out.lt k hk).1))
      clear hown hg hat k1 k0
      go_roundw
      case rel => exact ⟨k + 1, _, _, HLT.out, by go_num, rfl, HO2, HB2⟩
      case measure => have := HLT.out; simp [intOf]; omega
    · obtain rfl : k = n := by omega
      have HF := Lib.hid (FIN.out _ _ _ HO.out HB.out)
      clear hlt
      go_wp2_with fail
      go_ret
      exact HF.out
end
end Go.Proofs.Ytlndhmkkffcbnaa.TkH
