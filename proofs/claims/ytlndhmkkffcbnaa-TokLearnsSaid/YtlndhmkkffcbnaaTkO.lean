/-
  ok, Vocab; halves.
-/
import Derived.Test.YtlndhmkkffcbnaaTkN
import Derived.WalkSpells
namespace Go.Proofs.Ytlndhmkkffcbnaa.TkO
open Go.RowKit Go.Proofs.Ytlndhmkkffcbnaa.Kit Go.Proofs.Ytlndhmkkffcbnaa.TkM Go.Proofs.Ytlndhmkkffcbnaa.TkP Go.Proofs.Ytlndhmkkffcbnaa.TkQ Go.Proofs.Ytlndhmkkffcbnaa.TkW Go.Proofs.Ytlndhmkkffcbnaa.TkA Go.Proofs.Ytlndhmkkffcbnaa.TkN
attribute [local go_sem high] max_imax min_imin
attribute [local go_sem ↓] Go.wp_at_zero Go.wp_at_succ
set_option linter.unusedVariables false
section
variable {w : World} {B g : Nat} {L : List Pr}
theorem ok_any (h : Tab w B g L) : Calls Try.prog 24 #[.pointer (some ⟨g, 0, none⟩)] w fun e w' => e = .returned (.bool true) ∧ w = w' := by
  obtain ⟨a, c, sa, sc, bm, h⟩ := h
  have c1 : w.cell? ⟨g, 1, none⟩ = some (.map (some bm)) := h.blk.cell 1 rfl
  have hne : ∀ w : World, (binOp .neq 61 (.map (some bm)) (.map none)).run Try.prog w = .ok (.bool true) w := fun w => Go.run_neq_map_nil (P := Try.prog) w 61 _ _ (some bm) Try.underlying61
  clear h
  go_enter Try.func24, Try.ntmps24
  go_wp2_with fail
  go_ret
  exact ⟨rfl, rfl⟩
theorem ok_nil : Calls Try.prog 24 #[.pointer none] w fun e w' => e = .returned (.bool false) ∧ w = w' := by
  go_enter Try.func24, Try.ntmps24
  go_wp2_with fail
  go_ret
  exact ⟨rfl, rfl⟩
theorem vocab_any (h : Tab w B g L) : Calls Try.prog 17 #[.pointer (some ⟨g, 0, none⟩)] w fun e w' => e = .returned (.int .i64 ((17 + L.length : Nat) : Int)) ∧ w = w' := by
  have HOK := Lib.hid (ok_any h)
  obtain ⟨a, c, sa, sc, bm, h⟩ := h
  have c2 : w.cell? ⟨g, 2, none⟩ = some (.slice sa (17 + L.length) sc) := h.blk.cell 2 rfl
  clear h
  obtain ⟨n, HN⟩ : ∃ n, Hid (17 + L.length = n) := ⟨_, rfl⟩
  rw [HN.out] at c2 ⊢
  go_enter Try.func17, Try.ntmps17
  go_wp2_with fail
  with_reducible refine HOK.out.mono ?_
  rintro e w1 ⟨rfl, rfl⟩
  go_wp2_with fail
  go_ret
  exact ⟨rfl, rfl⟩
theorem vocab_nil : Calls Try.prog 17 #[.pointer none] w fun e w' => e = .returned (.int .i64 0) ∧ w = w' := by
  have HOK := Lib.hid (ok_nil (w := w))
  go_enter Try.func17, Try.ntmps17
  go_wp2_with fail
  with_reducible refine HOK.out.mono ?_
  rintro e w1 ⟨rfl, rfl⟩
  go_wp2_with fail
  go_ret
  exact ⟨rfl, rfl⟩

/-- A text's cells; the tokens of a text. -/
def bys (b : List Int) : List Value := b.map (Value.int .u8)
def hv (b : List Int) : List Int := (b.map fun x => [x / 16 + 1, x % 16 + 1]).flatten
theorem hv_snoc (b : List Int) (x : Int) : hv (b ++ [x]) = hv b ++ [x / 16 + 1, x % 16 + 1] := by simp [hv]
theorem hv_len (b : List Int) : (hv b).length = 2 * b.length := by
  induction b with
  | nil => rfl
  | cons x b ih => simp [hv] at ih ⊢; omega
theorem bys_get {l : List Int} {k : Nat} {u : Value} (h : (bys l)[k]? = some u) : ∃ n, l[k]? = some n ∧ u = .int .u8 n := by
  unfold bys at h
  rw [List.getElem?_map] at h
  cases hl : l[k]? with
  | none => rw [hl] at h; simp at h
  | some n => rw [hl] at h; simp at h; exact ⟨n, rfl, h.symm⟩
def okB (b : List Int) : Prop := ∀ x ∈ b, 0 ≤ x ∧ x < 256
def HvR (w : World) (b : List Int) (e : Ending) (w' : World) : Prop := ∃ a c, e = .returned (.slice a (hv b).length c) ∧ Own w' w.heap.size 3 1 a (hv b).length c (ints (hv b)) ∧ Below w.heap.size w w'
set_option maxHeartbeats 1000000 in
theorem halves_any {a : Option Addr} {c : Nat} {b : List Int} (h : Rd w 1 a b.length c (bys b)) (hok : okB b) (hl : b.length ≤ 100000) : Calls Try.prog 26 #[.slice a b.length c] w (HvR w b) := by
  have HR := Lib.hid h
  have HOK := Lib.hid hok
  obtain ⟨n, HN⟩ : ∃ n, Hid (b.length = n) := ⟨_, rfl⟩
  rw [HN.out] at HR hl ⊢
  clear h hok
  go_enter Try.func26, Try.ntmps26
  go_wp2_with fail
  go_loopw [3, 8] (fun v i wr => ∃ (k : Nat) (a1 : Option Addr) (c1 : Nat), k ≤ n ∧ i = .int .i64 k ∧ v = .slice a1 (2 * k) c1 ∧ Hid (Own wr w.heap.size 3 1 a1 (2 * k) c1 (ints (hv (b.take k)))) ∧ Hid (Below w.heap.size w wr)) (fun _ i _ => n - (intOf i).toNat)
  case atStart => exact ⟨0, none, 0, by omega, rfl, rfl, Lib.hid (Own.none_ _ _ _ _), Lib.hid (Below.refl _ _)⟩
  case round =>
    obtain ⟨k, a1, c1, hk, rfl, rfl, HO, HB⟩ := hrel
    by_cases hlt : k < n
    · obtain ⟨b0, off, u, rfl, hu, hcell⟩ := (rd_on (by omega) HR.out HB.out).get hlt
      obtain ⟨x, hx, rfl⟩ := bys_get hu
      have hx2 := HOK.out x (List.mem_of_getElem? hx)
      have k0 : (0 : Int) ≤ (k : Int) := by omega
      have k1 : (k : Int) < (n : Int) := by omega
      have x0 := hx2.1
      have x1 := hx2.2
      clear hx2 hu
      have HLT := Lib.hid hlt
      have HZO := Lib.hid (HO.out.chg ((Chg.refl (fun _ => False) wr).alloc (.cells #[.int .i64 (x / 16 + 1), .int .i64 (x % 16 + 1)] 3)) (fun _ _ => id))
      have HZR := Lib.hid (Own.made (B := wr.heap.size) (size := 1) wr #[.int .i64 (x / 16 + 1), .int .i64 (x % 16 + 1)] 3 2 (Nat.le_refl _) (by unfold maxLen; omega) rfl).rd
      have H1C : Hid (∀ u ∈ [Value.int .i64 (x / 16 + 1), Value.int .i64 (x % 16 + 1)], u.oneCell' = true) := Lib.hid (by simp [Value.oneCell'])
      have HSZ : Hid (w.heap.size ≤ (wr.alloc (.cells #[.int .i64 (x / 16 + 1), .int .i64 (x % 16 + 1)] 3)).heap.size) := Lib.hid (by have := HB.out.size; simp; omega)
      go_wp2_with (at_builtin; refine wpList_app el24 (by omega) rfl (.tmp 12) (.tmp 21) rfl (B := w.heap.size) (by rfl) HZO.out (by rfl) HZR.out H1C.out (by omega) (by omega) HSZ.out ?_; intro a' c' w' hown hg hat)
      have HO2 : Hid (Own w' w.heap.size 3 1 a' (2 * (k + 1)) c' (ints (hv (b.take (k + 1))))) := Lib.hid (by
        rw [List.take_add_one, hx, Option.toList_some, hv_snoc, ← ints_append]
        exact hown)
      have HB2 : Hid (Below w.heap.size w w') := Lib.hid ((Chg.of_grown' hg).below (HB.out.alloc HB.out.size _) HSZ.out (fun k hk => (HZO.out.lt k hk).1))
      clear hown hg hat k1 hlt x0 x1 k0
      go_roundw
      case rel => exact ⟨k + 1, _, _, HLT.out, by go_num, rfl, HO2, HB2⟩
      case measure => have := HLT.out; simp [intOf]; omega
    · obtain rfl : k = n := by omega
      have HFIN : Hid (HvR w b (.returned (.slice a1 (2 * k) c1)) wr) := Lib.hid (by
        have ho := HO.out
        rw [List.take_of_length_le (by have := HN.out; omega)] at ho
        have e : (hv b).length = 2 * k := by rw [hv_len, HN.out]
        exact ⟨a1, c1, by rw [e], by rw [e]; exact ho, HB.out⟩)
      clear hlt
      go_wp2_with fail
      go_ret
      exact HFIN.out
end
end Go.Proofs.Ytlndhmkkffcbnaa.TkO
