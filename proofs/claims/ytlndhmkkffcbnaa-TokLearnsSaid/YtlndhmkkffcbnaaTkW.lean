/-
  A table in memory; empty.
-/
import Derived.Test.YtlndhmkkffcbnaaTkQ
import Derived.Laws.MakeOwn
namespace Go.Proofs.Ytlndhmkkffcbnaa.TkW
open Go.RowKit Go.Proofs.Ytlndhmkkffcbnaa.Kit Go.Proofs.Ytlndhmkkffcbnaa.TkM Go.Proofs.Ytlndhmkkffcbnaa.TkP Go.Proofs.Ytlndhmkkffcbnaa.TkQ
attribute [local go_sem high] max_imax min_imin
attribute [local go_sem ↓] Go.wp_at_zero Go.wp_at_succ
set_option linter.unusedVariables false

/-- A table, in memory. -/
structure Tb (w : World) (B g : Nat) (L : List Pr) (a : Option Addr) (c : Nat) (sa : Option Addr) (sc bm : Nat) : Prop where
  blk : Blk w g 63 #[.slice a L.length c, .map (some bm), .slice sa (17 + L.length) sc]
  low : B ≤ g
  mlow : B ≤ bm
  ms : Own w B 54 2 a L.length c (prs L)
  sz : Own w B 3 1 sa (17 + L.length) sc (ints (szs L))
  mp : MapP w bm L.length (tk 0 L)
section
variable {w w' : World} {B g c sc bm : Nat} {L : List Pr} {a sa : Option Addr}
theorem Tb.on (h : Tb w B g L a c sa sc bm) (hb : Below w.heap.size w w') : Tb w' B g L a c sa sc bm := by
  have hc := Chg.of_below hb (fun _ => False)
  exact ⟨hc.blk h.blk id, h.low, h.mlow, h.ms.chg hc (fun _ _ => id), h.sz.chg hc (fun _ _ => id), h.mp.chg hc id⟩
theorem Tb.drewN (h : Tb w B g L a c sa sc bm) (n : Nat) : Tb (w.drewN n) B g L a c sa sc bm := h.on (below_drewN (Below.refl _ _) n)

theorem own_of {B e size n c : Nat} {xs : List Value} {w : World} {g : Nat} {cs : Array Value} (hb : Blk w g e cs) (hB : B ≤ g) (hn : n ≤ c) (hc : c ≤ maxLen) (hs : cs.size = c * size) (hx : cs.toList.take (n * size) = xs) : Own w B e size (some ⟨g, 0, none⟩) n c xs := by
  subst hx
  refine ⟨⟨?_, .inr ⟨g, c, cs, rfl, hB, hb, hn, hc, hs, rfl⟩⟩⟩
  have h1 : n * size ≤ c * size := Nat.mul_le_mul_right _ hn
  rw [List.length_take, Array.length_toList, hs, Nat.min_eq_left h1]
def z17 : Array Value := (List.replicate 17 (Value.int .i64 0)).toArray
theorem run_make17 (w : World) : (Instr.makeSlice 24 (.int .i64 17) (.int .i64 17)).run Try.prog w = .ok (.slice (some ⟨w.heap.size, 0, none⟩) 17 17) (w.alloc (.cells z17 3)) := by
  have h0 : (Try.prog.info? 3).map (fun i => (i.zero, i.size, i.bytes)) = some (some (.int .i64 0), 1, 8) := by kernel_rfl
  obtain ⟨i, hi, h4⟩ := Option.map_eq_some_iff.1 h0
  injection h4 with h1 h4
  injection h4 with h2 h3
  have h := run_makeSlice (P := Try.prog) (w := w) 24 3 i (.int .i64 0) Try.underlying24 hi h1 .i64 .i64 17 17 (by omega) (by omega) (by rw [h2]; decide) (by rw [h3]; decide) (by omega)
  rw [h, h2]
  congr 3
  apply Array.toList_inj.1
  rw [show (Value.int IntKind.i64 0).cells = #[Value.int IntKind.i64 0] from rfl, toList_madeCells_one]
  rfl
/-- The sizes, as far as k of them are set. -/
def zl (k : Nat) : List Value := .int .i64 0 :: (List.replicate k (.int .i64 1) ++ List.replicate (16 - k) (.int .i64 0))
theorem zl_set {k : Nat} (hk : k < 16) : (zl k).toArray.setIfInBounds (k + 1) (.int .i64 1) = (zl (k + 1)).toArray := by
  unfold zl
  obtain ⟨m, hm⟩ : ∃ m, 16 - k = m + 1 := ⟨15 - k, by omega⟩
  rw [hm, show 16 - (k + 1) = m by omega, List.setIfInBounds_toArray, List.set_cons_succ, List.replicate_succ (n := m), List.set_append_right _ _ (by simp)]
  rw [List.length_replicate, Nat.sub_self, List.set_cons_zero, List.replicate_succ' (n := k), List.append_assoc]
  rfl
theorem zl_end : zl 16 = ints (szs []) := by simp [zl, ints, szs_nil, szB]

theorem empty_any : Calls Try.prog 22 #[] w fun e w' => e = .returned (.pointer (some ⟨w.heap.size + 1 + 1, 0, none⟩)) ∧ Tb w' w.heap.size (w.heap.size + 1 + 1) [] none 0 (some ⟨w.heap.size + 1, 0, none⟩) 17 w.heap.size ∧ Below w.heap.size w w' := by
  have hmm := @run_makeMap Try.prog
  have hms := run_make17
  go_enter Try.func22, Try.ntmps22
  go_wp2_with fail
  have m0 : MapP (((w.alloc (.map #[] 0)).alloc (.cells z17 3)).alloc (.cells #[.slice none 0 0, .map (some w.heap.size), .slice (some ⟨w.heap.size + 1, 0, none⟩) 17 17] 63)) w.heap.size 0 (fun _ => 0) := (MapP.made w).chg (((Chg.refl (fun _ => False) _).alloc _).alloc _) id
  have b0 : Blk (((w.alloc (.map #[] 0)).alloc (.cells z17 3)).alloc (.cells #[.slice none 0 0, .map (some w.heap.size), .slice (some ⟨w.heap.size + 1, 0, none⟩) 17 17] 63)) (w.heap.size + 1) 3 z17 := by
    have := (Blk.new (w.alloc (.map #[] 0)) z17 3).alloc (.cells #[.slice none 0 0, .map (some w.heap.size), .slice (some ⟨w.heap.size + 1, 0, none⟩) 17 17] 63)
    simpa using this
  have b1 : Blk (((w.alloc (.map #[] 0)).alloc (.cells z17 3)).alloc (.cells #[.slice none 0 0, .map (some w.heap.size), .slice (some ⟨w.heap.size + 1, 0, none⟩) 17 17] 63)) (w.heap.size + 1 + 1) 63 #[.slice none 0 0, .map (some w.heap.size), .slice (some ⟨w.heap.size + 1, 0, none⟩) 17 17] := by
    have := Blk.new ((w.alloc (.map #[] 0)).alloc (.cells z17 3)) #[.slice none 0 0, .map (some w.heap.size), .slice (some ⟨w.heap.size + 1, 0, none⟩) 17 17] 63
    simpa using this
  have l0 : Below w.heap.size w (((w.alloc (.map #[] 0)).alloc (.cells z17 3)).alloc (.cells #[.slice none 0 0, .map (some w.heap.size), .slice (some ⟨w.heap.size + 1, 0, none⟩) 17 17] 63)) := (((Below.refl _ w).alloc (Nat.le_refl _) _).alloc (by simp) _).alloc (by simp; omega) _
  obtain ⟨W, HW⟩ : ∃ W, Hid ((((w.alloc (.map #[] 0)).alloc (.cells z17 3)).alloc (.cells #[.slice none 0 0, .map (some w.heap.size), .slice (some ⟨w.heap.size + 1, 0, none⟩) 17 17] 63)) = W) := ⟨_, rfl⟩
  rw [HW.out] at m0 b0 b1 l0 ⊢
  rw [show z17 = (zl 0).toArray from rfl] at b0
  obtain ⟨gb, HGB⟩ : ∃ x, Hid (w.heap.size = x) := ⟨_, rfl⟩
  rw [HGB.out] at m0 b1 b0 ⊢
  have HM0 := Lib.hid m0
  have HB0 := Lib.hid b0
  have HB1 := Lib.hid b1
  have HL0 := Lib.hid l0
  clear m0 b0 b1 l0 hmm hms HW
  go_loopw [7] (fun i wr => ∃ k : Nat, k ≤ 16 ∧ i = .int .i64 k ∧ Hid (MapP wr gb 0 (fun _ => 0)) ∧ Hid (Blk wr (gb + 1) 3 (zl k).toArray) ∧ Hid (Blk wr (gb + 1 + 1) 63 #[.slice none 0 0, .map (some gb), .slice (some ⟨gb + 1, 0, none⟩) 17 17]) ∧ Hid (Below w.heap.size w wr)) (fun i _ => 16 - (intOf i).toNat)
  case atStart => exact ⟨0, by omega, rfl, HM0, HB0, HB1, HL0⟩
  case round =>
    obtain ⟨k, hk, rfl, HM, HZ, HT, HL⟩ := hrel
    by_cases hlt : k < 16
    · have c2 : wr.cell? ⟨gb + 1 + 1, 2, none⟩ = some (.slice (some ⟨gb + 1, 0, none⟩) 17 17) := HT.out.cell 2 rfl
      have k0 : (0 : Int) ≤ (k : Int) := by omega
      have k1 : (k : Int) < 16 := by omega
      have f1 := HZ.out.frozen (k + 1)
      obtain ⟨u, hu⟩ : ∃ u, (zl k).toArray[k + 1]? = some u := by
        have hl : (zl k).toArray.size = 17 := by simp [zl]; omega
        exact ⟨_, Array.getElem?_eq_getElem (show k + 1 < (zl k).toArray.size by omega)⟩
      have c3 := HZ.out.cell (k + 1) hu
      have HZ2 : Hid (Blk (wr.setCell ⟨gb + 1, k + 1, none⟩ (.int .i64 1)) (gb + 1) 3 (zl (k + 1)).toArray) := Lib.hid (by rw [← zl_set hlt]; exact HZ.out.set (k + 1) _)
      have HT2 : Hid (Blk (wr.setCell ⟨gb + 1, k + 1, none⟩ (.int .i64 1)) (gb + 1 + 1) 63 #[.slice none 0 0, .map (some gb), .slice (some ⟨gb + 1, 0, none⟩) 17 17]) := Lib.hid (HT.out.far (by simp) _)
      have HC : Hid (Chg (fun i => i = gb + 1) wr (wr.setCell ⟨gb + 1, k + 1, none⟩ (.int .i64 1))) := Lib.hid ((Chg.refl (fun i => i = gb + 1) wr).set (p := ⟨gb + 1, k + 1, none⟩) (.inl rfl) _)
      have HM2 := Lib.hid (HM.out.chg HC.out (by omega))
      have HL2 := Lib.hid (HC.out.below HL.out HL.out.size (fun i hi => by have := HGB.out; omega))
      clear hu
      go_wp2_with fail
      go_roundw
      case rel => exact ⟨k + 1, by omega, by go_num, HM2, HZ2, HT2, HL2⟩
      case measure => simp [intOf]; omega
    · obtain rfl : k = 16 := by omega
      have hz := HZ.out
      have HFIN : Hid (Tb wr gb (gb + 1 + 1) [] none 0 (some ⟨gb + 1, 0, none⟩) 17 gb) := Lib.hid ⟨HT.out, by omega, Nat.le_refl _, Own.none_ _ _ _ _, own_of hz (by omega) (Nat.le_refl _) (by unfold maxLen; omega) rfl (by rw [← zl_end]; rfl), HM.out⟩
      clear hlt
      go_wp2_with fail
      go_ret
      rw [HGB.out]
      exact ⟨rfl, HFIN.out, by rw [← HGB.out]; exact HL.out⟩
end
end Go.Proofs.Ytlndhmkkffcbnaa.TkW
