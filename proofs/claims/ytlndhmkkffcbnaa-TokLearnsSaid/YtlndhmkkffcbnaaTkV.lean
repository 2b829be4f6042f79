/-
  The document's sizes, halves.
-/
import Derived.Test.YtlndhmkkffcbnaaTkJ
namespace Go.Proofs.Ytlndhmkkffcbnaa.TkV
open Go.RowKit Go.Proofs.Ytlndhmkkffcbnaa.Kit Go.Proofs.Ytlndhmkkffcbnaa.TkM Go.Proofs.Ytlndhmkkffcbnaa.TkP Go.Proofs.Ytlndhmkkffcbnaa.TkQ Go.Proofs.Ytlndhmkkffcbnaa.TkW Go.Proofs.Ytlndhmkkffcbnaa.TkA Go.Proofs.Ytlndhmkkffcbnaa.TkN Go.Proofs.Ytlndhmkkffcbnaa.TkO Go.Proofs.Ytlndhmkkffcbnaa.TkL Go.Proofs.Ytlndhmkkffcbnaa.TkR Go.Proofs.Ytlndhmkkffcbnaa.TkS Go.Proofs.Ytlndhmkkffcbnaa.TkT Go.Proofs.Ytlndhmkkffcbnaa.TkU Go.Proofs.Ytlndhmkkffcbnaa.TkD Go.Proofs.Ytlndhmkkffcbnaa.TkF Go.Proofs.Ytlndhmkkffcbnaa.TkG Go.Proofs.Ytlndhmkkffcbnaa.TkE Go.Proofs.Ytlndhmkkffcbnaa.TkJ
attribute [local go_sem high] max_imax min_imin
attribute [local go_sem ↓] Go.wp_at_zero Go.wp_at_succ
set_option linter.unusedVariables false
section
variable {w : World}
def SzR (w : World) (L : List Pr) (e : Ending) (w' : World) : Prop := ∃ a c, e = .returned (.slice a (17 + L.length) c) ∧ Own w' w.heap.size 3 1 a (17 + L.length) c (ints (szs L)) ∧ Below w.heap.size w w'
set_option maxHeartbeats 4000000 in
theorem sizes_any {a : Option Addr} {c : Nat} {L : List Pr} (h : Rd w 2 a L.length c (prs L)) (hg : TkP.Good L) (hL : L.length ≤ 1000) : Calls Try.prog 30 #[.slice a L.length c] w (SzR w L) := by
  have HR := Lib.hid h
  have HG := Lib.hid hg
  have hmk := run_zl0
  have FIN : Hid (∀ a1 c1 w', Own w' w.heap.size 3 1 a1 (17 + L.length) c1 (ints (szs (L.take L.length))) → Below w.heap.size w w' → SzR w L (.returned (.slice a1 (17 + L.length) c1)) w') := Lib.hid (by
    intro a1 c1 w' ho hb
    rw [List.take_length] at ho
    exact ⟨a1, c1, rfl, ho, hb⟩)
  obtain ⟨n, HN⟩ : ∃ n, Hid (L.length = n) := ⟨_, Lib.hid rfl⟩
  rw [HN.out] at HR hL FIN ⊢
  clear h hg
  go_enter Try.func30, Try.ntmps30
  go_wp2_with fail
  have HZ0 := Lib.hid (Blk.new w (zl 0).toArray 3)
  have HB0 := Lib.hid ((Below.refl _ w).alloc (Nat.le_refl _) (.cells (zl 0).toArray 3))
  obtain ⟨gb, HGB⟩ : ∃ x, Hid (w.heap.size = x) := ⟨_, Lib.hid rfl⟩
  rw [HGB.out] at HZ0 ⊢
  clear hmk
  go_loopw [4] (fun i wr => ∃ k : Nat, k ≤ 16 ∧ i = .int .i64 ((k : Int) + 1) ∧ Hid (Blk wr gb 3 (zl k).toArray) ∧ Hid (Below w.heap.size w wr)) (fun i _ => 17 - (intOf i).toNat)
  case atStart => exact ⟨0, by omega, rfl, HZ0, HB0⟩
  case round =>
    obtain ⟨k, hk, rfl, HZ, HB⟩ := hrel
    by_cases hlt : k < 16
    · have k0 : (0 : Int) ≤ (k : Int) := by omega
      have k1 : (k : Int) < 16 := by omega
      have f1 := HZ.out.frozen (k + 1)
      have hzl := zl_len hk
      obtain ⟨u, hu⟩ : ∃ u, (zl k).toArray[k + 1]? = some u := ⟨_, Array.getElem?_eq_getElem (show k + 1 < (zl k).toArray.size by omega)⟩
      have c3 := HZ.out.cell (k + 1) hu
      have HZ2 : Hid (Blk (wr.setCell ⟨gb, k + 1, none⟩ (.int .i64 1)) gb 3 (zl (k + 1)).toArray) := Lib.hid (by rw [← zl_set hlt]; exact HZ.out.set (k + 1) _)
      have HB2 : Hid (Below w.heap.size w (wr.setCell ⟨gb, k + 1, none⟩ (.int .i64 1))) := Lib.hid (HB.out.setCell (by show w.heap.size ≤ gb; rw [HGB.out]; exact Nat.le_refl _) _)
      have HLT := Lib.hid hlt
      clear hu hlt hzl
      go_wp2_with fail
      go_roundw
      case rel => exact ⟨k + 1, HLT.out, by go_num, HZ2, HB2⟩
      case measure => have := HLT.out; simp [intOf]; omega
    · obtain rfl : k = 16 := by omega
      have HO0 := Lib.hid (zl_own (B := w.heap.size) HZ.out (by rw [HGB.out]; exact Nat.le_refl _))
      clear hlt
      go_wp2_with fail
      go_loopw [3, 5] (fun v i wr => ∃ (k : Nat) (a1 : Option Addr) (c1 : Nat), k ≤ n ∧ i = .int .i64 k ∧ v = .slice a1 (17 + k) c1 ∧ Hid (Own wr w.heap.size 3 1 a1 (17 + k) c1 (ints (szs (L.take k)))) ∧ Hid (Below w.heap.size w wr)) (fun _ i _ => n - (intOf i).toNat)
      case atStart => exact ⟨0, _, _, by omega, rfl, rfl, HO0, HB⟩
      case round =>
        obtain ⟨k, a1, c1, hk, rfl, rfl, HO, HB2⟩ := hrel
        by_cases hlt : k < n
        · obtain ⟨b0, off, ⟨x, y⟩, rfl, hp, hc0, hc1⟩ := rd_pair (rd_on (by omega) HR.out HB2.out) hlt
          dsimp only at hc0 hc1
          have HP := Lib.hid hp
          have hoka := HG.out k _ hp
          unfold okAt at hoka
          rw [List.length_take, Nat.min_eq_left (by have := HN.out; omega)] at hoka
          obtain ⟨ho1, ho2, ho3, ho4, _⟩ := hoka
          dsimp only at ho1 ho2 ho3 ho4
          have htl : (L.take k).length = k := by rw [List.length_take, Nat.min_eq_left (by have := HN.out; omega)]
          obtain ⟨b1, o1, hb1, e1, l1, cx⟩ := size_at HO.out.rd ho1 (by rw [htl]; exact ho2)
          obtain ⟨b1', o1', hb1', e2, l2, cy⟩ := size_at HO.out.rd ho3 (by rw [htl]; exact ho4)
          subst hb1
          injection hb1' with hb1'
          injection hb1' with e3 e4
          subst e3 e4
          obtain ⟨sx, HSX⟩ : ∃ s, Hid (szG (szs (L.take k)) x = s) := ⟨_, Lib.hid rfl⟩
          obtain ⟨sy, HSY⟩ : ∃ s, Hid (szG (szs (L.take k)) y = s) := ⟨_, Lib.hid rfl⟩
          have hsx := szG_in (L.take k) x
          have hsy := szG_in (L.take k) y
          rw [HSX.out] at cx hsx
          rw [HSY.out] at cy hsy
          have hsx0 := hsx.1
          have hsx1 := hsx.2
          have hsy0 := hsy.1
          have hsy1 := hsy.2
          obtain ⟨xn, rfl⟩ : ∃ xn : Nat, x = xn := ⟨x.toNat, e1.symm⟩
          obtain ⟨yn, rfl⟩ : ∃ yn : Nat, y = yn := ⟨y.toNat, e2.symm⟩
          rw [Int.toNat_natCast] at cx cy
          have k0 : (0 : Int) ≤ (k : Int) := by omega
          have k1 : (k : Int) < (n : Int) := by omega
          have x0 : (0 : Int) ≤ (xn : Int) := by omega
          have y0 : (0 : Int) ≤ (yn : Int) := by omega
          have HLT := Lib.hid hlt
          have HLL := Lib.hid hL
          have HST : Hid (szs (L.take (k + 1)) = szs (L.take k) ++ [imin (sx + sy) 1048576]) := Lib.hid (by
            rw [List.take_add_one, HP.out, Option.toList_some, szs_snoc]
            congr 2
            unfold szN
            dsimp only
            rw [HSX.out, HSY.out])
          have HWP' : Hid (Chg (fun _ => False) wr (wr.drew.alloc (.cells #[.int .i64 (imin (sx + sy) 1048576)] 3))) := Lib.hid (((Chg.refl _ _).drew).alloc _)
          have HO3 := Lib.hid (HO.out.chg HWP'.out (fun _ _ => id))
          have HZR := Lib.hid (Own.made (B := wr.heap.size) (size := 1) wr.drew #[.int .i64 (imin (sx + sy) 1048576)] 3 1 (Nat.le_refl _) (by unfold maxLen; omega) rfl).rd
          rw [show wr.drew.heap.size = wr.heap.size from rfl] at HZR
          have H1C : Hid (∀ u ∈ [Value.int .i64 (imin (sx + sy) 1048576)], u.oneCell' = true) := Lib.hid (by simp [Value.oneCell'])
          have HSZ : Hid (w.heap.size ≤ (wr.drew.alloc (.cells #[.int .i64 (imin (sx + sy) 1048576)] 3)).heap.size) := Lib.hid (Nat.le_trans HB2.out.size HWP'.out.size)
          have HEND : Hid (∀ a' c' w', Own w' w.heap.size 3 1 a' (17 + k + 1) c' (ints (szs (L.take k)) ++ [.int .i64 (imin (sx + sy) 1048576)]) → (wr.drew.alloc (.cells #[.int .i64 (imin (sx + sy) 1048576)] 3)).grownBy w' (ob (some ⟨b1, o1, none⟩)) → Own w' w.heap.size 3 1 a' (17 + (k + 1)) c' (ints (szs (L.take (k + 1)))) ∧ Below w.heap.size w w') := Lib.hid (by
            intro a' c' w' ho hg
            refine ⟨?_, (Chg.of_grown' hg).below (HB2.out.trans (HWP'.out.none.mono HB2.out.size)) HSZ.out (fun k hk => (HO3.out.lt k hk).1)⟩
            rw [HST.out, ← ints_append]
            exact ho)
          have hsum : IntKind.i64.wrap (sx + sy) = sx + sy := IntWalk.i64_in _ (by omega)
          clear hp hlt e1 e2 hsx hsy htl
          go_upto_region 9 with (fail)
          refine Ways.start (S := (fun w' => w'.cell? ⟨b0, off + k * 2, none⟩ = some (.int .i64 (xn : Int)) ∧ w'.cell? ⟨b0, off + k * 2 + 1, none⟩ = some (.int .i64 (yn : Int)) ∧ w'.cell? ⟨b1, o1 + xn, none⟩ = some (.int .i64 sx) ∧ w'.cell? ⟨b1, o1 + yn, none⟩ = some (.int .i64 sy))) (last := 20) (by kernel_rfl) ?_
          have hHeld : (fun w' => w'.cell? ⟨b0, off + k * 2, none⟩ = some (.int .i64 (xn : Int)) ∧ w'.cell? ⟨b0, off + k * 2 + 1, none⟩ = some (.int .i64 (yn : Int)) ∧ w'.cell? ⟨b1, o1 + xn, none⟩ = some (.int .i64 sx) ∧ w'.cell? ⟨b1, o1 + yn, none⟩ = some (.int .i64 sy)) wr.drew := by (try dsimp only); go_keep
          refine Ways.take (i := 0) (o := { dst := some 20, op := Op.move (Operand.tmp 3), type := 24, pos := "ref.go:84", after := #[], guard := none }) (v := ?_) [20] (by rfl) (by rfl) rfl (by kernel_rfl) (by kernel_rfl) (by kernel_rfl) (by kernel_rfl) (fun _ _ _ h => h) (Or.inl ⟨by rfl, ?_⟩) (by assumption) ?_
          rotate_left 1
          · (intro w hSw; (try dsimp only at hSw); go_simp; (try with_reducible rfl))
          try simp only [Act.put, List.setIfInBounds_toArray, List.set_cons_zero, List.set_cons_succ]
          refine Ways.take (i := 1) (o := { dst := some 21, op := Op.move (Operand.tmp 3), type := 24, pos := "ref.go:84", after := #[], guard := none }) (v := ?_) [7, 8, 17, 18, 19, 20] (by rfl) (by rfl) rfl (by kernel_rfl) (by kernel_rfl) (by kernel_rfl) (by kernel_rfl) (fun _ _ _ h => h) (Or.inl ⟨by rfl, ?_⟩) (by assumption) ?_
          rotate_left 1
          · (intro w hSw; (try dsimp only at hSw); go_simp; (try with_reducible rfl))
          try simp only [Act.put, List.setIfInBounds_toArray, List.set_cons_zero, List.set_cons_succ]
          refine Ways.take (i := 2) (o := { dst := some 22, op := Op.move (Operand.tmp 0), type := 22, pos := "ref.go:84", after := #[], guard := none }) (v := ?_) [4, 5, 6, 7, 8, 17, 18, 19, 20] (by rfl) (by rfl) rfl (by kernel_rfl) (by kernel_rfl) (by kernel_rfl) (by kernel_rfl) (fun _ _ _ h => h) (Or.inl ⟨by rfl, ?_⟩) (by assumption) ?_
          rotate_left 1
          · (intro w hSw; (try dsimp only at hSw); go_simp; (try with_reducible rfl))
          try simp only [Act.put, List.setIfInBounds_toArray, List.set_cons_zero, List.set_cons_succ]
          refine Ways.take (i := 3) (o := { dst := some 23, op := Op.move (Operand.tmp 5), type := 3, pos := "ref.go:84", after := #[], guard := none }) (v := ?_) [4, 5, 6, 7, 8, 17, 18, 19, 20] (by rfl) (by rfl) rfl (by kernel_rfl) (by kernel_rfl) (by kernel_rfl) (by kernel_rfl) (fun _ _ _ h => h) (Or.inl ⟨by rfl, ?_⟩) (by assumption) ?_
          rotate_left 1
          · (intro w hSw; (try dsimp only at hSw); go_simp; (try with_reducible rfl))
          try simp only [Act.put, List.setIfInBounds_toArray, List.set_cons_zero, List.set_cons_succ]
          refine Ways.take (i := 4) (o := { dst := some 24, op := Op.indexAddr 22 (Operand.tmp 22) (Operand.tmp 23), type := 0, pos := "ref.go:84", after := #[{ on := 2, ground := Ground.data }, { on := 3, ground := Ground.data }], guard := none }) (v := ?_) [5, 6, 7, 8, 17, 18, 19, 20] (by rfl) (by rfl) rfl (by kernel_rfl) (by kernel_rfl) (by kernel_rfl) (by kernel_rfl) (fun _ _ _ h => h) (Or.inl ⟨by rfl, ?_⟩) (by assumption) ?_
          rotate_left 1
          · (intro w hSw; (try dsimp only at hSw); go_simp; (try with_reducible rfl))
          try simp only [Act.put, List.setIfInBounds_toArray, List.set_cons_zero, List.set_cons_succ]
          refine Ways.take (i := 5) (o := { dst := some 25, op := Op.fieldAddr 49 (Operand.tmp 24) 0, type := 0, pos := "ref.go:84", after := #[{ on := 4, ground := Ground.data }], guard := none }) (v := ?_) [6, 7, 8, 17, 18, 19, 20] (by rfl) (by rfl) rfl (by kernel_rfl) (by kernel_rfl) (by kernel_rfl) (by kernel_rfl) (fun _ _ _ h => h) (Or.inl ⟨by rfl, ?_⟩) (by assumption) ?_
          rotate_left 1
          · (intro w hSw; (try dsimp only at hSw); go_simp; (try with_reducible rfl))
          try simp only [Act.put, List.setIfInBounds_toArray, List.set_cons_zero, List.set_cons_succ]
          refine Ways.take (i := 6) (o := { dst := some 26, op := Op.load 3 (Operand.tmp 25), type := 3, pos := "ref.go:84", after := #[{ on := 5, ground := Ground.data }], guard := none }) (v := ?_) [7, 8, 17, 18, 19, 20] (by rfl) (by rfl) rfl (by kernel_rfl) (by kernel_rfl) (by kernel_rfl) (by kernel_rfl) (fun _ _ _ h => h) (Or.inl ⟨by rfl, ?_⟩) (by assumption) ?_
          rotate_left 1
          · (intro w hSw; (try dsimp only at hSw); go_simp; (try with_reducible rfl))
          try simp only [Act.put, List.setIfInBounds_toArray, List.set_cons_zero, List.set_cons_succ]
          refine Ways.take (i := 7) (o := { dst := some 27, op := Op.indexAddr 24 (Operand.tmp 21) (Operand.tmp 26), type := 0, pos := "ref.go:84", after := #[{ on := 1, ground := Ground.data }, { on := 6, ground := Ground.data }], guard := none }) (v := ?_) [8, 17, 18, 19, 20] (by rfl) (by rfl) rfl (by kernel_rfl) (by kernel_rfl) (by kernel_rfl) (by kernel_rfl) (fun _ _ _ h => h) (Or.inl ⟨by rfl, ?_⟩) (by assumption) ?_
          rotate_left 1
          · (intro w hSw; (try dsimp only at hSw); go_simp; (try with_reducible rfl))
          try simp only [Act.put, List.setIfInBounds_toArray, List.set_cons_zero, List.set_cons_succ]
          refine Ways.take (i := 8) (o := { dst := some 28, op := Op.load 3 (Operand.tmp 27), type := 3, pos := "ref.go:84", after := #[{ on := 7, ground := Ground.data }], guard := none }) (v := ?_) [17, 18, 19, 20] (by rfl) (by rfl) rfl (by kernel_rfl) (by kernel_rfl) (by kernel_rfl) (by kernel_rfl) (fun _ _ _ h => h) (Or.inl ⟨by rfl, ?_⟩) (by assumption) ?_
          rotate_left 1
          · (intro w hSw; (try dsimp only at hSw); go_simp; (try with_reducible rfl))
          try simp only [Act.put, List.setIfInBounds_toArray, List.set_cons_zero, List.set_cons_succ]
          refine Ways.take (i := 9) (o := { dst := some 29, op := Op.move (Operand.tmp 3), type := 24, pos := "ref.go:84", after := #[], guard := none }) (v := ?_) [15, 16, 17, 18, 19, 20] (by rfl) (by rfl) rfl (by kernel_rfl) (by kernel_rfl) (by kernel_rfl) (by kernel_rfl) (fun _ _ _ h => h) (Or.inl ⟨by rfl, ?_⟩) (by assumption) ?_
          rotate_left 1
          · (intro w hSw; (try dsimp only at hSw); go_simp; (try with_reducible rfl))
          try simp only [Act.put, List.setIfInBounds_toArray, List.set_cons_zero, List.set_cons_succ]
          refine Ways.take (i := 10) (o := { dst := some 30, op := Op.move (Operand.tmp 0), type := 22, pos := "ref.go:84", after := #[], guard := none }) (v := ?_) [12, 13, 14, 15, 16, 17, 18, 19, 20] (by rfl) (by rfl) rfl (by kernel_rfl) (by kernel_rfl) (by kernel_rfl) (by kernel_rfl) (fun _ _ _ h => h) (Or.inl ⟨by rfl, ?_⟩) (by assumption) ?_
          rotate_left 1
          · (intro w hSw; (try dsimp only at hSw); go_simp; (try with_reducible rfl))
          try simp only [Act.put, List.setIfInBounds_toArray, List.set_cons_zero, List.set_cons_succ]
          refine Ways.take (i := 11) (o := { dst := some 31, op := Op.move (Operand.tmp 5), type := 3, pos := "ref.go:84", after := #[], guard := none }) (v := ?_) [12, 13, 14, 15, 16, 17, 18, 19, 20] (by rfl) (by rfl) rfl (by kernel_rfl) (by kernel_rfl) (by kernel_rfl) (by kernel_rfl) (fun _ _ _ h => h) (Or.inl ⟨by rfl, ?_⟩) (by assumption) ?_
          rotate_left 1
          · (intro w hSw; (try dsimp only at hSw); go_simp; (try with_reducible rfl))
          try simp only [Act.put, List.setIfInBounds_toArray, List.set_cons_zero, List.set_cons_succ]
          refine Ways.take (i := 12) (o := { dst := some 32, op := Op.indexAddr 22 (Operand.tmp 30) (Operand.tmp 31), type := 0, pos := "ref.go:84", after := #[{ on := 10, ground := Ground.data }, { on := 11, ground := Ground.data }], guard := none }) (v := ?_) [13, 14, 15, 16, 17, 18, 19, 20] (by rfl) (by rfl) rfl (by kernel_rfl) (by kernel_rfl) (by kernel_rfl) (by kernel_rfl) (fun _ _ _ h => h) (Or.inl ⟨by rfl, ?_⟩) (by assumption) ?_
          rotate_left 1
          · (intro w hSw; (try dsimp only at hSw); go_simp; (try with_reducible rfl))
          try simp only [Act.put, List.setIfInBounds_toArray, List.set_cons_zero, List.set_cons_succ]
          refine Ways.take (i := 13) (o := { dst := some 33, op := Op.fieldAddr 49 (Operand.tmp 32) 1, type := 0, pos := "ref.go:84", after := #[{ on := 12, ground := Ground.data }], guard := none }) (v := ?_) [14, 15, 16, 17, 18, 19, 20] (by rfl) (by rfl) rfl (by kernel_rfl) (by kernel_rfl) (by kernel_rfl) (by kernel_rfl) (fun _ _ _ h => h) (Or.inl ⟨by rfl, ?_⟩) (by assumption) ?_
          rotate_left 1
          · (intro w hSw; (try dsimp only at hSw); go_simp; (try with_reducible rfl))
          try simp only [Act.put, List.setIfInBounds_toArray, List.set_cons_zero, List.set_cons_succ]
          refine Ways.take (i := 14) (o := { dst := some 34, op := Op.load 3 (Operand.tmp 33), type := 3, pos := "ref.go:84", after := #[{ on := 13, ground := Ground.data }], guard := none }) (v := ?_) [15, 16, 17, 18, 19, 20] (by rfl) (by rfl) rfl (by kernel_rfl) (by kernel_rfl) (by kernel_rfl) (by kernel_rfl) (fun _ _ _ h => h) (Or.inl ⟨by rfl, ?_⟩) (by assumption) ?_
          rotate_left 1
          · (intro w hSw; (try dsimp only at hSw); go_simp; (try with_reducible rfl))
          try simp only [Act.put, List.setIfInBounds_toArray, List.set_cons_zero, List.set_cons_succ]
          refine Ways.take (i := 15) (o := { dst := some 35, op := Op.indexAddr 24 (Operand.tmp 29) (Operand.tmp 34), type := 0, pos := "ref.go:84", after := #[{ on := 9, ground := Ground.data }, { on := 14, ground := Ground.data }], guard := none }) (v := ?_) [16, 17, 18, 19, 20] (by rfl) (by rfl) rfl (by kernel_rfl) (by kernel_rfl) (by kernel_rfl) (by kernel_rfl) (fun _ _ _ h => h) (Or.inl ⟨by rfl, ?_⟩) (by assumption) ?_
          rotate_left 1
          · (intro w hSw; (try dsimp only at hSw); go_simp; (try with_reducible rfl))
          try simp only [Act.put, List.setIfInBounds_toArray, List.set_cons_zero, List.set_cons_succ]
          refine Ways.take (i := 16) (o := { dst := some 36, op := Op.load 3 (Operand.tmp 35), type := 3, pos := "ref.go:84", after := #[{ on := 15, ground := Ground.data }], guard := none }) (v := ?_) [17, 18, 19, 20] (by rfl) (by rfl) rfl (by kernel_rfl) (by kernel_rfl) (by kernel_rfl) (by kernel_rfl) (fun _ _ _ h => h) (Or.inl ⟨by rfl, ?_⟩) (by assumption) ?_
          rotate_left 1
          · (intro w hSw; (try dsimp only at hSw); go_simp; (try with_reducible rfl))
          try simp only [Act.put, List.setIfInBounds_toArray, List.set_cons_zero, List.set_cons_succ]
          refine Ways.take (i := 17) (o := { dst := some 37, op := Op.binOp BinOp.add 3 (Operand.tmp 28) (Operand.tmp 36) 3, type := 3, pos := "ref.go:84", after := #[{ on := 8, ground := Ground.data }, { on := 16, ground := Ground.data }], guard := none }) (v := ?_) [18, 19, 20] (by rfl) (by rfl) rfl (by kernel_rfl) (by kernel_rfl) (by kernel_rfl) (by kernel_rfl) (fun _ _ _ h => h) (Or.inl ⟨by rfl, ?_⟩) (by assumption) ?_
          rotate_left 1
          · (intro w hSw; (try dsimp only at hSw); go_simp; (try with_reducible rfl))
          try simp only [Act.put, List.setIfInBounds_toArray, List.set_cons_zero, List.set_cons_succ]
          refine Ways.take (i := 18) (o := { dst := some 38, op := Op.call { callee := Callee.builtin Builtin.min, args := #[Operand.tmp 37, Operand.const (Value.int IntKind.i64 1048576)], argTypes := #[3, 3] }, type := 3, pos := "ref.go:84", after := #[{ on := 17, ground := Ground.data }], guard := none }) (v := ?_) [19, 20] (by rfl) (by rfl) rfl (by kernel_rfl) (by kernel_rfl) (by kernel_rfl) (by kernel_rfl) (fun _ _ _ h => h) (Or.inl ⟨by rfl, ?_⟩) (by assumption) ?_
          rotate_left 1
          · (intro w hSw; (try dsimp only at hSw); go_simp; (try with_reducible rfl))
          try simp only [Act.put, List.setIfInBounds_toArray, List.set_cons_zero, List.set_cons_succ]
          refine Ways.only (i := 19) (by kernel_rfl) (wpOp_step (o := { dst := some 39, op := Op.buildSlice 24 1 #[(0, Operand.tmp 38)], type := 24, pos := "ref.go:84", after := #[{ on := 18, ground := Ground.data }], guard := none }) rfl (fun K hK => ?_))
          go_simp
          refine hK _ _ ⟨fun hlast => ?_, ?_⟩
          · (try dsimp only); go_keep
          clear hK K
          try simp only [Act.put, List.setIfInBounds_toArray, List.set_cons_zero, List.set_cons_succ]
          refine Ways.only (i := 20) (by kernel_rfl) (wpOp_step (o := { dst := some 40, op := Op.call { callee := Callee.builtin Builtin.append, args := #[Operand.tmp 20, Operand.tmp 39], argTypes := #[24, 24] }, type := 24, pos := "ref.go:84", after := #[{ on := 0, ground := Ground.data }, { on := 19, ground := Ground.data }], guard := none }) rfl (fun K hK => ?_))
          refine step_app el24 (by omega) (by rfl) (.tmp 20) (.tmp 39) (by rfl) (by rfl) HO3.out (by rfl) HZR.out H1C.out (by have := HLL.out; have := HLT.out; omega) (by have := HLL.out; have := HLT.out; omega) HSZ.out ?_
          intro a9 c9 w9 ho9 hg9 ha9
          have HF := Lib.hid (HEND.out a9 c9 w9 ho9 hg9)
          clear ho9 hg9 ha9
          refine hK _ _ ⟨fun hlast => ?_, ?_⟩
          · exact absurd (Eq.trans (Eq.symm hlast) (by kernel_rfl)) (by decide : ¬ false = true)
          clear hK K
          try simp only [Act.put, List.setIfInBounds_toArray, List.set_cons_zero, List.set_cons_succ]
          refine Ways.only (i := 21) (by kernel_rfl) (wpOp_step (o := { dst := some 3, op := Op.assign (Operand.tmp 40), type := 24, pos := "ref.go:84", after := #[{ on := 20, ground := Ground.data }, { on := 20, ground := Ground.chain }, { on := 0, ground := Ground.phase }, { on := 1, ground := Ground.phase }, { on := 2, ground := Ground.phase }, { on := 3, ground := Ground.phase }, { on := 4, ground := Ground.phase }, { on := 5, ground := Ground.phase }, { on := 6, ground := Ground.phase }, { on := 7, ground := Ground.phase }, { on := 8, ground := Ground.phase }, { on := 9, ground := Ground.phase }, { on := 10, ground := Ground.phase }, { on := 11, ground := Ground.phase }, { on := 12, ground := Ground.phase }, { on := 13, ground := Ground.phase }, { on := 14, ground := Ground.phase }, { on := 15, ground := Ground.phase }, { on := 16, ground := Ground.phase }, { on := 17, ground := Ground.phase }, { on := 18, ground := Ground.phase }, { on := 19, ground := Ground.phase }, { on := 20, ground := Ground.phase }], guard := none }) rfl (fun K hK => ?_))
          go_simp
          refine hK _ _ ⟨fun hlast => ?_, ?_⟩
          · exact absurd (Eq.trans (Eq.symm hlast) (by kernel_rfl)) (by decide : ¬ false = true)
          clear hK K
          try simp only [Act.put, List.setIfInBounds_toArray, List.set_cons_zero, List.set_cons_succ]
          refine Ways.done (by kernel_rfl) ?_ _
          clear hc0 hc1 cx cy hsum
          go_wp2_with fail
          go_roundw
          case rel => exact ⟨k + 1, HLT.out, by omega, a9, c9, ⟨rfl, by omega, rfl⟩, Lib.hid HF.out.1, Lib.hid HF.out.2⟩
          case measure => have := HLT.out; simp [intOf]; omega
        · obtain rfl : k = n := by omega
          have HF := Lib.hid (FIN.out a1 c1 wr HO.out HB2.out)
          clear hlt
          go_wp2_with fail
          go_ret
          exact HF.out
end
end Go.Proofs.Ytlndhmkkffcbnaa.TkV
