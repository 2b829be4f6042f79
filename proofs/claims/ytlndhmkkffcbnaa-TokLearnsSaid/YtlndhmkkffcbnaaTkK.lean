/-
  The document's halves; once.
-/
import Derived.Test.YtlndhmkkffcbnaaTkV
namespace Go.Proofs.Ytlndhmkkffcbnaa.TkK
open Go.RowKit Go.Proofs.Ytlndhmkkffcbnaa.Kit Go.Proofs.Ytlndhmkkffcbnaa.TkM Go.Proofs.Ytlndhmkkffcbnaa.TkP Go.Proofs.Ytlndhmkkffcbnaa.TkQ Go.Proofs.Ytlndhmkkffcbnaa.TkW Go.Proofs.Ytlndhmkkffcbnaa.TkA Go.Proofs.Ytlndhmkkffcbnaa.TkN Go.Proofs.Ytlndhmkkffcbnaa.TkO Go.Proofs.Ytlndhmkkffcbnaa.TkL Go.Proofs.Ytlndhmkkffcbnaa.TkR Go.Proofs.Ytlndhmkkffcbnaa.TkS Go.Proofs.Ytlndhmkkffcbnaa.TkT Go.Proofs.Ytlndhmkkffcbnaa.TkU Go.Proofs.Ytlndhmkkffcbnaa.TkD Go.Proofs.Ytlndhmkkffcbnaa.TkF Go.Proofs.Ytlndhmkkffcbnaa.TkG Go.Proofs.Ytlndhmkkffcbnaa.TkE Go.Proofs.Ytlndhmkkffcbnaa.TkJ Go.Proofs.Ytlndhmkkffcbnaa.TkV
attribute [local go_sem high] max_imax min_imin
attribute [local go_sem ↓] Go.wp_at_zero Go.wp_at_succ
set_option linter.unusedVariables false
section
variable {w : World}
set_option maxHeartbeats 2000000 in
theorem dhalves_any {a : Option Addr} {c : Nat} {b : List Int} (h : Rd w 1 a b.length c (bys b)) (hok : okB b) (hl : b.length ≤ 100000) : Calls Try.prog 28 #[.slice a b.length c] w (HvR w b) := by
  have HR := Lib.hid h
  have HOK := Lib.hid hok
  obtain ⟨n, HN⟩ : ∃ n, Hid (b.length = n) := ⟨_, Lib.hid rfl⟩
  rw [HN.out] at HR hl ⊢
  clear h hok
  go_enter Try.func28, Try.ntmps28
  go_wp2_with fail
  go_loopw [3, 4] (fun v i wr => ∃ (k : Nat) (a1 : Option Addr) (c1 : Nat), k ≤ n ∧ i = .int .i64 k ∧ v = .slice a1 (2 * k) c1 ∧ Hid (Own wr w.heap.size 3 1 a1 (2 * k) c1 (ints (hv (b.take k)))) ∧ Hid (Below w.heap.size w wr)) (fun _ i _ => n - (intOf i).toNat)
  case atStart => exact ⟨0, none, 0, by omega, rfl, rfl, Lib.hid (Own.none_ _ _ _ _), Lib.hid (Below.refl _ _)⟩
  case round =>
    obtain ⟨k, a1, c1, hk, rfl, rfl, HO, HB⟩ := hrel
    by_cases hlt : k < n
    · obtain ⟨b0, off, u, rfl, hu, hcell⟩ := (rd_on (by omega) HR.out HB.out).get hlt
      obtain ⟨x, hx, rfl⟩ := bys_get hu
      have hx2 := HOK.out x (List.mem_of_getElem? hx)
      have k0 : (0 : Int) ≤ (k : Int) := by omega
      have k1 : (k : Int) < (n : Int) := by omega
      have x0 := hx2.1
      have x1 := hx2.2
      have HLT := Lib.hid hlt
      have HWP' : Hid (Chg (fun _ => False) wr (wr.drew.alloc (.cells #[.int .i64 (x / 16 + 1), .int .i64 (x % 16 + 1)] 3))) := Lib.hid (((Chg.refl _ _).drew).alloc _)
      have HZO := Lib.hid (HO.out.chg HWP'.out (fun _ _ => id))
      have HZR := Lib.hid (Own.made (B := wr.heap.size) (size := 1) wr.drew #[.int .i64 (x / 16 + 1), .int .i64 (x % 16 + 1)] 3 2 (Nat.le_refl _) (by unfold maxLen; omega) rfl).rd
      have H1C : Hid (∀ u ∈ [Value.int .i64 (x / 16 + 1), Value.int .i64 (x % 16 + 1)], u.oneCell' = true) := Lib.hid (by simp [Value.oneCell'])
      have HSZ : Hid (w.heap.size ≤ (wr.drew.alloc (.cells #[.int .i64 (x / 16 + 1), .int .i64 (x % 16 + 1)] 3)).heap.size) := Lib.hid (Nat.le_trans HB.out.size HWP'.out.size)
      have HEND : Hid (∀ a' c' w', Own w' w.heap.size 3 1 a' (2 * k + 2) c' (ints (hv (b.take k)) ++ [.int .i64 (x / 16 + 1), .int .i64 (x % 16 + 1)]) → (wr.drew.alloc (.cells #[.int .i64 (x / 16 + 1), .int .i64 (x % 16 + 1)] 3)).grownBy w' (ob a1) → Own w' w.heap.size 3 1 a' (2 * (k + 1)) c' (ints (hv (b.take (k + 1)))) ∧ Below w.heap.size w w') := Lib.hid (by
        intro a' c' w' ho hg
        refine ⟨?_, (Chg.of_grown' hg).below (HB.out.trans (HWP'.out.none.mono HB.out.size)) HSZ.out (fun k hk => (HZO.out.lt k hk).1)⟩
        rw [List.take_add_one, hx, Option.toList_some, hv_snoc, ← ints_append]
        exact ho)
      have q1 : x.tdiv 16 = x / 16 := Int.tdiv_eq_ediv_of_nonneg x0
      have q2 : x.tmod 16 = x % 16 := Int.tmod_eq_emod_of_nonneg x0
      have q3 : IntKind.u8.wrap (x / 16) = x / 16 := IntWalk.u8_in _ (by omega)
      have q4 : IntKind.u8.wrap (x % 16) = x % 16 := IntWalk.u8_in _ (by omega)
      have q5 : IntKind.i64.wrap (x / 16) = x / 16 := IntWalk.i64_in _ (by omega)
      have q6 : IntKind.i64.wrap (x % 16) = x % 16 := IntWalk.i64_in _ (by omega)
      have q7 : IntKind.i64.wrap (x / 16 + 1) = x / 16 + 1 := IntWalk.i64_in _ (by omega)
      have q8 : IntKind.i64.wrap (x % 16 + 1) = x % 16 + 1 := IntWalk.i64_in _ (by omega)
      clear hx2 hu hlt hx
      go_upto_region 5 with (fail)
      go_region_law (refine step_app el24 (by omega) (by rfl) (.tmp 11) (.tmp 26) (by rfl) (by rfl) HZO.out (by rfl) HZR.out H1C.out (by omega) (by omega) HSZ.out ?_; intro a9 c9 w9 ho9 hg9 ha9; have HF := Lib.hid (HEND.out a9 c9 w9 ho9 hg9); clear ho9 hg9 ha9)
      all_goals
        clear q1 q2 q3 q4 q5 q6 q7 q8
        go_wp2_with fail
        go_roundw
        case rel => exact ⟨k + 1, a9, c9, HLT.out, by go_num, rfl, Lib.hid HF.out.1, Lib.hid HF.out.2⟩
        case measure => have := HLT.out; simp [intOf]; omega
    · obtain rfl : k = n := by omega
      have HFIN : Hid (HvR w b (.returned (.slice a1 (2 * k) c1)) wr) := Lib.hid (by
        have ho := HO.out
        rw [List.take_of_length_le (by have := HN.out; omega)] at ho
        have e : (hv b).length = 2 * k := by rw [hv_len, HN.out]
        exact ⟨a1, c1, by rw [e], by rw [e]; exact ho, HB.out⟩)
      clear hlt
      go_wp2_with fail
      go_ret
      exact HFIN.out
def OnceR (w : World) (l : List Int) (p : Pr) (t : Int) (a : Option Addr) (c : Nat) (e : Ending) (w' : World) : Prop :=
  Below w.heap.size w w' ∧ ((∃ i a1 c1, occ l p i ∧ (∀ j, j < i → ¬ occ l p j) ∧ e = .returned (.tuple #[.slice a1 (put l i t).length c1, .bool true]) ∧ Own w' w.heap.size 3 1 a1 (put l i t).length c1 (ints (put l i t))) ∨
    ((∀ j, ¬ occ l p j) ∧ e = .returned (.tuple #[.slice a l.length c, .bool false])))
set_option maxHeartbeats 4000000 in
theorem once_any {a : Option Addr} {c : Nat} {l : List Int} (h : Rd w 1 a l.length c (ints l)) (hl : l.length ≤ 100000) (p : Pr) (t : Int) :
    Calls Try.prog 35 #[.slice a l.length c, .agg #[.int .i64 p.1, .int .i64 p.2], .int .i64 t] w (OnceR w l p t a c) := by
  obtain ⟨x, y⟩ := p
  have HRL := Lib.hid h
  have bz := Blk.new w #[.int .i64 x, .int .i64 y] 49
  have HL0 : Hid (Below w.heap.size w (w.alloc (.cells #[.int .i64 x, .int .i64 y] 49))) := Lib.hid ((Below.refl _ _).alloc (Nat.le_refl _) _)
  obtain ⟨m, HM⟩ : ∃ m, Hid (l.length = m) := ⟨_, Lib.hid rfl⟩
  rw [HM.out] at HRL hl ⊢
  obtain ⟨wo, HWO⟩ : ∃ ww, Hid (w.alloc (.cells #[.int .i64 x, .int .i64 y] 49) = ww) := ⟨_, Lib.hid rfl⟩
  obtain ⟨gp, HGP⟩ : ∃ gg, Hid (w.heap.size = gg) := ⟨_, Lib.hid rfl⟩
  rw [HWO.out, HGP.out] at bz
  rw [HWO.out] at HL0
  have p0 : wo.cell? ⟨gp, 0, none⟩ = some (.int .i64 x) := bz.cell 0 rfl
  have p1 : wo.cell? ⟨gp, 1, none⟩ = some (.int .i64 y) := bz.cell 1 rfl
  have HRO : Hid (Rd wo 1 a m c (ints l)) := Lib.hid (rd_on (by omega) HRL.out HL0.out)
  have hmc := HRL.out.cap
  have hwo := HWO.out
  have hgp := HGP.out
  clear h bz
  go_enter Try.func35, Try.ntmps35
  go_wp2_with fail
  clear hwo hgp
  go_loopw [8] (fun i wr => ∃ (k q : Nat), k ≤ m ∧ i = .int .i64 k ∧ wr = wo.drewN q ∧ Hid (∀ j, j < k → ¬ occ l (x, y) j)) (fun i _ => m - (intOf i).toNat)
  case atStart => exact ⟨0, 0, by omega, rfl, rfl, Lib.hid (fun j hj => by omega)⟩
  case round =>
    obtain ⟨k, q, hk, rfl, rfl, HNO⟩ := hrel
    by_cases hlt : k + 1 < m
    · obtain ⟨b0, o0, u, rfl, hu, hcu⟩ := HRO.out.get (k := k) (by omega)
      obtain ⟨b0', o0', u1, he', hu1, hcv⟩ := HRO.out.get (k := k + 1) hlt
      injection he' with he'
      injection he' with e1 e2
      subst e1 e2
      obtain ⟨s, hs, rfl⟩ := ints_get hu
      obtain ⟨z, hz, rfl⟩ := ints_get hu1
      have k0 : (0 : Int) ≤ (k : Int) := by omega
      have k1 : (k : Int) + 1 < (m : Int) := by omega
      have k2 : (k : Int) < (m : Int) := by omega
      have s1 : IntKind.i64.wrap ((k : Int) + 1) = (k : Int) + 1 := IntWalk.i64_in _ (by omega)
      have s2 : (0 : Int) ≤ (k : Int) + 1 := by omega
      have s3 : ((k : Int) + 1).toNat = k + 1 := by omega
      have HLT := Lib.hid hlt
      have HOC : Hid (occ l (x, y) k ↔ s = x ∧ z = y) := Lib.hid (by
        unfold occ
        dsimp only
        rw [hs, hz]
        simp)
      have HNX : Hid (¬ (s = x ∧ z = y) → ∀ j, j < k + 1 → ¬ occ l (x, y) j) := Lib.hid (by
        intro hn j hj
        by_cases e : j = k
        · subst e; exact fun h => hn (HOC.out.1 h)
        · exact HNO.out j (by omega))
      clear hu hu1 hs hz hlt
      go_upto_region 4 with (fail)
      by_cases hx : s = x
      · by_cases hy : z = y
        · have HO1 := Lib.hid (HOC.out.2 ⟨hx, hy⟩)
          have hx2 : ((s : Int) == x) = true := by simp [hx]
          have hy2 : ((z : Int) == y) = true := by simp [hy]
          clear hx hy
          go_big_quiet (fail)
          clear s1 s2 s3 hcu hcv hx2 hy2
          obtain ⟨wp, HWP⟩ : ∃ ww, Hid ((wo.drewN q).drewN nq = ww) := ⟨_, Lib.hid rfl⟩
          rw [HWP.out]
          have HBW : Hid (Below w.heap.size w wp) := Lib.hid (by rw [← HWP.out]; exact below_drewN (below_drewN HL0.out _) _)
          have HOW : Hid (Chg (fun _ => False) wo wp) := Lib.hid (by rw [← HWP.out]; exact ((Chg.refl _ _).drewN _).drewN _)
          have HRT : Hid (∀ W, Chg (fun _ => False) wp W → Rd W 1 (some ⟨b0, o0, none⟩) k c (ints (l.take k))) := Lib.hid (by
            intro W hc
            have h1 := (HRO.out.take_ k hk).chg (HOW.out.trans hc) (fun _ _ _ => id)
            rw [Nat.mul_one, ← ints_take] at h1
            exact h1)
          have HRD : Hid (∀ W, Chg (fun _ => False) wp W → Rd W 1 (if c = k + 2 then some ⟨b0, o0, none⟩ else some ⟨b0, o0 + (k + 2), none⟩) (m - (k + 2)) (c - (k + 2)) (ints (l.drop (k + 2)))) := Lib.hid (by
            intro W hc
            have h1 := (HRO.out.drop_ (k + 2) (by have := HLT.out; omega)).chg (HOW.out.trans hc) (fun _ _ _ => id)
            rw [Nat.mul_one, ← ints_drop] at h1
            simpa [Go.WideShapes.add_plain] using h1)
          obtain ⟨ad, hif⟩ : ∃ ad, (if c = k + 2 then (some ⟨b0, o0, none⟩ : Option Addr) else some ⟨b0, o0 + (k + 2), none⟩) = ad := ⟨_, rfl⟩
          rw [hif] at HRD
          have v1 : (k : Int) ≤ (c : Int) := by omega
          have v2 : k ≤ c := by omega
          have v3 : (0 : Int) ≤ (k : Int) + 2 := by omega
          have v4 : (k : Int) + 2 ≤ (m : Int) := by omega
          have v5 : ((k : Int) + 2).toNat = k + 2 := by omega
          have v6 : IntKind.i64.wrap ((k : Int) + 2) = (k : Int) + 2 := IntWalk.i64_in _ (by omega)
          have HMB : Hid (m ≤ 100000 ∧ k + 2 ≤ m) := Lib.hid (by have := HLT.out; omega)
          have HPL : Hid (k + 1 + (m - (k + 2)) = (put l k t).length) := Lib.hid (by have h1 := put_len HO1.out.lt t; have := HM.out; have := HLT.out; omega)
          have HEND : Hid (∀ a11 c11 w11, Own w11 wp.heap.size 3 1 a11 (k + 1 + (m - (k + 2))) c11 (ints (l.take k) ++ [Value.int .i64 t] ++ ints (l.drop (k + 2))) → Chg (fun _ => False) wp w11 → OnceR w l (x, y) t (some ⟨b0, o0, none⟩) c (.returned (.tuple #[.slice a11 (k + 1 + (m - (k + 2))) c11, .bool true])) w11) := Lib.hid (by
            intro a11 c11 w11 ho hc
            rw [HPL.out] at ho ⊢
            refine ⟨HBW.out.trans (hc.none.mono HBW.out.size), .inl ⟨k, a11, c11, HO1.out, HNO.out, rfl, ?_⟩⟩
            have e : ints (put l k t) = ints (l.take k) ++ [Value.int .i64 t] ++ ints (l.drop (k + 2)) := by
              unfold put
              rw [← ints_append, ← ints_append]
              rfl
            rw [e]
            exact ho.lower HBW.out.size)
          have H1C : Hid (∀ u ∈ [Value.int .i64 t], u.oneCell' = true) := Lib.hid (by simp [Value.oneCell'])
          go_upto_region 5 with (fail)
          refine Ways.start (S := (fun _ => True)) (last := 11) (by kernel_rfl) ?_
          have hHeld : (fun _ : World => True) wp.drew := trivial
          refine Ways.take (i := 0) (o := { dst := some 33, op := Op.move (Operand.tmp 0), type := 24, pos := "ref.go:50", after := #[], guard := none }) (v := ?_) [2, 3, 6, 11] (by rfl) (by rfl) rfl (by kernel_rfl) (by kernel_rfl) (by kernel_rfl) (by kernel_rfl) (fun _ _ _ h => h) (Or.inl ⟨by rfl, ?_⟩) (by assumption) ?_
          rotate_left 1
          · (intro w hSw; (try dsimp only at hSw); go_simp; (try with_reducible rfl))
          try simp only [Act.put, List.setIfInBounds_toArray, List.set_cons_zero, List.set_cons_succ]
          refine Ways.take (i := 1) (o := { dst := some 34, op := Op.move (Operand.tmp 8), type := 3, pos := "ref.go:50", after := #[], guard := none }) (v := ?_) [2, 3, 6, 11] (by rfl) (by rfl) rfl (by kernel_rfl) (by kernel_rfl) (by kernel_rfl) (by kernel_rfl) (fun _ _ _ h => h) (Or.inl ⟨by rfl, ?_⟩) (by assumption) ?_
          rotate_left 1
          · (intro w hSw; (try dsimp only at hSw); go_simp; (try with_reducible rfl))
          try simp only [Act.put, List.setIfInBounds_toArray, List.set_cons_zero, List.set_cons_succ]
          refine Ways.take (i := 2) (o := { dst := some 35, op := Op.slice 24 (Operand.tmp 33) none (some (Operand.tmp 34)) none, type := 24, pos := "ref.go:50", after := #[{ on := 0, ground := Ground.data }, { on := 1, ground := Ground.data }], guard := none }) (v := ?_) [3, 6, 11] (by rfl) (by rfl) rfl (by kernel_rfl) (by kernel_rfl) (by kernel_rfl) (by kernel_rfl) (fun _ _ _ h => h) (Or.inl ⟨by rfl, ?_⟩) (by assumption) ?_
          rotate_left 1
          · (intro w hSw; (try dsimp only at hSw); go_simp; (try with_reducible rfl))
          try simp only [Act.put, List.setIfInBounds_toArray, List.set_cons_zero, List.set_cons_succ]
          refine Ways.take (i := 4) (o := { dst := some 37, op := Op.move (Operand.tmp 2), type := 3, pos := "ref.go:50", after := #[], guard := none }) (v := ?_) [5, 6, 11] (by rfl) (by rfl) rfl (by kernel_rfl) (by kernel_rfl) (by kernel_rfl) (by kernel_rfl) (fun _ _ _ h => h) (Or.inl ⟨by rfl, ?_⟩) (by assumption) ?_
          rotate_left 1
          · (intro w hSw; (try dsimp only at hSw); go_simp; (try with_reducible rfl))
          try simp only [Act.put, List.setIfInBounds_toArray, List.set_cons_zero, List.set_cons_succ]
          refine Ways.take (i := 7) (o := { dst := some 40, op := Op.move (Operand.tmp 0), type := 24, pos := "ref.go:50", after := #[], guard := none }) (v := ?_) [10, 11] (by rfl) (by rfl) rfl (by kernel_rfl) (by kernel_rfl) (by kernel_rfl) (by kernel_rfl) (fun _ _ _ h => h) (Or.inl ⟨by rfl, ?_⟩) (by assumption) ?_
          rotate_left 1
          · (intro w hSw; (try dsimp only at hSw); go_simp; (try with_reducible rfl))
          try simp only [Act.put, List.setIfInBounds_toArray, List.set_cons_zero, List.set_cons_succ]
          refine Ways.take (i := 8) (o := { dst := some 41, op := Op.move (Operand.tmp 8), type := 3, pos := "ref.go:50", after := #[], guard := none }) (v := ?_) [9, 10, 11] (by rfl) (by rfl) rfl (by kernel_rfl) (by kernel_rfl) (by kernel_rfl) (by kernel_rfl) (fun _ _ _ h => h) (Or.inl ⟨by rfl, ?_⟩) (by assumption) ?_
          rotate_left 1
          · (intro w hSw; (try dsimp only at hSw); go_simp; (try with_reducible rfl))
          try simp only [Act.put, List.setIfInBounds_toArray, List.set_cons_zero, List.set_cons_succ]
          refine Ways.take (i := 9) (o := { dst := some 42, op := Op.binOp BinOp.add 3 (Operand.tmp 41) (Operand.const (Value.int IntKind.i64 2)) 3, type := 3, pos := "ref.go:50", after := #[{ on := 8, ground := Ground.data }], guard := none }) (v := ?_) [10, 11] (by rfl) (by rfl) rfl (by kernel_rfl) (by kernel_rfl) (by kernel_rfl) (by kernel_rfl) (fun _ _ _ h => h) (Or.inl ⟨by rfl, ?_⟩) (by assumption) ?_
          rotate_left 1
          · (intro w hSw; (try dsimp only at hSw); go_simp; (try with_reducible rfl))
          try simp only [Act.put, List.setIfInBounds_toArray, List.set_cons_zero, List.set_cons_succ]
          refine Ways.take (i := 10) (o := { dst := some 43, op := Op.slice 24 (Operand.tmp 40) (some (Operand.tmp 42)) none none, type := 24, pos := "ref.go:50", after := #[{ on := 7, ground := Ground.data }, { on := 9, ground := Ground.data }], guard := none }) (v := ?_) [11] (by rfl) (by rfl) rfl (by kernel_rfl) (by kernel_rfl) (by kernel_rfl) (by kernel_rfl) (fun _ _ _ h => h) (Or.inl ⟨by rfl, ?_⟩) (by assumption) ?_
          rotate_left 1
          · (intro w hSw; (try dsimp only at hSw); go_simp; (try with_reducible rfl))
          try simp only [Act.put, List.setIfInBounds_toArray, List.set_cons_zero, List.set_cons_succ]
          refine Ways.two (i := 3) (j := 5) (by kernel_rfl) (wpOp_step (o := { dst := some 36, op := Op.call { callee := Callee.builtin Builtin.append, args := #[Operand.const (Value.slice none 0 0), Operand.tmp 35], argTypes := #[24, 24] }, type := 24, pos := "ref.go:50", after := #[{ on := 2, ground := Ground.data }], guard := none }) rfl (fun K hK => ?_)) (wpOp_step (o := { dst := some 38, op := Op.buildSlice 24 1 #[(0, Operand.tmp 37)], type := 24, pos := "ref.go:50", after := #[{ on := 4, ground := Ground.data }], guard := none }) rfl (fun K hK => ?_))
          · refine step_app el24 (by omega) (by rfl) (.const (.slice none 0 0)) (.tmp 35) (by rfl) (by rfl) (Own.none_ _ wp.heap.size 3 1) (by rfl) (HRT.out _ ((Chg.refl (fun _ => False) wp).drew)) (ints_one _) (by have := HMB.out; omega) (by have := HMB.out; omega) (((Chg.refl (fun _ => False) wp).drew)).size ?_
            intro a9 c9 w9 ho9 hg9 ha9
            simp only [Nat.zero_add, List.nil_append] at ho9 ⊢
            have HC9 := Lib.hid (app_chg ((Chg.refl (fun _ => False) wp).drew) (Own.none_ _ wp.heap.size 3 1) hg9)
            have HO9 := Lib.hid ho9
            refine hK _ _ ⟨fun hlast => ?_, ?_⟩
            · trivial
            clear hK K
            try simp only [Act.put, List.setIfInBounds_toArray, List.set_cons_zero, List.set_cons_succ]
            have HOA := Lib.hid (HO9.out.chg ((Chg.refl (fun _ => False) w9).alloc (.cells #[.int .i64 t] 3)) (fun _ _ => id))
            have HRA := Lib.hid (Own.made (B := w9.heap.size) (size := 1) w9 #[.int .i64 t] 3 1 (Nat.le_refl _) (by unfold maxLen; omega) rfl).rd
            refine Ways.only (i := 5) (by kernel_rfl) (wpOp_step (o := { dst := some 38, op := Op.buildSlice 24 1 #[(0, Operand.tmp 37)], type := 24, pos := "ref.go:50", after := #[{ on := 4, ground := Ground.data }], guard := none }) rfl (fun K hK => ?_))
            go_simp
            refine hK _ _ ⟨fun hlast => ?_, ?_⟩
            · trivial
            clear hK K
            try simp only [Act.put, List.setIfInBounds_toArray, List.set_cons_zero, List.set_cons_succ]
            refine Ways.only (i := 6) (by kernel_rfl) (wpOp_step (o := { dst := some 39, op := Op.call { callee := Callee.builtin Builtin.append, args := #[Operand.tmp 36, Operand.tmp 38], argTypes := #[24, 24] }, type := 24, pos := "ref.go:50", after := #[{ on := 3, ground := Ground.data }, { on := 5, ground := Ground.data }, { on := 3, ground := Ground.chain }], guard := none }) rfl (fun K hK => ?_))
            refine step_app el24 (by omega) (by rfl) (.tmp 36) (.tmp 38) (by rfl) (by rfl) HOA.out (by rfl) HRA.out H1C.out (by have := HMB.out; omega) (by have := HMB.out; omega) ((HC9.out.alloc (.cells #[.int .i64 t] 3))).size ?_
            intro a10 c10 w10 ho10 hg10 ha10
            have HC10 := Lib.hid (app_chg (HC9.out.alloc (.cells #[.int .i64 t] 3)) HOA.out hg10)
            have HO10 := Lib.hid ho10
            clear ho10 hg10 ha10
            refine hK _ _ ⟨fun hlast => ?_, ?_⟩
            · trivial
            clear hK K
            try simp only [Act.put, List.setIfInBounds_toArray, List.set_cons_zero, List.set_cons_succ]
            refine Ways.only (i := 11) (by kernel_rfl) (wpOp_step (o := { dst := some 44, op := Op.call { callee := Callee.builtin Builtin.append, args := #[Operand.tmp 39, Operand.tmp 43], argTypes := #[24, 24] }, type := 24, pos := "ref.go:50", after := #[{ on := 6, ground := Ground.data }, { on := 10, ground := Ground.data }, { on := 6, ground := Ground.chain }], guard := none }) rfl (fun K hK => ?_))
            refine step_app el24 (by omega) (by rfl) (.tmp 39) (.tmp 43) (by rfl) (by rfl) HO10.out (by rfl) (HRD.out _ HC10.out) (ints_one _) (by have := HMB.out; omega) (by have := HMB.out; omega) HC10.out.size ?_
            intro a11 c11 w11 ho11 hg11 ha11
            have HC11 := Lib.hid (app_chg HC10.out HO10.out hg11)
            have HO11 := Lib.hid ho11
            clear ho11 hg11 ha11
            refine hK _ _ ⟨fun hlast => ?_, ?_⟩
            · exact absurd (Eq.trans (Eq.symm hlast) (by kernel_rfl)) (by decide : ¬ false = true)
            clear hK K
            try simp only [Act.put, List.setIfInBounds_toArray, List.set_cons_zero, List.set_cons_succ]
            refine Ways.only (i := 12) (by kernel_rfl) (wpOp_step (o := { dst := some 6, op := Op.assign (Operand.tmp 44), type := 24, pos := "ref.go:50", after := #[{ on := 11, ground := Ground.data }, { on := 11, ground := Ground.chain }, { on := 0, ground := Ground.phase }, { on := 1, ground := Ground.phase }, { on := 2, ground := Ground.phase }, { on := 3, ground := Ground.phase }, { on := 4, ground := Ground.phase }, { on := 5, ground := Ground.phase }, { on := 6, ground := Ground.phase }, { on := 7, ground := Ground.phase }, { on := 8, ground := Ground.phase }, { on := 9, ground := Ground.phase }, { on := 10, ground := Ground.phase }, { on := 11, ground := Ground.phase }], guard := none }) rfl (fun K hK => ?_))
            go_simp
            refine hK _ _ ⟨fun hlast => ?_, ?_⟩
            · exact absurd (Eq.trans (Eq.symm hlast) (by kernel_rfl)) (by decide : ¬ false = true)
            clear hK K
            try simp only [Act.put, List.setIfInBounds_toArray, List.set_cons_zero, List.set_cons_succ]
            refine Ways.only (i := 13) (by kernel_rfl) (wpOp_step (o := { dst := some 7, op := Op.assign (Operand.const (Value.bool true)), type := 4, pos := "ref.go:50", after := #[{ on := 12, ground := Ground.chain }, { on := 0, ground := Ground.phase }, { on := 1, ground := Ground.phase }, { on := 2, ground := Ground.phase }, { on := 3, ground := Ground.phase }, { on := 4, ground := Ground.phase }, { on := 5, ground := Ground.phase }, { on := 6, ground := Ground.phase }, { on := 7, ground := Ground.phase }, { on := 8, ground := Ground.phase }, { on := 9, ground := Ground.phase }, { on := 10, ground := Ground.phase }, { on := 11, ground := Ground.phase }, { on := 12, ground := Ground.phase }], guard := none }) rfl (fun K hK => ?_))
            go_simp
            refine hK _ _ ⟨fun hlast => ?_, ?_⟩
            · exact absurd (Eq.trans (Eq.symm hlast) (by kernel_rfl)) (by decide : ¬ false = true)
            clear hK K
            try simp only [Act.put, List.setIfInBounds_toArray, List.set_cons_zero, List.set_cons_succ]
            refine Ways.done (by kernel_rfl) ?_ _
            have HF := Lib.hid (HEND.out a11 c11 w11 HO11.out HC11.out)
            clear hif v1 v2 v3 v4 v5 v6
            obtain ⟨PL, HPL2⟩ : ∃ PL, Hid (k + 1 + (m - (k + 2)) = PL) := ⟨_, Lib.hid rfl⟩
            rw [HPL2.out] at HF ⊢
            go_wp2_with fail
            go_ret2
            exact HF.out
          · go_simp
            refine hK _ _ ⟨fun hlast => ?_, ?_⟩
            · trivial
            clear hK K
            try simp only [Act.put, List.setIfInBounds_toArray, List.set_cons_zero, List.set_cons_succ]
            refine Ways.only (i := 3) (by kernel_rfl) (wpOp_step (o := { dst := some 36, op := Op.call { callee := Callee.builtin Builtin.append, args := #[Operand.const (Value.slice none 0 0), Operand.tmp 35], argTypes := #[24, 24] }, type := 24, pos := "ref.go:50", after := #[{ on := 2, ground := Ground.data }], guard := none }) rfl (fun K hK => ?_))
            refine step_app el24 (by omega) (by rfl) (.const (.slice none 0 0)) (.tmp 35) (by rfl) (by rfl) (Own.none_ _ wp.heap.size 3 1) (by rfl) (HRT.out _ (((Chg.refl (fun _ => False) wp).drew).alloc (.cells #[.int .i64 t] 3))) (ints_one _) (by have := HMB.out; omega) (by have := HMB.out; omega) ((((Chg.refl (fun _ => False) wp).drew).alloc (.cells #[.int .i64 t] 3))).size ?_
            intro a9 c9 w9 ho9 hg9 ha9
            simp only [Nat.zero_add, List.nil_append] at ho9 ⊢
            have HC9 := Lib.hid (app_chg (((Chg.refl (fun _ => False) wp).drew).alloc (.cells #[.int .i64 t] 3)) (Own.none_ _ wp.heap.size 3 1) hg9)
            have HO9 := Lib.hid ho9
            have HRV := Lib.hid (((Own.made (B := wp.heap.size) (size := 1) wp.drew #[.int .i64 t] 3 1 (Nat.le_refl _) (by unfold maxLen; omega) rfl).rd).chg (Chg.of_grown' hg9) (fun _ k _ e => by cases e))
            refine hK _ _ ⟨fun hlast => ?_, ?_⟩
            · trivial
            clear hK K
            try simp only [Act.put, List.setIfInBounds_toArray, List.set_cons_zero, List.set_cons_succ]
            refine Ways.only (i := 6) (by kernel_rfl) (wpOp_step (o := { dst := some 39, op := Op.call { callee := Callee.builtin Builtin.append, args := #[Operand.tmp 36, Operand.tmp 38], argTypes := #[24, 24] }, type := 24, pos := "ref.go:50", after := #[{ on := 3, ground := Ground.data }, { on := 5, ground := Ground.data }, { on := 3, ground := Ground.chain }], guard := none }) rfl (fun K hK => ?_))
            refine step_app el24 (by omega) (by rfl) (.tmp 36) (.tmp 38) (by rfl) (by rfl) HO9.out (by rfl) HRV.out H1C.out (by have := HMB.out; omega) (by have := HMB.out; omega) (HC9.out).size ?_
            intro a10 c10 w10 ho10 hg10 ha10
            have HC10 := Lib.hid (app_chg HC9.out HO9.out hg10)
            have HO10 := Lib.hid ho10
            clear ho10 hg10 ha10
            refine hK _ _ ⟨fun hlast => ?_, ?_⟩
            · trivial
            clear hK K
            try simp only [Act.put, List.setIfInBounds_toArray, List.set_cons_zero, List.set_cons_succ]
            refine Ways.only (i := 11) (by kernel_rfl) (wpOp_step (o := { dst := some 44, op := Op.call { callee := Callee.builtin Builtin.append, args := #[Operand.tmp 39, Operand.tmp 43], argTypes := #[24, 24] }, type := 24, pos := "ref.go:50", after := #[{ on := 6, ground := Ground.data }, { on := 10, ground := Ground.data }, { on := 6, ground := Ground.chain }], guard := none }) rfl (fun K hK => ?_))
            refine step_app el24 (by omega) (by rfl) (.tmp 39) (.tmp 43) (by rfl) (by rfl) HO10.out (by rfl) (HRD.out _ HC10.out) (ints_one _) (by have := HMB.out; omega) (by have := HMB.out; omega) HC10.out.size ?_
            intro a11 c11 w11 ho11 hg11 ha11
            have HC11 := Lib.hid (app_chg HC10.out HO10.out hg11)
            have HO11 := Lib.hid ho11
            clear ho11 hg11 ha11
            refine hK _ _ ⟨fun hlast => ?_, ?_⟩
            · exact absurd (Eq.trans (Eq.symm hlast) (by kernel_rfl)) (by decide : ¬ false = true)
            clear hK K
            try simp only [Act.put, List.setIfInBounds_toArray, List.set_cons_zero, List.set_cons_succ]
            refine Ways.only (i := 12) (by kernel_rfl) (wpOp_step (o := { dst := some 6, op := Op.assign (Operand.tmp 44), type := 24, pos := "ref.go:50", after := #[{ on := 11, ground := Ground.data }, { on := 11, ground := Ground.chain }, { on := 0, ground := Ground.phase }, { on := 1, ground := Ground.phase }, { on := 2, ground := Ground.phase }, { on := 3, ground := Ground.phase }, { on := 4, ground := Ground.phase }, { on := 5, ground := Ground.phase }, { on := 6, ground := Ground.phase }, { on := 7, ground := Ground.phase }, { on := 8, ground := Ground.phase }, { on := 9, ground := Ground.phase }, { on := 10, ground := Ground.phase }, { on := 11, ground := Ground.phase }], guard := none }) rfl (fun K hK => ?_))
            go_simp
            refine hK _ _ ⟨fun hlast => ?_, ?_⟩
            · exact absurd (Eq.trans (Eq.symm hlast) (by kernel_rfl)) (by decide : ¬ false = true)
            clear hK K
            try simp only [Act.put, List.setIfInBounds_toArray, List.set_cons_zero, List.set_cons_succ]
            refine Ways.only (i := 13) (by kernel_rfl) (wpOp_step (o := { dst := some 7, op := Op.assign (Operand.const (Value.bool true)), type := 4, pos := "ref.go:50", after := #[{ on := 12, ground := Ground.chain }, { on := 0, ground := Ground.phase }, { on := 1, ground := Ground.phase }, { on := 2, ground := Ground.phase }, { on := 3, ground := Ground.phase }, { on := 4, ground := Ground.phase }, { on := 5, ground := Ground.phase }, { on := 6, ground := Ground.phase }, { on := 7, ground := Ground.phase }, { on := 8, ground := Ground.phase }, { on := 9, ground := Ground.phase }, { on := 10, ground := Ground.phase }, { on := 11, ground := Ground.phase }, { on := 12, ground := Ground.phase }], guard := none }) rfl (fun K hK => ?_))
            go_simp
            refine hK _ _ ⟨fun hlast => ?_, ?_⟩
            · exact absurd (Eq.trans (Eq.symm hlast) (by kernel_rfl)) (by decide : ¬ false = true)
            clear hK K
            try simp only [Act.put, List.setIfInBounds_toArray, List.set_cons_zero, List.set_cons_succ]
            refine Ways.done (by kernel_rfl) ?_ _
            have HF := Lib.hid (HEND.out a11 c11 w11 HO11.out HC11.out)
            clear hif v1 v2 v3 v4 v5 v6
            obtain ⟨PL, HPL2⟩ : ∃ PL, Hid (k + 1 + (m - (k + 2)) = PL) := ⟨_, Lib.hid rfl⟩
            rw [HPL2.out] at HF ⊢
            go_wp2_with fail
            go_ret2
            exact HF.out
        · have HN2 := Lib.hid (HNX.out (fun h => hy h.2))
          have hx2 : ((s : Int) == x) = true := by simp [hx]
          have hy2 : ((z : Int) == y) = false := by simp [hy]
          clear hx hy
          go_big_quiet (fail)
          clear s1 s2 s3 hcu hcv
          go_wp2_with fail
          go_roundw
          case rel => exact ⟨k + 1, _, by have := HLT.out; omega, by go_num, rfl, HN2⟩
          case measure => have := HLT.out; simp [intOf]; omega
      · have HN2 := Lib.hid (HNX.out (fun h => hx h.1))
        have hx2 : ((s : Int) == x) = false := by simp [hx]
        clear hx
        go_big_quiet (fail)
        clear s1 s2 s3 hcu hcv
        go_wp2_with fail
        go_roundw
        case rel => exact ⟨k + 1, _, by have := HLT.out; omega, by go_num, rfl, HN2⟩
        case measure => have := HLT.out; simp [intOf]; omega
    · have hge : (m : Int) ≤ (k : Int) + 1 := by omega
      have HF : Hid (OnceR w l (x, y) t a c (.returned (.tuple #[.slice a m c, .bool false])) (wo.drewN q)) := Lib.hid (by
        refine ⟨below_drewN HL0.out q, .inr ⟨fun j hj => ?_, by rw [HM.out]⟩⟩
        have h1 := hj.lt
        exact HNO.out j (by have := HM.out; omega) hj)
      clear hlt
      go_wp2_with fail
      go_ret2
      exact HF.out
end
end Go.Proofs.Ytlndhmkkffcbnaa.TkK
