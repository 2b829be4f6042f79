/-
  The document's Spell.
-/
import Derived.Test.YtlndhmkkffcbnaaTkG
namespace Go.Proofs.Ytlndhmkkffcbnaa.TkJ
open Go.RowKit Go.Proofs.Ytlndhmkkffcbnaa.Kit Go.Proofs.Ytlndhmkkffcbnaa.TkM Go.Proofs.Ytlndhmkkffcbnaa.TkP Go.Proofs.Ytlndhmkkffcbnaa.TkQ Go.Proofs.Ytlndhmkkffcbnaa.TkW Go.Proofs.Ytlndhmkkffcbnaa.TkA Go.Proofs.Ytlndhmkkffcbnaa.TkN Go.Proofs.Ytlndhmkkffcbnaa.TkO Go.Proofs.Ytlndhmkkffcbnaa.TkL Go.Proofs.Ytlndhmkkffcbnaa.TkR Go.Proofs.Ytlndhmkkffcbnaa.TkS Go.Proofs.Ytlndhmkkffcbnaa.TkT Go.Proofs.Ytlndhmkkffcbnaa.TkU Go.Proofs.Ytlndhmkkffcbnaa.TkD Go.Proofs.Ytlndhmkkffcbnaa.TkF Go.Proofs.Ytlndhmkkffcbnaa.TkG Go.Proofs.Ytlndhmkkffcbnaa.TkE
attribute [local go_sem high] max_imax min_imin
attribute [local go_sem ↓] Go.wp_at_zero Go.wp_at_succ
set_option linter.unusedVariables false
section
variable {P : Program} {ops : Array Oper} {Q : Exit → Act → World → Prop} {md : Region.Mode} {S : World → Prop} {last : Nat}
/-- Two can come up. -/
theorem Ways.two {i j : Nat} {n : Nat} {l : Array Bool} {a : Act} {w : World} (hr : Region.ready md ops l = [i, j])
    (hi : wpOp P ops Q i (fun a' w' => ((l.setIfInBounds i true).getD last true = false → S w') ∧ TkE.Ways P md ops Q S last n (l.setIfInBounds i true) a' w') a w)
    (hj : wpOp P ops Q j (fun a' w' => ((l.setIfInBounds j true).getD last true = false → S w') ∧ TkE.Ways P md ops Q S last n (l.setIfInBounds j true) a' w') a w) : TkE.Ways P md ops Q S last (n + 1) l a w := by
  refine ⟨fun h0 => ?_, fun k hk => ?_⟩
  · rw [hr] at h0
    cases h0
  · rw [hr] at hk
    rcases List.mem_cons.1 hk with rfl | hk
    · exact hi
    · obtain rfl := List.mem_singleton.1 hk
      exact hj
end
theorem xps_leaf {L : List Pr} {z x : List Int} (h : Xps L z x) : (∀ t ∈ z, t < 17) → x = z := by
  induction h with
  | nil => exact fun _ => rfl
  | cons h1 _ ih =>
    intro hl
    rw [ih (fun t ht => hl t (List.mem_cons_of_mem _ ht))]
    cases h1 with
    | leaf => rfl
    | node => have := hl _ (List.mem_cons_self ..); omega
theorem app_chg {wp W W' : World} {e : TypeId} {sz n c : Nat} {a : Option Addr} {xs : List Value} (h : Chg (fun _ => False) wp W) (ho : Own W wp.heap.size e sz a n c xs) (hg : W.grownBy W' (ob a)) : Chg (fun _ => False) wp W' :=
  h.then (Chg.of_grown' hg) (fun i hi e => by have := (ho.lt i e).1; omega)
def open1 (z : List Int) (q : Nat) (p : Pr) : List Int := z.take q ++ [p.1, p.2] ++ z.drop (q + 1)
theorem open1_spell {L : List Pr} {z x : List Int} {q k : Nat} {p : Pr} (h : Xps L z x) (hz : z[q]? = some (17 + (k : Int))) (hk : L[k]? = some p) : Xps L (open1 z q p) x := by
  have hq := (List.getElem?_eq_some_iff.1 hz).1
  have e : z = z.take q ++ ([17 + (k : Int)] ++ z.drop (q + 1)) := by
    have e1 : z.drop q = (17 + (k : Int)) :: z.drop (q + 1) := by
      rw [List.drop_eq_getElem_cons hq]
      congr 1
      rw [List.getElem?_eq_getElem hq] at hz
      injection hz
    conv => lhs; rw [← List.take_append_drop q z, e1]
    rfl
  rw [e] at h
  obtain ⟨a, b, rfl, ha, hb⟩ := h.split
  obtain ⟨c, d, rfl, hc, hd⟩ := hb.split
  unfold open1
  rw [List.append_assoc]
  refine ha.app (Xps.app ?_ hd)
  cases hc with
  | cons h3 h4 =>
    cases h4
    rw [List.append_nil]
    generalize ht : 17 + (k : Int) = t at h3
    cases h3 with
    | leaf => omega
    | @node k' p' x' y' hk' h1 h2 =>
      obtain rfl : k = k' := by omega
      rw [hk] at hk'
      injection hk' with hk'
      subst hk'
      have := Xps.cons h1 (Xps.cons h2 .nil)
      rwa [List.append_nil] at this
theorem open1_len {z : List Int} {q : Nat} (p : Pr) (hq : q < z.length) : (open1 z q p).length = z.length + 1 := by
  unfold open1
  simp
  omega
theorem open1_pre {z : List Int} {q : Nat} (p : Pr) (hq : q < z.length) : (open1 z q p).take q = z.take q := by
  unfold open1
  rw [List.append_assoc, List.take_append_of_le_length (by simp; omega), List.take_take, Nat.min_self]
section
variable {w : World}
set_option maxHeartbeats 2000000 in
theorem dspl_any {a : Option Addr} {c : Nat} {L : List Pr} (h : Rd w 2 a L.length c (prs L)) (hg : TkP.Good L) (hL : L.length ≤ 1000) {t : Int} (ht : okT t) (hsz : ∀ x, Xp L t x → x.length ≤ 100000) :
    Calls Try.prog 19 #[.slice a L.length c, .int .i64 t] w (SplR w L t) := by
  by_cases h1 : 1 ≤ t ∧ t < 17 + (L.length : Int)
  · obtain ⟨x, hx⟩ := xp_ex hg _ t rfl h1.1 h1.2
    have hxl := hsz x hx
    have t0 := h1.1
    have HR := Lib.hid h
    have HFIN : Hid (∀ z a1 c1 w', Own w' w.heap.size 3 1 a1 z.length c1 (ints z) → Xps L z x → (∀ u ∈ z, u < 17) → Below w.heap.size w w' → SplR w L t (.returned (.slice a1 z.length c1)) w') := Lib.hid (by
      intro z a1 c1 w' ho hxz hz hb
      obtain rfl := xps_leaf hxz hz
      exact ⟨hb, x, a1, c1, rfl, ho, .inr hx⟩)
    have HX0 : Hid (Xps L [t] x) := Lib.hid (by have := Xps.cons hx .nil; rwa [List.append_nil] at this)
    obtain ⟨n, HN⟩ : ∃ n, Hid (L.length = n) := ⟨_, Lib.hid rfl⟩
    rw [HN.out] at HR hL ⊢
    have t1 : t < 17 + (n : Int) := by have := HN.out; omega
    have HL0 : Hid (Below w.heap.size w (w.alloc (.cells #[.int .i64 t] 3))) := Lib.hid ((Below.refl _ _).alloc (Nat.le_refl _) _)
    have HO0 := Lib.hid (Own.made (B := w.heap.size) (size := 1) w #[.int .i64 t] 3 1 (Nat.le_refl _) (by unfold maxLen; omega) rfl)
    have HTR : Hid (1 ≤ x.length) := Lib.hid hx.pos
    clear h hg ht hsz hx h1
    go_enter Try.func19, Try.ntmps19
    go_wp2_with fail
    obtain ⟨X, HX⟩ : ∃ X, Hid (x.length = X) := ⟨_, Lib.hid rfl⟩
    rw [HX.out] at hxl
    go_loopw [5, 6] (fun v i wr => ∃ (z : List Int) (q : Nat) (a1 : Option Addr) (c1 : Nat), q ≤ z.length ∧ z.length ≤ X ∧ i = .int .i64 q ∧ v = .slice a1 z.length c1 ∧ Hid (Own wr w.heap.size 3 1 a1 z.length c1 (ints z)) ∧ Hid (Xps L z x) ∧ Hid (∀ u ∈ z.take q, u < 17) ∧ Hid (Below w.heap.size w wr)) (fun v i _ => 2 * X - (lenOf v + (intOf i).toNat))
    case atStart => exact ⟨[t], 0, some ⟨w.heap.size, 0, none⟩, 1, by simp, by have := HX.out; have := HTR.out; simp; omega, rfl, rfl, HO0, HX0, Lib.hid (by simp), HL0⟩
    case round =>
      obtain ⟨z, q, a1, c1, hq, hzX, rfl, rfl, HO, HXZ, HLF, HB⟩ := hrel
      obtain ⟨m, HM⟩ : ∃ m, Hid (z.length = m) := ⟨_, Lib.hid rfl⟩
      rw [HM.out] at hq hzX HO ⊢
      by_cases hlt : q < m
      · obtain ⟨b0, o0, u, rfl, hu, hcu⟩ := HO.out.rd.get hlt
        obtain ⟨s, hs, rfl⟩ := ints_get hu
        have q0 : (0 : Int) ≤ (q : Int) := by omega
        have q1 : (q : Int) < (m : Int) := by omega
        have HLT := Lib.hid hlt
        have hsr := HXZ.out.range s (List.mem_of_getElem? hs)
        by_cases hsm : s < 17
        · have HLF2 : Hid (∀ u ∈ z.take (q + 1), u < 17) := Lib.hid (by
            rw [List.take_add_one, hs]
            intro u hu
            rcases List.mem_append.1 hu with hu | hu
            · exact HLF.out u hu
            · simp at hu
              omega)
          clear hu hs hlt hsr
          go_wp2_with fail
          go_roundw
          case rel => exact ⟨z, q + 1, _, _, by have := HLT.out; have := HM.out; omega, by have := HM.out; omega, by go_num, by rw [HM.out], by rw [HM.out]; exact HO, HXZ, HLF2, HB⟩
          case measure => have := HLT.out; simp [intOf, lenOf]; omega
        · obtain ⟨k, rfl⟩ : ∃ k : Nat, s = 17 + k := ⟨(s - 17).toNat, by omega⟩
          have hkn : k < n := by have := HN.out; omega
          obtain ⟨b1, o1, ⟨px, py⟩, rfl, hp, hc0, hc1⟩ := rd_pair (rd_on (by omega) HR.out HB.out) hkn
          dsimp only at hc0 hc1
          have HX2 := Lib.hid (open1_spell HXZ.out hs hp)
          have HLF2 : Hid (∀ u ∈ (open1 z q (px, py)).take q, u < 17) := Lib.hid (by rw [open1_pre _ (by have := HM.out; omega)]; exact HLF.out)
          have HZL : Hid ((open1 z q (px, py)).length = m + 1) := Lib.hid (by rw [open1_len _ (by have := HM.out; omega), HM.out])
          have HXL := Lib.hid HX2.out.len
          have hs17 : (17 + (k : Int)) - 17 = (k : Int) := by omega
          have k0 : (0 : Int) ≤ (k : Int) := by omega
          have k1 : (k : Int) < (n : Int) := by omega
          have HRL := Lib.hid HO.out.rd
          have bz := Blk.new wr #[.int .i64 px, .int .i64 py] 49
          have HCZ : Hid (Chg (fun _ => False) wr (wr.alloc (.cells #[.int .i64 px, .int .i64 py] 49))) := Lib.hid ((Chg.refl _ _).alloc _)
          clear hu hs hlt hsr hp
          go_upto_region 9 with (fail)
          obtain ⟨wp, HWP⟩ : ∃ ww, Hid (wr.alloc (.cells #[.int .i64 px, .int .i64 py] 49) = ww) := ⟨_, Lib.hid rfl⟩
          obtain ⟨gp, HGP⟩ : ∃ gg, Hid (wr.heap.size = gg) := ⟨_, Lib.hid rfl⟩
          rw [HWP.out, HGP.out] at bz
          rw [HWP.out] at HCZ
          rw [HWP.out, HGP.out]
          have p0 : wp.cell? ⟨gp, 0, none⟩ = some (.int .i64 px) := bz.cell 0 rfl
          have p1 : wp.cell? ⟨gp, 1, none⟩ = some (.int .i64 py) := bz.cell 1 rfl
          have HRT : Hid (∀ W, Chg (fun _ => False) wp W → Rd W 1 (some ⟨b0, o0, none⟩) q c1 (ints (z.take q))) := Lib.hid (by
            intro W hc
            have h1 := (HRL.out.take_ q (by omega)).chg (HCZ.out.trans hc) (fun _ _ _ => id)
            rw [Nat.mul_one, ← ints_take] at h1
            exact h1)
          have HRD : Hid (∀ W, Chg (fun _ => False) wp W → Rd W 1 (if c1 = q + 1 then some ⟨b0, o0, none⟩ else some ⟨b0, o0 + (q + 1), none⟩) (m - (q + 1)) (c1 - (q + 1)) (ints (z.drop (q + 1)))) := Lib.hid (by
            intro W hc
            have h1 := (HRL.out.drop_ (q + 1) (by have := HLT.out; omega)).chg (HCZ.out.trans hc) (fun _ _ _ => id)
            rw [Nat.mul_one, ← ints_drop] at h1
            simpa [Go.WideShapes.add_plain] using h1)
          obtain ⟨ad, hif⟩ : ∃ ad, (if c1 = q + 1 then (some ⟨b0, o0, none⟩ : Option Addr) else some ⟨b0, o0 + (q + 1), none⟩) = ad := ⟨_, rfl⟩
          rw [hif] at HRD
          have hmc := HO.out.rd.cap
          have HMX := Lib.hid HO.out.rd.max
          have v1 : (q : Int) ≤ (c1 : Int) := by omega
          have v2 : q ≤ c1 := by omega
          have v3 : (0 : Int) ≤ (q : Int) + 1 := by omega
          have v4 : (q : Int) + 1 ≤ (m : Int) := by have := HLT.out; omega
          have v5 : ((q : Int) + 1).toNat = q + 1 := by omega
          have v6 : IntKind.i64.wrap ((q : Int) + 1) = (q : Int) + 1 := IntWalk.i64_in _ (by omega)
          have HB2 := Lib.hid (HB.out.trans (HCZ.out.none.mono HB.out.size))
          have HWS := Lib.hid HB2.out.size
          have HMB : Hid (m ≤ 100000 ∧ q ≤ m) := Lib.hid (by omega)
          have BZ := Lib.hid bz
          have HQM : Hid (q + 2 + (m - (q + 1)) = m + 1) := Lib.hid (by have := HLT.out; omega)
          have HEND : Hid (∀ a11 c11 w11, Own w11 wp.heap.size 3 1 a11 (q + 2 + (m - (q + 1))) c11 (ints (z.take q) ++ [Value.int .i64 px, Value.int .i64 py] ++ ints (z.drop (q + 1))) → Chg (fun _ => False) wp w11 → Own w11 w.heap.size 3 1 a11 (m + 1) c11 (ints (open1 z q (px, py))) ∧ Below w.heap.size w w11) := Lib.hid (by
            intro a11 c11 w11 ho hc
            rw [HQM.out] at ho
            refine ⟨?_, HB2.out.trans (hc.none.mono HWS.out)⟩
            unfold open1
            rw [← ints_append, ← ints_append]
            exact ho.lower HWS.out)
          have H1C : Hid (∀ u ∈ [Value.int .i64 px, Value.int .i64 py], u.oneCell' = true) := Lib.hid (by simp [Value.oneCell'])
          clear bz
          clear hc0 hc1
          refine Ways.start (S := (fun w' => w'.cell? ⟨gp, 0, none⟩ = some (.int .i64 px) ∧ w'.cell? ⟨gp, 1, none⟩ = some (.int .i64 py))) (last := 14) (by kernel_rfl) ?_
          have hHeld : (fun w' => w'.cell? ⟨gp, 0, none⟩ = some (.int .i64 px) ∧ w'.cell? ⟨gp, 1, none⟩ = some (.int .i64 py)) wp.drew := by (try dsimp only); go_keep
          refine Ways.take (i := 0) (o := { dst := some 38, op := Op.move (Operand.tmp 5), type := 24, pos := "ref.go:101", after := #[], guard := none }) (v := ?_) [2, 3, 9, 14] (by rfl) (by rfl) rfl (by kernel_rfl) (by kernel_rfl) (by kernel_rfl) (by kernel_rfl) (fun _ _ _ h => h) (Or.inl ⟨by rfl, ?_⟩) (by assumption) ?_
          rotate_left 1
          · (intro w hSw; (try dsimp only at hSw); go_simp; (try with_reducible rfl))
          try simp only [Act.put, List.setIfInBounds_toArray, List.set_cons_zero, List.set_cons_succ]
          refine Ways.take (i := 1) (o := { dst := some 39, op := Op.move (Operand.tmp 6), type := 3, pos := "ref.go:101", after := #[], guard := none }) (v := ?_) [2, 3, 9, 14] (by rfl) (by rfl) rfl (by kernel_rfl) (by kernel_rfl) (by kernel_rfl) (by kernel_rfl) (fun _ _ _ h => h) (Or.inl ⟨by rfl, ?_⟩) (by assumption) ?_
          rotate_left 1
          · (intro w hSw; (try dsimp only at hSw); go_simp; (try with_reducible rfl))
          try simp only [Act.put, List.setIfInBounds_toArray, List.set_cons_zero, List.set_cons_succ]
          refine Ways.take (i := 2) (o := { dst := some 40, op := Op.slice 24 (Operand.tmp 38) none (some (Operand.tmp 39)) none, type := 24, pos := "ref.go:101", after := #[{ on := 0, ground := Ground.data }, { on := 1, ground := Ground.data }], guard := none }) (v := ?_) [3, 9, 14] (by rfl) (by rfl) rfl (by kernel_rfl) (by kernel_rfl) (by kernel_rfl) (by kernel_rfl) (fun _ _ _ h => h) (Or.inl ⟨by rfl, ?_⟩) (by assumption) ?_
          rotate_left 1
          · (intro w hSw; (try dsimp only at hSw); go_simp; (try with_reducible rfl))
          try simp only [Act.put, List.setIfInBounds_toArray, List.set_cons_zero, List.set_cons_succ]
          refine Ways.take (i := 4) (o := { dst := some 42, op := Op.fieldAddr 49 (Operand.tmp 7) 0, type := 0, pos := "ref.go:101", after := #[], guard := none }) (v := ?_) [5, 8, 9, 14] (by rfl) (by rfl) rfl (by kernel_rfl) (by kernel_rfl) (by kernel_rfl) (by kernel_rfl) (fun _ _ _ h => h) (Or.inl ⟨by rfl, ?_⟩) (by assumption) ?_
          rotate_left 1
          · (intro w hSw; (try dsimp only at hSw); go_simp; (try with_reducible rfl))
          try simp only [Act.put, List.setIfInBounds_toArray, List.set_cons_zero, List.set_cons_succ]
          refine Ways.take (i := 5) (o := { dst := some 43, op := Op.load 3 (Operand.tmp 42), type := 3, pos := "ref.go:101", after := #[{ on := 4, ground := Ground.data }], guard := none }) (v := ?_) [8, 9, 14] (by rfl) (by rfl) rfl (by kernel_rfl) (by kernel_rfl) (by kernel_rfl) (by kernel_rfl) (fun _ _ _ h => h) (Or.inl ⟨by rfl, ?_⟩) (by assumption) ?_
          rotate_left 1
          · (intro w hSw; (try dsimp only at hSw); go_simp; (try with_reducible rfl))
          try simp only [Act.put, List.setIfInBounds_toArray, List.set_cons_zero, List.set_cons_succ]
          refine Ways.take (i := 6) (o := { dst := some 44, op := Op.fieldAddr 49 (Operand.tmp 7) 1, type := 0, pos := "ref.go:101", after := #[], guard := none }) (v := ?_) [7, 8, 9, 14] (by rfl) (by rfl) rfl (by kernel_rfl) (by kernel_rfl) (by kernel_rfl) (by kernel_rfl) (fun _ _ _ h => h) (Or.inl ⟨by rfl, ?_⟩) (by assumption) ?_
          rotate_left 1
          · (intro w hSw; (try dsimp only at hSw); go_simp; (try with_reducible rfl))
          try simp only [Act.put, List.setIfInBounds_toArray, List.set_cons_zero, List.set_cons_succ]
          refine Ways.take (i := 7) (o := { dst := some 45, op := Op.load 3 (Operand.tmp 44), type := 3, pos := "ref.go:101", after := #[{ on := 6, ground := Ground.data }], guard := none }) (v := ?_) [8, 9, 14] (by rfl) (by rfl) rfl (by kernel_rfl) (by kernel_rfl) (by kernel_rfl) (by kernel_rfl) (fun _ _ _ h => h) (Or.inl ⟨by rfl, ?_⟩) (by assumption) ?_
          rotate_left 1
          · (intro w hSw; (try dsimp only at hSw); go_simp; (try with_reducible rfl))
          try simp only [Act.put, List.setIfInBounds_toArray, List.set_cons_zero, List.set_cons_succ]
          refine Ways.take (i := 10) (o := { dst := some 48, op := Op.move (Operand.tmp 5), type := 24, pos := "ref.go:101", after := #[], guard := none }) (v := ?_) [13, 14] (by rfl) (by rfl) rfl (by kernel_rfl) (by kernel_rfl) (by kernel_rfl) (by kernel_rfl) (fun _ _ _ h => h) (Or.inl ⟨by rfl, ?_⟩) (by assumption) ?_
          rotate_left 1
          · (intro w hSw; (try dsimp only at hSw); go_simp; (try with_reducible rfl))
          try simp only [Act.put, List.setIfInBounds_toArray, List.set_cons_zero, List.set_cons_succ]
          refine Ways.take (i := 11) (o := { dst := some 49, op := Op.move (Operand.tmp 6), type := 3, pos := "ref.go:101", after := #[], guard := none }) (v := ?_) [12, 13, 14] (by rfl) (by rfl) rfl (by kernel_rfl) (by kernel_rfl) (by kernel_rfl) (by kernel_rfl) (fun _ _ _ h => h) (Or.inl ⟨by rfl, ?_⟩) (by assumption) ?_
          rotate_left 1
          · (intro w hSw; (try dsimp only at hSw); go_simp; (try with_reducible rfl))
          try simp only [Act.put, List.setIfInBounds_toArray, List.set_cons_zero, List.set_cons_succ]
          refine Ways.take (i := 12) (o := { dst := some 50, op := Op.binOp BinOp.add 3 (Operand.tmp 49) (Operand.const (Value.int IntKind.i64 1)) 3, type := 3, pos := "ref.go:101", after := #[{ on := 11, ground := Ground.data }], guard := none }) (v := ?_) [13, 14] (by rfl) (by rfl) rfl (by kernel_rfl) (by kernel_rfl) (by kernel_rfl) (by kernel_rfl) (fun _ _ _ h => h) (Or.inl ⟨by rfl, ?_⟩) (by assumption) ?_
          rotate_left 1
          · (intro w hSw; (try dsimp only at hSw); go_simp; (try with_reducible rfl))
          try simp only [Act.put, List.setIfInBounds_toArray, List.set_cons_zero, List.set_cons_succ]
          refine Ways.take (i := 13) (o := { dst := some 51, op := Op.slice 24 (Operand.tmp 48) (some (Operand.tmp 50)) none none, type := 24, pos := "ref.go:101", after := #[{ on := 10, ground := Ground.data }, { on := 12, ground := Ground.data }], guard := none }) (v := ?_) [14] (by rfl) (by rfl) rfl (by kernel_rfl) (by kernel_rfl) (by kernel_rfl) (by kernel_rfl) (fun _ _ _ h => h) (Or.inl ⟨by rfl, ?_⟩) (by assumption) ?_
          rotate_left 1
          · (intro w hSw; (try dsimp only at hSw); go_simp; (try with_reducible rfl))
          try simp only [Act.put, List.setIfInBounds_toArray, List.set_cons_zero, List.set_cons_succ]
          refine Ways.two (i := 3) (j := 8) (by kernel_rfl) (wpOp_step (o := { dst := some 41, op := Op.call { callee := Callee.builtin Builtin.append, args := #[Operand.const (Value.slice none 0 0), Operand.tmp 40], argTypes := #[24, 24] }, type := 24, pos := "ref.go:101", after := #[{ on := 2, ground := Ground.data }], guard := none }) rfl (fun K hK => ?_)) (wpOp_step (o := { dst := some 46, op := Op.buildSlice 24 2 #[(0, Operand.tmp 43), (1, Operand.tmp 45)], type := 24, pos := "ref.go:101", after := #[{ on := 5, ground := Ground.data }, { on := 7, ground := Ground.data }], guard := none }) rfl (fun K hK => ?_))
          · refine step_app el24 (by omega) (by rfl) (.const (.slice none 0 0)) (.tmp 40) (by rfl) (by rfl) (Own.none_ _ wp.heap.size 3 1) (by rfl) (HRT.out _ ((Chg.refl (fun _ => False) wp).drew)) (ints_one _) (by have := HMB.out; omega) (by have := HMB.out; omega) (((Chg.refl (fun _ => False) wp).drew)).size ?_
            intro a9 c9 w9 ho9 hg9 ha9
            simp only [Nat.zero_add, List.nil_append] at ho9 ⊢
            have HC9 := Lib.hid (app_chg ((Chg.refl (fun _ => False) wp).drew) (Own.none_ _ wp.heap.size 3 1) hg9)
            have HO9 := Lib.hid ho9
            refine hK _ _ ⟨fun hlast => ?_, ?_⟩
            · exact ⟨((HC9.out).blk BZ.out id).cell 0 rfl, ((HC9.out).blk BZ.out id).cell 1 rfl⟩
            clear hK K
            try simp only [Act.put, List.setIfInBounds_toArray, List.set_cons_zero, List.set_cons_succ]
            have HOA := Lib.hid (HO9.out.chg ((Chg.refl (fun _ => False) w9).alloc (.cells #[.int .i64 px, .int .i64 py] 3)) (fun _ _ => id))
            have HRA := Lib.hid (Own.made (B := w9.heap.size) (size := 1) w9 #[.int .i64 px, .int .i64 py] 3 2 (Nat.le_refl _) (by unfold maxLen; omega) rfl).rd
            refine Ways.only (i := 8) (by kernel_rfl) (wpOp_step (o := { dst := some 46, op := Op.buildSlice 24 2 #[(0, Operand.tmp 43), (1, Operand.tmp 45)], type := 24, pos := "ref.go:101", after := #[{ on := 5, ground := Ground.data }, { on := 7, ground := Ground.data }], guard := none }) rfl (fun K hK => ?_))
            go_simp
            refine hK _ _ ⟨fun hlast => ?_, ?_⟩
            · exact ⟨(((HC9.out.alloc (.cells #[.int .i64 px, .int .i64 py] 3))).blk BZ.out id).cell 0 rfl, (((HC9.out.alloc (.cells #[.int .i64 px, .int .i64 py] 3))).blk BZ.out id).cell 1 rfl⟩
            clear hK K
            try simp only [Act.put, List.setIfInBounds_toArray, List.set_cons_zero, List.set_cons_succ]
            refine Ways.only (i := 9) (by kernel_rfl) (wpOp_step (o := { dst := some 47, op := Op.call { callee := Callee.builtin Builtin.append, args := #[Operand.tmp 41, Operand.tmp 46], argTypes := #[24, 24] }, type := 24, pos := "ref.go:101", after := #[{ on := 3, ground := Ground.data }, { on := 8, ground := Ground.data }, { on := 3, ground := Ground.chain }], guard := none }) rfl (fun K hK => ?_))
            refine step_app el24 (by omega) (by rfl) (.tmp 41) (.tmp 46) (by rfl) (by rfl) HOA.out (by rfl) HRA.out H1C.out (by have := HMB.out; omega) (by have := HMB.out; omega) ((HC9.out.alloc (.cells #[.int .i64 px, .int .i64 py] 3))).size ?_
            intro a10 c10 w10 ho10 hg10 ha10
            have HC10 := Lib.hid (app_chg (HC9.out.alloc (.cells #[.int .i64 px, .int .i64 py] 3)) HOA.out hg10)
            have HO10 := Lib.hid ho10
            clear ho10 hg10 ha10
            refine hK _ _ ⟨fun hlast => ?_, ?_⟩
            · exact ⟨((HC10.out).blk BZ.out id).cell 0 rfl, ((HC10.out).blk BZ.out id).cell 1 rfl⟩
            clear hK K
            try simp only [Act.put, List.setIfInBounds_toArray, List.set_cons_zero, List.set_cons_succ]
            refine Ways.only (i := 14) (by kernel_rfl) (wpOp_step (o := { dst := some 52, op := Op.call { callee := Callee.builtin Builtin.append, args := #[Operand.tmp 47, Operand.tmp 51], argTypes := #[24, 24] }, type := 24, pos := "ref.go:101", after := #[{ on := 9, ground := Ground.data }, { on := 13, ground := Ground.data }, { on := 9, ground := Ground.chain }], guard := none }) rfl (fun K hK => ?_))
            refine step_app el24 (by omega) (by rfl) (.tmp 47) (.tmp 51) (by rfl) (by rfl) HO10.out (by rfl) (HRD.out _ HC10.out) (ints_one _) (by have := HMB.out; omega) (by have := HMB.out; omega) HC10.out.size ?_
            intro a11 c11 w11 ho11 hg11 ha11
            have HC11 := Lib.hid (app_chg HC10.out HO10.out hg11)
            have HO11 := Lib.hid ho11
            clear ho11 hg11 ha11
            refine hK _ _ ⟨fun hlast => ?_, ?_⟩
            · exact absurd (Eq.trans (Eq.symm hlast) (by kernel_rfl)) (by decide : ¬ false = true)
            clear hK K
            try simp only [Act.put, List.setIfInBounds_toArray, List.set_cons_zero, List.set_cons_succ]
            refine Ways.only (i := 15) (by kernel_rfl) (wpOp_step (o := { dst := some 5, op := Op.assign (Operand.tmp 52), type := 24, pos := "ref.go:101", after := #[{ on := 14, ground := Ground.data }, { on := 14, ground := Ground.chain }, { on := 0, ground := Ground.phase }, { on := 1, ground := Ground.phase }, { on := 2, ground := Ground.phase }, { on := 3, ground := Ground.phase }, { on := 4, ground := Ground.phase }, { on := 5, ground := Ground.phase }, { on := 6, ground := Ground.phase }, { on := 7, ground := Ground.phase }, { on := 8, ground := Ground.phase }, { on := 9, ground := Ground.phase }, { on := 10, ground := Ground.phase }, { on := 11, ground := Ground.phase }, { on := 12, ground := Ground.phase }, { on := 13, ground := Ground.phase }, { on := 14, ground := Ground.phase }], guard := none }) rfl (fun K hK => ?_))
            go_simp
            refine hK _ _ ⟨fun hlast => ?_, ?_⟩
            · exact absurd (Eq.trans (Eq.symm hlast) (by kernel_rfl)) (by decide : ¬ false = true)
            clear hK K
            try simp only [Act.put, List.setIfInBounds_toArray, List.set_cons_zero, List.set_cons_succ]
            refine Ways.done (by kernel_rfl) ?_ _
            rw [HQM.out]
            have HF := Lib.hid (HEND.out a11 c11 w11 HO11.out HC11.out)
            clear hif v1 v2 v3 v4 v5 v6 p0 p1
            go_wp2_with fail
            go_roundw
            case rel => exact ⟨open1 z q (px, py), q, a11, c11, by have := HLT.out; have := HZL.out; omega, by have := HXL.out; have := HX.out; omega, rfl, by rw [HZL.out], by rw [HZL.out]; exact Lib.hid HF.out.1, HX2, HLF2, Lib.hid HF.out.2⟩
            case measure => have := HLT.out; have := HZL.out; have := HXL.out; have := HX.out; simp [intOf, lenOf]; omega
          · go_simp
            refine hK _ _ ⟨fun hlast => ?_, ?_⟩
            · exact ⟨(((((Chg.refl (fun _ => False) wp).drew).alloc (.cells #[.int .i64 px, .int .i64 py] 3))).blk BZ.out id).cell 0 rfl, (((((Chg.refl (fun _ => False) wp).drew).alloc (.cells #[.int .i64 px, .int .i64 py] 3))).blk BZ.out id).cell 1 rfl⟩
            clear hK K
            try simp only [Act.put, List.setIfInBounds_toArray, List.set_cons_zero, List.set_cons_succ]
            refine Ways.only (i := 3) (by kernel_rfl) (wpOp_step (o := { dst := some 41, op := Op.call { callee := Callee.builtin Builtin.append, args := #[Operand.const (Value.slice none 0 0), Operand.tmp 40], argTypes := #[24, 24] }, type := 24, pos := "ref.go:101", after := #[{ on := 2, ground := Ground.data }], guard := none }) rfl (fun K hK => ?_))
            refine step_app el24 (by omega) (by rfl) (.const (.slice none 0 0)) (.tmp 40) (by rfl) (by rfl) (Own.none_ _ wp.heap.size 3 1) (by rfl) (HRT.out _ (((Chg.refl (fun _ => False) wp).drew).alloc (.cells #[.int .i64 px, .int .i64 py] 3))) (ints_one _) (by have := HMB.out; omega) (by have := HMB.out; omega) ((((Chg.refl (fun _ => False) wp).drew).alloc (.cells #[.int .i64 px, .int .i64 py] 3))).size ?_
            intro a9 c9 w9 ho9 hg9 ha9
            simp only [Nat.zero_add, List.nil_append] at ho9 ⊢
            have HC9 := Lib.hid (app_chg (((Chg.refl (fun _ => False) wp).drew).alloc (.cells #[.int .i64 px, .int .i64 py] 3)) (Own.none_ _ wp.heap.size 3 1) hg9)
            have HO9 := Lib.hid ho9
            have HRV := Lib.hid (((Own.made (B := wp.heap.size) (size := 1) wp.drew #[.int .i64 px, .int .i64 py] 3 2 (Nat.le_refl _) (by unfold maxLen; omega) rfl).rd).chg (Chg.of_grown' hg9) (fun _ k _ e => by cases e))
            refine hK _ _ ⟨fun hlast => ?_, ?_⟩
            · exact ⟨((HC9.out).blk BZ.out id).cell 0 rfl, ((HC9.out).blk BZ.out id).cell 1 rfl⟩
            clear hK K
            try simp only [Act.put, List.setIfInBounds_toArray, List.set_cons_zero, List.set_cons_succ]
            refine Ways.only (i := 9) (by kernel_rfl) (wpOp_step (o := { dst := some 47, op := Op.call { callee := Callee.builtin Builtin.append, args := #[Operand.tmp 41, Operand.tmp 46], argTypes := #[24, 24] }, type := 24, pos := "ref.go:101", after := #[{ on := 3, ground := Ground.data }, { on := 8, ground := Ground.data }, { on := 3, ground := Ground.chain }], guard := none }) rfl (fun K hK => ?_))
            refine step_app el24 (by omega) (by rfl) (.tmp 41) (.tmp 46) (by rfl) (by rfl) HO9.out (by rfl) HRV.out H1C.out (by have := HMB.out; omega) (by have := HMB.out; omega) (HC9.out).size ?_
            intro a10 c10 w10 ho10 hg10 ha10
            have HC10 := Lib.hid (app_chg HC9.out HO9.out hg10)
            have HO10 := Lib.hid ho10
            clear ho10 hg10 ha10
            refine hK _ _ ⟨fun hlast => ?_, ?_⟩
            · exact ⟨((HC10.out).blk BZ.out id).cell 0 rfl, ((HC10.out).blk BZ.out id).cell 1 rfl⟩
            clear hK K
            try simp only [Act.put, List.setIfInBounds_toArray, List.set_cons_zero, List.set_cons_succ]
            refine Ways.only (i := 14) (by kernel_rfl) (wpOp_step (o := { dst := some 52, op := Op.call { callee := Callee.builtin Builtin.append, args := #[Operand.tmp 47, Operand.tmp 51], argTypes := #[24, 24] }, type := 24, pos := "ref.go:101", after := #[{ on := 9, ground := Ground.data }, { on := 13, ground := Ground.data }, { on := 9, ground := Ground.chain }], guard := none }) rfl (fun K hK => ?_))
            refine step_app el24 (by omega) (by rfl) (.tmp 47) (.tmp 51) (by rfl) (by rfl) HO10.out (by rfl) (HRD.out _ HC10.out) (ints_one _) (by have := HMB.out; omega) (by have := HMB.out; omega) HC10.out.size ?_
            intro a11 c11 w11 ho11 hg11 ha11
            have HC11 := Lib.hid (app_chg HC10.out HO10.out hg11)
            have HO11 := Lib.hid ho11
            clear ho11 hg11 ha11
            refine hK _ _ ⟨fun hlast => ?_, ?_⟩
            · exact absurd (Eq.trans (Eq.symm hlast) (by kernel_rfl)) (by decide : ¬ false = true)
            clear hK K
            try simp only [Act.put, List.setIfInBounds_toArray, List.set_cons_zero, List.set_cons_succ]
            refine Ways.only (i := 15) (by kernel_rfl) (wpOp_step (o := { dst := some 5, op := Op.assign (Operand.tmp 52), type := 24, pos := "ref.go:101", after := #[{ on := 14, ground := Ground.data }, { on := 14, ground := Ground.chain }, { on := 0, ground := Ground.phase }, { on := 1, ground := Ground.phase }, { on := 2, ground := Ground.phase }, { on := 3, ground := Ground.phase }, { on := 4, ground := Ground.phase }, { on := 5, ground := Ground.phase }, { on := 6, ground := Ground.phase }, { on := 7, ground := Ground.phase }, { on := 8, ground := Ground.phase }, { on := 9, ground := Ground.phase }, { on := 10, ground := Ground.phase }, { on := 11, ground := Ground.phase }, { on := 12, ground := Ground.phase }, { on := 13, ground := Ground.phase }, { on := 14, ground := Ground.phase }], guard := none }) rfl (fun K hK => ?_))
            go_simp
            refine hK _ _ ⟨fun hlast => ?_, ?_⟩
            · exact absurd (Eq.trans (Eq.symm hlast) (by kernel_rfl)) (by decide : ¬ false = true)
            clear hK K
            try simp only [Act.put, List.setIfInBounds_toArray, List.set_cons_zero, List.set_cons_succ]
            refine Ways.done (by kernel_rfl) ?_ _
            rw [HQM.out]
            have HF := Lib.hid (HEND.out a11 c11 w11 HO11.out HC11.out)
            clear hif v1 v2 v3 v4 v5 v6 p0 p1
            go_wp2_with fail
            go_roundw
            case rel => exact ⟨open1 z q (px, py), q, a11, c11, by have := HLT.out; have := HZL.out; omega, by have := HXL.out; have := HX.out; omega, rfl, by rw [HZL.out], by rw [HZL.out]; exact Lib.hid HF.out.1, HX2, HLF2, Lib.hid HF.out.2⟩
            case measure => have := HLT.out; have := HZL.out; have := HXL.out; have := HX.out; simp [intOf, lenOf]; omega
      · obtain rfl : q = m := by omega
        have HF : Hid (SplR w L t (.returned (.slice a1 q c1)) wr) := Lib.hid (by
          have h1 := HFIN.out z a1 c1 wr (by rw [HM.out]; exact HO.out) HXZ.out (fun u hu => HLF.out u (by rw [List.take_of_length_le (by have := HM.out; omega)]; exact hu)) HB.out
          rw [HM.out] at h1
          exact h1)
        clear hlt
        go_wp2_with fail
        go_ret
        exact HF.out
  · have HFIN : Hid (SplR w L t (.returned (.slice none 0 0)) w) := Lib.hid ⟨Below.refl _ _, [], none, 0, rfl, Own.none_ _ _ _ _, .inl ⟨h1, rfl⟩⟩
    have htt := (okT_iff t).1 ht
    by_cases t0 : t < 1
    · clear h hg hsz h1
      go_enter Try.func19, Try.ntmps19
      go_wp2_with fail
      go_ret
      exact HFIN.out
    · have t1 : 17 + (L.length : Int) ≤ t := by omega
      obtain ⟨n, HN⟩ : ∃ n, Hid (L.length = n) := ⟨_, Lib.hid rfl⟩
      rw [HN.out] at hL t1 ⊢
      clear h hg hsz h1
      go_enter Try.func19, Try.ntmps19
      go_wp2_with fail
      go_ret
      exact HFIN.out
end
end Go.Proofs.Ytlndhmkkffcbnaa.TkJ
