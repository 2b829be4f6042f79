/-
  The document's Learn.
-/
import Derived.Test.YtlndhmkkffcbnaaTlF
import Derived.Test.YtlndhmkkffcbnaaTlD
import Derived.Test.YtlndhmkkffcbnaaTkX
namespace Go.Proofs.Ytlndhmkkffcbnaa.TlG
open Go.RowKit Go.Proofs.Ytlndhmkkffcbnaa.Kit Go.Proofs.Ytlndhmkkffcbnaa.TkM Go.Proofs.Ytlndhmkkffcbnaa.TkP Go.Proofs.Ytlndhmkkffcbnaa.TkQ Go.Proofs.Ytlndhmkkffcbnaa.TkW Go.Proofs.Ytlndhmkkffcbnaa.TkE Go.Proofs.Ytlndhmkkffcbnaa.TkA Go.Proofs.Ytlndhmkkffcbnaa.TkN Go.Proofs.Ytlndhmkkffcbnaa.TkO Go.Proofs.Ytlndhmkkffcbnaa.TkT Go.Proofs.Ytlndhmkkffcbnaa.TkJ Go.Proofs.Ytlndhmkkffcbnaa.TkK Go.Proofs.Ytlndhmkkffcbnaa.TkX Go.Proofs.Ytlndhmkkffcbnaa.TlP Go.Proofs.Ytlndhmkkffcbnaa.TlC Go.Proofs.Ytlndhmkkffcbnaa.TlD Go.Proofs.Ytlndhmkkffcbnaa.TlE Go.Proofs.Ytlndhmkkffcbnaa.TlF
attribute [local go_sem high] max_imax min_imin
attribute [local go_sem ↓] Go.wp_at_zero Go.wp_at_succ
set_option linter.unusedVariables false
theorem el22 : ElemT Try.prog 22 49 2 16 := by
  refine ⟨Try.underlying22, ?_⟩
  have h : (Try.prog.info? 49).map (fun i => (i.zero, i.size, i.bytes)) = some (some (.agg #[.int .i64 0, .int .i64 0]), 2, 16) := by kernel_rfl
  cases hi : Try.prog.info? 49 with
  | none => rw [hi] at h; simp at h
  | some i =>
    rw [hi] at h
    simp at h
    exact ⟨i, _, rfl, h.1, h.2.1, h.2.2, rfl⟩
/-- Lists of the call's own; two may lie in one place. -/
structure LsD (w : World) (B : Nat) (al : Option Addr) (cl : Nat) (A : List (Option Addr × Nat)) (X : List (List Int)) : Prop where
  main : Own w B 24 1 al X.length cl (vls A X)
  len : A.length = X.length
  rows : ∀ (i : Nat) (a : Option Addr) (c : Nat) (x : List Int), A[i]? = some (a, c) → X[i]? = some x → Own w B 3 1 a x.length c (ints x)
section
variable {w w' : World} {B : Nat} {al : Option Addr} {cl : Nat} {A : List (Option Addr × Nat)} {X : List (List Int)}
theorem LsD.nil (w : World) (B : Nat) : LsD w B none 0 [] [] := ⟨Own.none_ _ _ _ _, rfl, fun i a c x h _ => by simp at h⟩
theorem LsD.lsr (h : LsD w B al cl A X) : LsR w al cl X := ⟨⟨_, h.main.rd, fun i x hx => by
  have hi : i < A.length := by rw [h.len]; exact (List.getElem?_eq_some_iff.1 hx).1
  obtain ⟨⟨a, c⟩, ha⟩ : ∃ p, A[i]? = some p := ⟨_, List.getElem?_eq_getElem hi⟩
  exact ⟨a, c, vls_get ha hx, (h.rows i a c x ha hx).rd⟩⟩⟩
theorem LsD.on (h : LsD w B al cl A X) (hb : Below w.heap.size w w') : LsD w' B al cl A X := by
  have hc := Chg.of_below hb (fun _ => False)
  exact ⟨h.main.chg hc (fun _ _ => id), h.len, fun i a c x ha hx => (h.rows i a c x ha hx).chg hc (fun _ _ => id)⟩
/-- A block of merges turns. -/
theorem LsD.far {e : TypeId} {s m n : Nat} {am : Option Addr} {xs : List Value} (h : LsD w B al cl A X) (ho : Own w B e s am n m xs) (h1 : e ≠ 24) (h2 : e ≠ 3) (hc : Chg (fun k => ob am = some k) w w') : LsD w' B al cl A X :=
  ⟨h.main.chg hc (fun q hq e2 => own_ob h.main ho (fun e3 => h1 e3.symm) q hq e2), h.len, fun i a c x ha hx => (h.rows i a c x ha hx).chg hc (fun q hq e2 => own_ob (h.rows i a c x ha hx) ho (fun e3 => h2 e3.symm) q hq e2)⟩
theorem LsD.push {al' : Option Addr} {cl' : Nat} {a : Option Addr} {c : Nat} {x : List Int} (h : LsD w B al cl A X) (hc : Chg (fun k => ob al = some k) w w')
    (hm : Own w' B 24 1 al' (X.length + 1) cl' (vls A X ++ [.slice a x.length c])) (hx : Own w' B 3 1 a x.length c (ints x)) : LsD w' B al' cl' (A ++ [(a, c)]) (X ++ [x]) := by
  have hlen := h.len
  refine ⟨by rw [vls_snoc a c x hlen, List.length_append]; exact hm, by simp [hlen], fun i a1 c1 x1 ha hx1 => ?_⟩
  rcases Nat.lt_or_ge i A.length with hi | hi
  · rw [List.getElem?_append_left hi] at ha
    rw [List.getElem?_append_left (by omega)] at hx1
    have hr := h.rows i a1 c1 x1 ha hx1
    exact hr.chg hc (fun q hq e => own_ob hr h.main (by decide) q hq e)
  · have hil : i < A.length + 1 := by
      have := (List.getElem?_eq_some_iff.1 ha).1
      simpa using this
    obtain rfl : i = A.length := by omega
    simp at ha
    obtain ⟨rfl, rfl⟩ := ha
    rw [hlen] at hx1
    simp at hx1
    subst hx1
    exact hx
theorem LsD.put {g i : Nat} {a' : Option Addr} {c' : Nat} {r : List Int} (h : LsD w B (some ⟨g, 0, none⟩) cl A X) (hi : i < X.length) (hr : Own w B 3 1 a' r.length c' (ints r)) :
    LsD (w.setCell ⟨g, i, none⟩ (.slice a' r.length c')) B (some ⟨g, 0, none⟩) cl (A.set i (a', c')) (X.set i r) ∧ Chg (fun k => k = g) w (w.setCell ⟨g, i, none⟩ (.slice a' r.length c')) := by
  obtain ⟨hl, ⟨h0, _⟩ | ⟨g', cur, hg', hB, hh, h3, h4, h5, h6⟩⟩ := h.main.form
  · cases h0
  · injection hg' with hg'
    injection hg' with hg' _
    subst hg'
    have hb : Blk w g 24 cur := hh
    have hs : Chg (fun k => k = g) w (w.setCell ⟨g, i, none⟩ (.slice a' r.length c')) := (Chg.refl (fun k => k = g) w).set (p := ⟨g, i, none⟩) (.inl rfl) _
    have hiA : i < A.length := by rw [h.len]; exact hi
    have hv : (vls A X).set i (.slice a' r.length c') = vls (A.set i (a', c')) (X.set i r) := by
      have key : ∀ (A : List (Option Addr × Nat)) (X : List (List Int)) (i : Nat), i < A.length → i < X.length → (vls A X).set i (.slice a' r.length c') = vls (A.set i (a', c')) (X.set i r) := by
        intro A
        induction A with
        | nil => intro X i h1 _; simp at h1
        | cons p A ih =>
          intro X i h1 h2
          cases X with
          | nil => simp at h2
          | cons y X =>
            cases i with
            | zero => rfl
            | succ i =>
              show _ :: (vls A X).set i _ = _ :: vls (A.set i (a', c')) (X.set i r)
              rw [ih X i (by simpa using h1) (by simpa using h2)]
      exact key A X i hiA hi
    refine ⟨⟨?_, by simp [h.len], fun j a1 c1 x1 ha1 hx1 => ?_⟩, hs⟩
    · rw [List.length_set, ← hv, ← h6, Nat.mul_one]
      refine own_of (hb.set i (.slice a' r.length c')) hB h3 h4 (by simp; omega) ?_
      rw [Nat.mul_one, Array.toList_setIfInBounds, List.take_set]
    · by_cases e : i = j
      · subst e
        rw [List.getElem?_set_self hiA] at ha1
        rw [List.getElem?_set_self hi] at hx1
        injection ha1 with ha1
        injection ha1 with e1 e2
        subst e1 e2
        injection hx1 with hx1
        subst hx1
        exact hr.chg hs (fun q hq e => hr.ne hb (by decide) (by rw [hq, e]))
      · rw [List.getElem?_set_ne e] at ha1 hx1
        have ho := h.rows j a1 c1 x1 ha1 hx1
        exact ho.chg hs (fun q hq e2 => ho.ne hb (by decide) (by rw [hq, e2]))
end
section
variable {w : World}
def DLearnR (w : World) (T : List (List Int)) (most : Int) (e : Ending) (w' : World) : Prop :=
  Below w.heap.size w w' ∧ ∃ R a c, e = .returned (.slice a R.length c) ∧ Rd w' 2 a R.length c (prs R) ∧ Lrn most [] (T.map hv) R
set_option maxHeartbeats 4000000 in
theorem dlearn_any {at_ : Option Addr} {ct : Nat} {T : List (List Int)} (h : TxR w at_ ct T) (hf : Few T) (most : Int) : Calls Try.prog 21 #[.slice at_ T.length ct, .int .i64 most] w (DLearnR w T most) := by
  have HR := Lib.hid h
  have HF := Lib.hid hf
  have hn6 := hf.1
  obtain ⟨n, HN⟩ : ∃ n, Hid (T.length = n) := ⟨_, Lib.hid rfl⟩
  rw [HN.out] at hn6 ⊢
  clear h hf
  go_enter Try.func21, Try.ntmps21
  go_wp2_with fail
  go_loopw [5, 6] (fun lv i wr => ∃ (k : Nat) (al : Option Addr) (cl : Nat) (A : List (Option Addr × Nat)), k ≤ n ∧ i = .int .i64 k ∧ lv = .slice al k cl ∧ Hid (LsD wr w.heap.size al cl A ((T.take k).map hv)) ∧ Hid (Below w.heap.size w wr)) (fun _ i _ => n - (intOf i).toNat)
  case atStart => exact ⟨0, none, 0, [], by omega, rfl, rfl, Lib.hid (LsD.nil _ _), Lib.hid (Below.refl _ _)⟩
  case round =>
    obtain ⟨k, al, cl, A, hk, rfl, rfl, HLO, HB⟩ := hrel
    by_cases hlt : k < n
    · obtain ⟨x, hx⟩ : ∃ x, T[k]? = some x := ⟨_, List.getElem?_eq_getElem (by rw [HN.out]; exact hlt)⟩
      obtain ⟨b0, o0, a, c, rfl, hc0, hrx⟩ := (HR.out.on HB.out).get hx
      have hxm := HF.out.2 x (List.mem_of_getElem? hx)
      have HHV := Lib.hid (dhalves_any hrx.drew (HR.out.ok x (List.mem_of_getElem? hx)) (by omega))
      have HTK : Hid ((T.take (k + 1)).map hv = (T.take k).map hv ++ [hv x]) := Lib.hid (by rw [List.take_add_one, hx]; simp)
      have HXL : Hid (((T.take k).map hv).length = k) := Lib.hid (by simp; have := HN.out; omega)
      have hxc := hrx.cap
      obtain ⟨m, HML⟩ : ∃ m, Hid (x.length = m) := ⟨_, Lib.hid rfl⟩
      rw [HML.out] at hc0 HHV hxm hxc
      have hm2 := few_min2 hxm
      have hmc : (m : Int) ≤ (c : Int) := by omega
      have k0 : (0 : Int) ≤ (k : Int) := by omega
      have k1 : (k : Int) < (n : Int) := by omega
      have k2 : (k : Int) < 16 := by omega
      have m0 : (0 : Int) ≤ (m : Int) := by omega
      have HLT := Lib.hid hlt
      have HLOD := Lib.hid (HLO.out.on (below_drew (Below.refl wr.heap.size wr)))
      have HN6 : Hid (k ≤ 6) := Lib.hid (by omega)
      clear hx hlt hrx
      go_upto_region 5 with (fail)
      refine Ways.start (S := (fun w' => w'.cell? ⟨b0, o0 + k, none⟩ = some (.slice a m c))) (last := 12) (by kernel_rfl) ?_
      have hHeld : (fun w' => w'.cell? ⟨b0, o0 + k, none⟩ = some (.slice a m c)) wr.drew := by (try dsimp only); go_keep
      refine Ways.take0 (i := 0) (o := { dst := some 21, op := Op.move (Operand.tmp 5), type := 67, pos := "ref.go:170", after := #[], guard := none }) (v := ?_) (by rfl) rfl (by kernel_rfl) (by kernel_rfl) (by kernel_rfl) (fun _ _ _ h => h) (Or.inl ⟨by rfl, ?_⟩) (by assumption) ?_
      rotate_left 1
      · (intro w hSw; (try dsimp only at hSw); go_simp; (try with_reducible rfl))
      try simp only [Act.put, List.setIfInBounds_toArray, List.set_cons_zero, List.set_cons_succ]
      refine Ways.take (i := 1) (o := { dst := some 22, op := Op.move (Operand.tmp 0), type := 51, pos := "ref.go:170", after := #[], guard := none }) (v := ?_) [3, 4, 11, 12] (by rfl) (by rfl) rfl (by kernel_rfl) (by kernel_rfl) (by kernel_rfl) (by kernel_rfl) (fun _ _ _ h => h) (Or.inl ⟨by rfl, ?_⟩) (by assumption) ?_
      rotate_left 1
      · (intro w hSw; (try dsimp only at hSw); go_simp; (try with_reducible rfl))
      try simp only [Act.put, List.setIfInBounds_toArray, List.set_cons_zero, List.set_cons_succ]
      refine Ways.take (i := 2) (o := { dst := some 23, op := Op.move (Operand.tmp 6), type := 3, pos := "ref.go:170", after := #[], guard := none }) (v := ?_) [3, 4, 11, 12] (by rfl) (by rfl) rfl (by kernel_rfl) (by kernel_rfl) (by kernel_rfl) (by kernel_rfl) (fun _ _ _ h => h) (Or.inl ⟨by rfl, ?_⟩) (by assumption) ?_
      rotate_left 1
      · (intro w hSw; (try dsimp only at hSw); go_simp; (try with_reducible rfl))
      try simp only [Act.put, List.setIfInBounds_toArray, List.set_cons_zero, List.set_cons_succ]
      refine Ways.take (i := 3) (o := { dst := some 24, op := Op.indexAddr 51 (Operand.tmp 22) (Operand.tmp 23), type := 0, pos := "ref.go:170", after := #[{ on := 1, ground := Ground.data }, { on := 2, ground := Ground.data }], guard := none }) (v := ?_) [4, 11, 12] (by rfl) (by rfl) rfl (by kernel_rfl) (by kernel_rfl) (by kernel_rfl) (by kernel_rfl) (fun _ _ _ h => h) (Or.inl ⟨by rfl, ?_⟩) (by assumption) ?_
      rotate_left 1
      · (intro w hSw; (try dsimp only at hSw); go_simp; (try with_reducible rfl))
      try simp only [Act.put, List.setIfInBounds_toArray, List.set_cons_zero, List.set_cons_succ]
      refine Ways.take (i := 4) (o := { dst := some 25, op := Op.load 23 (Operand.tmp 24), type := 23, pos := "ref.go:170", after := #[{ on := 3, ground := Ground.data }], guard := none }) (v := ?_) [11, 12] (by rfl) (by rfl) rfl (by kernel_rfl) (by kernel_rfl) (by kernel_rfl) (by kernel_rfl) (fun _ _ _ h => h) (Or.inl ⟨by rfl, ?_⟩) (by assumption) ?_
      rotate_left 1
      · (intro w hSw; (try dsimp only at hSw); go_simp; (try with_reducible rfl))
      try simp only [Act.put, List.setIfInBounds_toArray, List.set_cons_zero, List.set_cons_succ]
      refine Ways.take (i := 5) (o := { dst := some 26, op := Op.move (Operand.tmp 0), type := 51, pos := "ref.go:170", after := #[], guard := none }) (v := ?_) [7, 8, 9, 10, 11, 12] (by rfl) (by rfl) rfl (by kernel_rfl) (by kernel_rfl) (by kernel_rfl) (by kernel_rfl) (fun _ _ _ h => h) (Or.inl ⟨by rfl, ?_⟩) (by assumption) ?_
      rotate_left 1
      · (intro w hSw; (try dsimp only at hSw); go_simp; (try with_reducible rfl))
      try simp only [Act.put, List.setIfInBounds_toArray, List.set_cons_zero, List.set_cons_succ]
      refine Ways.take (i := 6) (o := { dst := some 27, op := Op.move (Operand.tmp 6), type := 3, pos := "ref.go:170", after := #[], guard := none }) (v := ?_) [7, 8, 9, 10, 11, 12] (by rfl) (by rfl) rfl (by kernel_rfl) (by kernel_rfl) (by kernel_rfl) (by kernel_rfl) (fun _ _ _ h => h) (Or.inl ⟨by rfl, ?_⟩) (by assumption) ?_
      rotate_left 1
      · (intro w hSw; (try dsimp only at hSw); go_simp; (try with_reducible rfl))
      try simp only [Act.put, List.setIfInBounds_toArray, List.set_cons_zero, List.set_cons_succ]
      refine Ways.take (i := 7) (o := { dst := some 28, op := Op.indexAddr 51 (Operand.tmp 26) (Operand.tmp 27), type := 0, pos := "ref.go:170", after := #[{ on := 5, ground := Ground.data }, { on := 6, ground := Ground.data }], guard := none }) (v := ?_) [8, 9, 10, 11, 12] (by rfl) (by rfl) rfl (by kernel_rfl) (by kernel_rfl) (by kernel_rfl) (by kernel_rfl) (fun _ _ _ h => h) (Or.inl ⟨by rfl, ?_⟩) (by assumption) ?_
      rotate_left 1
      · (intro w hSw; (try dsimp only at hSw); go_simp; (try with_reducible rfl))
      try simp only [Act.put, List.setIfInBounds_toArray, List.set_cons_zero, List.set_cons_succ]
      refine Ways.take (i := 8) (o := { dst := some 29, op := Op.load 23 (Operand.tmp 28), type := 23, pos := "ref.go:170", after := #[{ on := 7, ground := Ground.data }], guard := none }) (v := ?_) [9, 10, 11, 12] (by rfl) (by rfl) rfl (by kernel_rfl) (by kernel_rfl) (by kernel_rfl) (by kernel_rfl) (fun _ _ _ h => h) (Or.inl ⟨by rfl, ?_⟩) (by assumption) ?_
      rotate_left 1
      · (intro w hSw; (try dsimp only at hSw); go_simp; (try with_reducible rfl))
      try simp only [Act.put, List.setIfInBounds_toArray, List.set_cons_zero, List.set_cons_succ]
      refine Ways.take (i := 9) (o := { dst := some 30, op := Op.call { callee := Callee.builtin Builtin.len, args := #[Operand.tmp 29], argTypes := #[23] }, type := 3, pos := "ref.go:170", after := #[{ on := 8, ground := Ground.data }], guard := none }) (v := ?_) [10, 11, 12] (by rfl) (by rfl) rfl (by kernel_rfl) (by kernel_rfl) (by kernel_rfl) (by kernel_rfl) (fun _ _ _ h => h) (Or.inl ⟨by rfl, ?_⟩) (by assumption) ?_
      rotate_left 1
      · (intro w hSw; (try dsimp only at hSw); go_simp; (try with_reducible rfl))
      try simp only [Act.put, List.setIfInBounds_toArray, List.set_cons_zero, List.set_cons_succ]
      refine Ways.take (i := 10) (o := { dst := some 31, op := Op.call { callee := Callee.builtin Builtin.min, args := #[Operand.tmp 30, Operand.const (Value.int IntKind.i64 512)], argTypes := #[3, 3] }, type := 3, pos := "ref.go:170", after := #[{ on := 9, ground := Ground.data }], guard := none }) (v := ?_) [11, 12] (by rfl) (by rfl) rfl (by kernel_rfl) (by kernel_rfl) (by kernel_rfl) (by kernel_rfl) (fun _ _ _ h => h) (Or.inl ⟨by rfl, ?_⟩) (by assumption) ?_
      rotate_left 1
      · (intro w hSw; (try dsimp only at hSw); go_simp; (try with_reducible rfl))
      try simp only [Act.put, List.setIfInBounds_toArray, List.set_cons_zero, List.set_cons_succ]
      refine Ways.take (i := 11) (o := { dst := some 32, op := Op.slice 23 (Operand.tmp 25) none (some (Operand.tmp 31)) none, type := 23, pos := "ref.go:170", after := #[{ on := 4, ground := Ground.data }, { on := 10, ground := Ground.data }], guard := none }) (v := ?_) [12] (by rfl) (by rfl) rfl (by kernel_rfl) (by kernel_rfl) (by kernel_rfl) (by kernel_rfl) (fun _ _ _ h => h) (Or.inl ⟨by rfl, ?_⟩) (by assumption) ?_
      rotate_left 1
      · (intro w hSw; (try dsimp only at hSw); go_simp; (try with_reducible rfl))
      try simp only [Act.put, List.setIfInBounds_toArray, List.set_cons_zero, List.set_cons_succ]
      refine Ways.only (i := 12) (by kernel_rfl) (wpOp_step (o := { dst := some 33, op := Op.call { callee := Callee.value (Operand.func 28), args := #[Operand.tmp 32], argTypes := #[23] }, type := 24, pos := "ref.go:170", after := #[{ on := 11, ground := Ground.data }], guard := none }) rfl (fun K hK => ?_))
      go_simp
      with_reducible refine HHV.out.mono ?_
      rintro e0 w1 ⟨a1, c1, rfl, ho1, hb1⟩
      dsimp only
      refine hK _ _ ⟨fun hlast => ?_, ?_⟩
      · exact absurd (Eq.trans (Eq.symm hlast) (by kernel_rfl)) (by decide : ¬ false = true)
      clear hK K
      try simp only [Act.put, List.setIfInBounds_toArray, List.set_cons_zero, List.set_cons_succ]
      obtain ⟨hl, HHL⟩ : ∃ hl, Hid ((hv x).length = hl) := ⟨_, Lib.hid rfl⟩
      rw [HHL.out]
      have HLO1 := Lib.hid (HLOD.out.on hb1)
      have HO1 := Lib.hid (ho1.chg ((Chg.refl (fun _ => False) w1).alloc (.cells #[.slice a1 (hv x).length c1] 24)) (fun _ _ => id))
      have HB1 := Lib.hid (below_two2 (below_drew HB.out) hb1)
      rw [HHL.out] at HO1
      have HAZ : Hid (Below w1.heap.size w1 (w1.alloc (.cells #[.slice a1 hl c1] 24))) := Lib.hid ((Below.refl w1.heap.size w1).alloc (Nat.le_refl _) _)
      have HBZ := Lib.hid (below_two2 HB1.out HAZ.out)
      have HLZ := Lib.hid (HLO1.out.on HAZ.out)
      have HMZ := Lib.hid HLZ.out.main
      rw [HXL.out] at HMZ
      have HRZ := Lib.hid (Own.made (B := w1.heap.size) (size := 1) w1 #[.slice a1 hl c1] 24 1 (Nat.le_refl _) (by unfold maxLen; omega) rfl).rd
      have H1C : Hid (∀ u ∈ [Value.slice a1 hl c1], u.oneCell' = true) := Lib.hid (by simp [Value.oneCell'])
      have HOL := Lib.hid (HO1.out.lower HB.out.size)
      clear ho1 hb1
      refine Ways.only (i := 13) (by kernel_rfl) (wpOp_step (o := { dst := some 34, op := Op.buildSlice 67 1 #[(0, Operand.tmp 33)], type := 67, pos := "ref.go:170", after := #[{ on := 12, ground := Ground.data }], guard := none }) rfl (fun K hK => ?_))
      go_simp
      refine hK _ _ ⟨fun hlast => ?_, ?_⟩
      · exact absurd (Eq.trans (Eq.symm hlast) (by kernel_rfl)) (by decide : ¬ false = true)
      clear hK K
      try simp only [Act.put, List.setIfInBounds_toArray, List.set_cons_zero, List.set_cons_succ]
      refine Ways.only (i := 14) (by kernel_rfl) (wpOp_step (o := { dst := some 35, op := Op.call { callee := Callee.builtin Builtin.append, args := #[Operand.tmp 21, Operand.tmp 34], argTypes := #[67, 67] }, type := 67, pos := "ref.go:170", after := #[{ on := 0, ground := Ground.data }, { on := 13, ground := Ground.data }, { on := 12, ground := Ground.chain }], guard := none }) rfl (fun K hK => ?_))
      refine step_app el67 (by omega) (by rfl) (.tmp 21) (.tmp 34) (by rfl) (by rfl) HMZ.out (by rfl) HRZ.out H1C.out (by have := HN6.out; omega) (by have := HN6.out; omega) HBZ.out.size ?_
      intro a' c' w' hown hg hat
      refine hK _ _ ⟨fun hlast => ?_, ?_⟩
      · exact absurd (Eq.trans (Eq.symm hlast) (by kernel_rfl)) (by decide : ¬ false = true)
      clear hK K
      try simp only [Act.put, List.setIfInBounds_toArray, List.set_cons_zero, List.set_cons_succ]
      refine Ways.only (i := 15) (by kernel_rfl) (wpOp_step (o := { dst := some 5, op := Op.assign (Operand.tmp 35), type := 67, pos := "ref.go:170", after := #[{ on := 14, ground := Ground.data }, { on := 14, ground := Ground.chain }, { on := 0, ground := Ground.phase }, { on := 1, ground := Ground.phase }, { on := 2, ground := Ground.phase }, { on := 3, ground := Ground.phase }, { on := 4, ground := Ground.phase }, { on := 5, ground := Ground.phase }, { on := 6, ground := Ground.phase }, { on := 7, ground := Ground.phase }, { on := 8, ground := Ground.phase }, { on := 9, ground := Ground.phase }, { on := 10, ground := Ground.phase }, { on := 11, ground := Ground.phase }, { on := 12, ground := Ground.phase }, { on := 13, ground := Ground.phase }, { on := 14, ground := Ground.phase }], guard := none }) rfl (fun K hK => ?_))
      go_simp
      refine hK _ _ ⟨fun hlast => ?_, ?_⟩
      · exact absurd (Eq.trans (Eq.symm hlast) (by kernel_rfl)) (by decide : ¬ false = true)
      clear hK K
      try simp only [Act.put, List.setIfInBounds_toArray, List.set_cons_zero, List.set_cons_succ]
      refine Ways.done (by kernel_rfl) ?_ _
      have HLO2 : Hid (LsD w' w.heap.size a' c' (A ++ [(a1, c1)]) ((T.take (k + 1)).map hv)) := Lib.hid (by
        rw [HTK.out]
        refine HLZ.out.push (Chg.of_grown' hg) (by rw [HXL.out, HHL.out]; exact hown) ?_
        rw [HHL.out]
        exact HOL.out.chg (Chg.of_grown' hg) (fun q hq e => own_ob HMZ.out HOL.out (by decide) q e hq))
      have HB2 : Hid (Below w.heap.size w w') := Lib.hid ((Chg.of_grown' hg).below HBZ.out HBZ.out.size (fun k hk => (HMZ.out.lt k hk).1))
      clear hown hg hat hc0
      go_wp2_with fail
      go_roundw
      case rel => exact ⟨k + 1, a', c', _, HLT.out, by go_num, rfl, HLO2, HB2⟩
      case measure => have := HLT.out; simp [intOf]; omega
    · obtain rfl : k = n := by omega
      have HX0 : Hid ((T.take k).map hv = T.map hv) := Lib.hid (by rw [List.take_of_length_le (by have := HN.out; omega)])
      have HOX : Hid (Okx [] (T.map hv)) := Lib.hid (okx_nil (by
        intro l hl t ht
        obtain ⟨x, hx, rfl⟩ := List.mem_map.1 hl
        exact hv_low (HR.out.ok x hx) t ht))
      have HTOT := Lib.hid (few_tot HF.out)
      have HXN : Hid ((T.map hv).length = k) := Lib.hid (by rw [List.length_map]; exact HN.out)
      rw [HX0.out] at HLO
      obtain ⟨X0, HX⟩ : ∃ X0, Hid (T.map hv = X0) := ⟨_, Lib.hid rfl⟩
      rw [HX.out] at HLO HOX HTOT HXN
      obtain ⟨N, HNN⟩ : ∃ N, Hid (k = N) := ⟨_, Lib.hid rfl⟩
      rw [HNN.out] at HXN hn6 ⊢
      clear hlt hk
      go_wp2_with fail
      go_loopg [7] 41 (fun kk v wr => ∃ (L : List Pr) (X : List (List Int)) (A : List (Option Addr × Nat)) (am : Option Addr) (cm : Nat), v = .slice am L.length cm ∧ kk + L.length = 41 ∧ L.length ≤ 40 ∧ Hid (Own wr w.heap.size 49 2 am L.length cm (prs L)) ∧ Hid (LsD wr w.heap.size al cl A X) ∧ Hid (X.length = N) ∧ Hid (Okx L X) ∧ Hid (tot X ≤ 360) ∧ Hid (∀ R, Lrn most L X R → Lrn most [] X0 R) ∧ Hid (Below w.heap.size w wr))
      case atStart => exact ⟨[], X0, A, none, 0, rfl, rfl, by simp, Lib.hid (Own.none_ _ _ _ _), HLO, HXN, HOX, HTOT, Lib.hid (fun _ h => h), HB⟩
      case round =>
        obtain ⟨L, X, A, am, cm, rfl, hkk, hL, HO, HLS, HXN2, HOK, HTX, HLR, HB3⟩ := hrel
        have HFIN : Hid (∀ wz, Below wr.heap.size wr wz → Lrn most L X L → DLearnR w T most (.returned (.slice am L.length cm)) wz) := Lib.hid (fun wz hb hl => ⟨below_two2 HB3.out hb, L, am, cm, rfl, rd_on (by omega) HO.out.rd hb, by rw [HX.out]; exact HLR.out L hl⟩)
        have HBE := Lib.hid (dbest_any HO.out.rd HOK.out.1 (by omega) HLS.out.lsr (by have := HTX.out; omega))
        rw [HXN2.out] at HBE
        obtain ⟨ll, HLL⟩ : ∃ ll, Hid (L.length = ll) := ⟨_, Lib.hid rfl⟩
        rw [HLL.out] at HFIN hL HBE HO ⊢
        have l0 : (0 : Int) ≤ (ll : Int) := by omega
        by_cases hm1 : (ll : Int) < most
        · by_cases hm2 : (ll : Int) < 40
          · have HFU : Hid ((ll : Int) < imin most 40) := Lib.hid (by unfold imin; split <;> omega)
            go_wp2_with fail
            with_reducible refine HBE.out.mono ?_
            rintro e0 w3 ⟨hb3, p, v, rfl, hp⟩
            obtain ⟨px, py⟩ := p
            dsimp only
            have HZ3 : Hid (Below wr.heap.size wr (w3.alloc (.cells #[.int .i64 px, .int .i64 py] 49))) := Lib.hid (hb3.trans (((Below.refl w3.heap.size w3).alloc (Nat.le_refl _) _).mono hb3.size))
            cases v
            · have HNB : Hid (NoBest X L) := Lib.hid (by
                rcases hp with ⟨h, _⟩ | ⟨_, h⟩
                · cases h
                · exact h)
              have HF2 := Lib.hid (HFIN.out _ HZ3.out (.none HNB.out))
              clear hp hb3
              go_wp2_with fail
              go_ret
              exact HF2.out
            · have HBEST : Hid (IsBest X L (px, py)) := Lib.hid (by
                rcases hp with ⟨_, h⟩ | ⟨h, _⟩
                · exact h
                · cases h)
              have HOA := Lib.hid (okx_okAt HOK.out (show 0 < cntX X (px, py) by have := HBEST.out.2.1; omega))
              have HLS4 := Lib.hid (HLS.out.on HZ3.out)
              have HB4 := Lib.hid (below_two2 HB3.out HZ3.out)
              have HO4 := Lib.hid (HO.out.chg (Chg.of_below HZ3.out (fun _ => False)) (fun _ _ => id))
              have HZ5 : Hid (Below (w3.alloc (.cells #[.int .i64 px, .int .i64 py] 49)).heap.size (w3.alloc (.cells #[.int .i64 px, .int .i64 py] 49)) ((w3.alloc (.cells #[.int .i64 px, .int .i64 py] 49)).alloc (.cells #[.int .i64 px, .int .i64 py] 49))) := Lib.hid ((Below.refl _ _).alloc (Nat.le_refl _) _)
              have HO5 := Lib.hid (HO4.out.chg (Chg.of_below HZ5.out (fun _ => False)) (fun _ _ => id))
              have HLS5 := Lib.hid (HLS4.out.on HZ5.out)
              have HB5 := Lib.hid (below_two2 HB4.out HZ5.out)
              have hzr := (Own.made (B := w3.heap.size) (size := 2) (w3.alloc (.cells #[.int .i64 px, .int .i64 py] 49)) #[.int .i64 px, .int .i64 py] 49 1 (by simp) (by unfold maxLen; omega) rfl).rd
              rw [show (w3.alloc (.cells #[.int .i64 px, .int .i64 py] 49)).heap.size = w3.heap.size + 1 by simp] at hzr
              have HZR := Lib.hid hzr
              have H1C : Hid (∀ u ∈ [Value.int .i64 px, Value.int .i64 py], u.oneCell' = true) := Lib.hid (by simp [Value.oneCell'])
              clear hp hb3 hzr
              go_wp2_with (at_builtin; refine wpList_app el22 (by omega) rfl (.tmp 54) (.tmp 56) rfl (B := w.heap.size) (by rfl) HO5.out (by rfl) HZR.out H1C.out (by omega) (by omega) HB5.out.size ?_; intro am5 cm5 w5 ho5 hg5 ha5)
              have HOM : Hid (Own w5 w.heap.size 49 2 am5 (ll + 1) cm5 (prs (L ++ [(px, py)]))) := Lib.hid (by rw [prs_append]; exact ho5)
              have HLS6 := Lib.hid (HLS5.out.far HO5.out (by decide) (by decide) (Chg.of_grown' hg5))
              have HB6 : Hid (Below w.heap.size w w5) := Lib.hid ((Chg.of_grown' hg5).below HB5.out HB5.out.size (fun k hk => (HO5.out.lt k hk).1))
              have HLN : Hid ((L ++ [(px, py)]).length = ll + 1) := Lib.hid (by rw [List.length_append, HLL.out]; rfl)
              clear ho5 hg5 ha5
              go_wp2_with fail
              go_loopw [10] (fun iv wr => ∃ (i : Nat) (Z : List (List Int)) (A : List (Option Addr × Nat)), i ≤ N ∧ iv = .int .i64 i ∧ Hid (Z.length = N) ∧ Hid (Mgs (L ++ [(px, py)]) (X.take i) (Z.take i)) ∧ Hid (Z.drop i = X.drop i) ∧ Hid (LsD wr w.heap.size al cl A Z) ∧ Hid (Own wr w.heap.size 49 2 am5 (ll + 1) cm5 (prs (L ++ [(px, py)]))) ∧ Hid (Below w.heap.size w wr)) (fun iv _ => N - (intOf iv).toNat)
              case atStart => exact ⟨0, X, A, by omega, rfl, HXN2, Lib.hid .nil, Lib.hid rfl, HLS6, HOM, HB6⟩
              case round =>
                obtain ⟨i, Z, A, hi, rfl, HZN, HMG, HDR, HLZ, HOZ, HBZ⟩ := hrel
                by_cases hlt : i < N
                · obtain ⟨x, hx⟩ : ∃ x, Z[i]? = some x := ⟨_, List.getElem?_eq_getElem (by rw [HZN.out]; exact hlt)⟩
                  have hxX : X[i]? = some x := by
                    have h1 := congrArg (fun l => l[0]?) HDR.out
                    simp only [List.getElem?_drop, Nat.add_zero] at h1
                    rw [← h1]
                    exact hx
                  obtain ⟨⟨a, c⟩, ha⟩ : ∃ q, A[i]? = some q := ⟨_, List.getElem?_eq_getElem (by rw [HLZ.out.len, HZN.out]; exact hlt)⟩
                  obtain ⟨hlm, ⟨rfl, h0, _⟩ | ⟨ga, cur, rfl, hBg, hh, h3, h4, h5, h6⟩⟩ := HLZ.out.main.form
                  · exfalso; have := HZN.out; omega
                  · have hb24 : Blk wr ga 24 cur := hh
                    obtain ⟨u, hu⟩ : ∃ u, cur[i]? = some u := ⟨_, Array.getElem?_eq_getElem (by have := HZN.out; omega)⟩
                    have hcl : wr.cell? ⟨ga, i, none⟩ = some (.slice a x.length c) := by
                      have h7 := vls_get ha hx
                      rw [← h6, Nat.mul_one, List.getElem?_take_of_lt (by have := HZN.out; omega)] at h7
                      exact hb24.cell i (by simpa using h7)
                    have HROW := Lib.hid (HLZ.out.rows i a c x ha hx)
                    have HXT : Hid (x.length ≤ 360) := Lib.hid (by
                      have h1 := tot_mem hxX
                      have h2 := tot_take X (i + 1)
                      have h3 := HTX.out
                      omega)
                    have hme := merged_any HROW.out HBZ.out.size (by have := HXT.out; omega) (by rw [HLN.out]; exact HOZ.out.rd) (by rw [HLN.out]; omega)
                    rw [HLN.out] at hme
                    have HME := Lib.hid hme
                    have HB24 := Lib.hid hb24
                    have HXI := Lib.hid hxX
                    have HU := Lib.hid hu
                    have HIZ : Hid (i < Z.length) := Lib.hid (by rw [HZN.out]; exact hlt)
                    have HGA : Hid (w.heap.size ≤ ga) := Lib.hid hBg
                    obtain ⟨xl, HXL⟩ : ∃ xl, Hid (x.length = xl) := ⟨_, Lib.hid rfl⟩
                    rw [HXL.out] at hcl HME
                    have i0 : (0 : Int) ≤ (i : Int) := by omega
                    have i1 : (i : Int) < (N : Int) := by omega
                    have HLT := Lib.hid hlt
                    clear hx hxX ha hh h3 h4 h5 h6 hlm hb24 hu hlt hme hBg
                    go_wp2_with fail
                    with_reducible refine HME.out.mono ?_
                    rintro e2 w7 ⟨hb7, r, a7, c7, rfl, hor, hmg⟩
                    have HLZ7 := Lib.hid (HLZ.out.on hb7)
                    obtain ⟨hput, hchp⟩ := HLZ7.out.put HIZ.out hor
                    have hbk7 := (hb7.block _ HB24.out.lt).trans HB24.out
                    have hc8 := Blk.cell (show Blk w7 ga 24 cur from hbk7) i HU.out
                    have hf8 := Blk.frozen (show Blk w7 ga 24 cur from hbk7) i
                    have HO7 := Lib.hid (HOZ.out.chg (Chg.of_below hb7 (fun _ => False)) (fun _ _ => id))
                    have HO8 := Lib.hid (HO7.out.chg hchp (fun q hq e => HO7.out.ne (show Blk w7 ga 24 cur from hbk7) (by decide) (by rw [hq, e])))
                    have HB7 := Lib.hid (below_two2 HBZ.out hb7)
                    have HB8 := Lib.hid (hchp.below HB7.out HB7.out.size (fun q hq => by rw [hq]; exact HGA.out))
                    have HPUT := Lib.hid hput
                    have HMG2 : Hid (Mgs (L ++ [(px, py)]) (X.take (i + 1)) ((Z.set i r).take (i + 1))) := Lib.hid (by
                      rw [set_take HIZ.out, List.take_add_one, HXI.out]
                      exact HMG.out.snoc hmg)
                    have HDR2 : Hid ((Z.set i r).drop (i + 1) = X.drop (i + 1)) := Lib.hid (by
                      rw [set_drop]
                      have h1 := congrArg (fun l => l.drop 1) HDR.out
                      simpa [List.drop_drop] using h1)
                    have HZN2 : Hid ((Z.set i r).length = N) := Lib.hid (by rw [List.length_set]; exact HZN.out)
                    obtain ⟨rl, HRL⟩ : ∃ rl, Hid (r.length = rl) := ⟨_, Lib.hid rfl⟩
                    rw [HRL.out] at HPUT HO8 HB8 ⊢
                    clear hput hchp hb7 hor hmg hbk7 hcl
                    go_wp2_with fail
                    obtain ⟨W9, HW9⟩ : ∃ ww, Hid (w7.setCell ⟨ga, i, none⟩ (.slice a7 rl c7) = ww) := ⟨_, Lib.hid rfl⟩
                    rw [HW9.out] at HPUT HO8 HB8 ⊢
                    clear hc8 hf8
                    go_roundw
                    case rel => exact ⟨i + 1, _, _, HLT.out, by go_num, HZN2, HMG2, HDR2, HPUT, HO8, HB8⟩
                    case measure => have := HLT.out; simp [intOf]; omega
                · obtain rfl : i = N := by omega
                  have hmz := HMG.out
                  rw [List.take_of_length_le (by have := HXN2.out; omega), List.take_of_length_le (by have := HZN.out; omega)] at hmz
                  have HMZ := Lib.hid hmz
                  have HOK2 := Lib.hid (okx_step HOK.out HOA.out HMZ.out)
                  have HTX2 : Hid (tot Z ≤ 360) := Lib.hid (by have h1 := mgs_tot HMZ.out; have h2 := HTX.out; omega)
                  have HLR2 : Hid (∀ R, Lrn most (L ++ [(px, py)]) Z R → Lrn most [] X0 R) := Lib.hid (fun R h => HLR.out R (.step (by rw [HLL.out]; exact HFU.out) HBEST.out HMZ.out h))
                  have hl40 : ll + 1 ≤ 40 := by omega
                  have HL40 := Lib.hid hl40
                  clear hlt hmz
                  go_wp2_with fail
                  go_roundg (gk - 1)
                  case measure => have := HL40.out; have := HLL.out; omega
                  case rel => exact ⟨L ++ [(px, py)], Z, A, am5, cm5, by rw [HLN.out], by have := HL40.out; have := HLL.out; have := HLN.out; omega, by have := HL40.out; have := HLN.out; omega, by rw [HLN.out]; exact HOZ, HLZ, HZN, HOK2, HTX2, HLR2, HBZ⟩
          · have HF2 := Lib.hid (HFIN.out wr (Below.refl _ _) (.full (by rw [HLL.out]; unfold imin; split <;> omega)))
            go_wp2_with fail
            go_ret
            exact HF2.out
        · have HF2 := Lib.hid (HFIN.out wr (Below.refl _ _) (.full (by rw [HLL.out]; unfold imin; split <;> omega)))
          go_wp2_with fail
          go_ret
          exact HF2.out
end
end Go.Proofs.Ytlndhmkkffcbnaa.TlG
