/-
  count.
-/
import Derived.Test.YtlndhmkkffcbnaaTlM
import Derived.Test.YtlndhmkkffcbnaaTkX
namespace Go.Proofs.Ytlndhmkkffcbnaa.TlC
open Go.RowKit Go.Proofs.Ytlndhmkkffcbnaa.Kit Go.Proofs.Ytlndhmkkffcbnaa.TkM Go.Proofs.Ytlndhmkkffcbnaa.TkP Go.Proofs.Ytlndhmkkffcbnaa.TkQ Go.Proofs.Ytlndhmkkffcbnaa.TkW Go.Proofs.Ytlndhmkkffcbnaa.TkE Go.Proofs.Ytlndhmkkffcbnaa.TkA Go.Proofs.Ytlndhmkkffcbnaa.TkN Go.Proofs.Ytlndhmkkffcbnaa.TlP Go.Proofs.Ytlndhmkkffcbnaa.TlM
attribute [local go_sem high] max_imax min_imin
attribute [local go_sem ↓] Go.wp_at_zero Go.wp_at_succ
set_option linter.unusedVariables false
/-- Lists in memory, read. -/
structure LsR (w : World) (al : Option Addr) (cl : Nat) (X : List (List Int)) : Prop where
  rows : ∃ vs : List Value, Rd w 1 al X.length cl vs ∧ ∀ (i : Nat) (x : List Int), X[i]? = some x → ∃ a c, vs[i]? = some (.slice a x.length c) ∧ Rd w 1 a x.length c (ints x)
theorem LsR.on {w w' : World} {al : Option Addr} {cl : Nat} {X : List (List Int)} (h : LsR w al cl X) (hb : Below w.heap.size w w') : LsR w' al cl X := by
  obtain ⟨⟨vs, h1, h2⟩⟩ := h
  exact ⟨⟨vs, rd_on (by omega) h1 hb, fun i x hx => by obtain ⟨a, c, h3, h4⟩ := h2 i x hx; exact ⟨a, c, h3, rd_on (by omega) h4 hb⟩⟩⟩
theorem LsR.get {w : World} {al : Option Addr} {cl : Nat} {X : List (List Int)} (h : LsR w al cl X) {k : Nat} {x : List Int} (hx : X[k]? = some x) : ∃ b o a c, al = some ⟨b, o, none⟩ ∧ w.cell? ⟨b, o + k, none⟩ = some (.slice a x.length c) ∧ Rd w 1 a x.length c (ints x) := by
  obtain ⟨⟨vs, h1, h2⟩⟩ := h
  obtain ⟨b, o, u, rfl, hu, hc⟩ := h1.get (List.getElem?_eq_some_iff.1 hx).1
  obtain ⟨a, c, h3, h4⟩ := h2 k x hx
  rw [hu] at h3
  injection h3 with h3
  subst h3
  exact ⟨b, o, a, c, rfl, hc, h4⟩
theorem LsR.lim {w : World} {al : Option Addr} {cl : Nat} {X : List (List Int)} (h : LsR w al cl X) : X.length ≤ 9223372036854775807 := by
  obtain ⟨⟨vs, h1, _⟩⟩ := h
  have := Nat.le_trans h1.cap h1.max
  unfold maxLen at this
  omega
theorem tot_mem {X : List (List Int)} {k : Nat} {x : List Int} (hx : X[k]? = some x) : tot (X.take (k + 1)) = tot (X.take k) + x.length := by
  rw [List.take_add_one, hx]
  exact tot_snoc _ _
/-- A pair of tokens of the lists. -/
def InX (X : List (List Int)) (p : Pr) : Prop := ∃ x, x ∈ X ∧ p.1 ∈ x ∧ p.2 ∈ x
def CountR (w : World) (X : List (List Int)) (e : Ending) (w' : World) : Prop := Below w.heap.size w w' ∧ ∃ b n, w.heap.size ≤ b ∧ e = .returned (.map (some b)) ∧ MapQ (InX X) w' b n (cntX X)
section
variable {w : World}
set_option maxHeartbeats 4000000 in
theorem count_any {al : Option Addr} {cl : Nat} {X : List (List Int)} (h : LsR w al cl X) (hok : ∀ x ∈ X, ∀ t ∈ x, okT t) (ht : tot X ≤ 100000) : Calls Try.prog 36 #[.slice al X.length cl] w (CountR w X) := by
  have hlim := h.lim
  have HR := Lib.hid h
  have HOK := Lib.hid hok
  have HTT := Lib.hid ht
  have FIN : Hid (∀ b N wr, w.heap.size ≤ b → MapQ (InX X) wr b N (cntX (X.take X.length)) → Below w.heap.size w wr → CountR w X (.returned (.map (some b))) wr) := Lib.hid (fun b N wr hb hm hl => ⟨hl, b, N, hb, rfl, by rw [List.take_length] at hm; exact hm⟩)
  obtain ⟨n, HN⟩ : ∃ n, Hid (X.length = n) := ⟨_, Lib.hid rfl⟩
  rw [HN.out] at hlim FIN ⊢
  have hmm := @run_makeMap Try.prog
  clear h hok ht
  go_enter Try.func36, Try.ntmps36
  go_wp2_with fail
  have HM0 := Lib.hid (MapQ.made (G := InX X) w)
  have HB0 := Lib.hid ((Below.refl _ w).alloc (Nat.le_refl _) (.map #[] 0))
  obtain ⟨b, HBB⟩ : ∃ b, Hid (w.heap.size = b) := ⟨_, Lib.hid rfl⟩
  rw [HBB.out] at HM0 ⊢
  clear hmm
  go_loopw [10] (fun i wr => ∃ (k N : Nat), k ≤ n ∧ i = .int .i64 k ∧ Hid (N ≤ tot (X.take k)) ∧ Hid (MapQ (InX X) wr b N (cntX (X.take k))) ∧ Hid (Below w.heap.size w wr)) (fun i _ => n - (intOf i).toNat)
  case atStart => exact ⟨0, 0, by omega, rfl, Lib.hid (by omega), HM0, HB0⟩
  case round =>
    obtain ⟨k, N, hk, rfl, HNT, HM, HB⟩ := hrel
    by_cases hlt : k < n
    · obtain ⟨x, hx⟩ : ∃ x, X[k]? = some x := ⟨_, List.getElem?_eq_getElem (by rw [HN.out]; exact hlt)⟩
      obtain ⟨b0, o0, a, c, rfl, hc0, hrx⟩ := (HR.out.on HB.out).get hx
      have k0 : (0 : Int) ≤ (k : Int) := by omega
      have k1 : (k : Int) < (n : Int) := by omega
      have HLT := Lib.hid hlt
      have HRX := Lib.hid hrx
      have HXO := Lib.hid (HOK.out x (List.mem_of_getElem? hx))
      have HXM := Lib.hid (List.mem_of_getElem? hx)
      have HTM := Lib.hid (tot_mem hx)
      have HTL := Lib.hid (tot_take X (k + 1))
      have HTK : Hid (∀ p, cntX (X.take (k + 1)) p = cntX (X.take k) p + cntL x p) := Lib.hid (fun p => by rw [List.take_add_one, hx]; exact cntX_snoc _ _ _)
      have HCI : Hid (∀ p j, j ≤ x.length → 0 ≤ cntX (X.take k) p + cntK x p j ∧ cntX (X.take k) p + cntK x p j ≤ 100000) := Lib.hid (fun p j hj => by
        have h1 := cntX_in (X.take k) p
        have h2 := cntK_in x p j
        have h3 := HTM.out
        have h4 := HTL.out
        have h5 := HTT.out
        omega)
      obtain ⟨m, HML⟩ : ∃ m, Hid (x.length = m) := ⟨_, Lib.hid rfl⟩
      rw [HML.out] at hc0 HRX HTM HCI
      have hmb : m ≤ 100000 := by have := HTM.out; have := HTL.out; have := HTT.out; omega
      obtain ⟨d, HD⟩ : ∃ d : Nat, Hid (imax ((m : Int) - 1) 0 = (d : Int) ∧ d = m - 1) := ⟨m - 1, Lib.hid ⟨by unfold imax; split <;> omega, rfl⟩⟩
      obtain ⟨wo, HWO⟩ : ∃ ww, Hid (wr = ww) := ⟨_, Lib.hid rfl⟩
      rw [HWO.out] at HM HB HRX hc0 ⊢
      clear hx hlt hrx HWO
      go_wp2_with fail
      rw [HD.out.1]
      clear hc0
      go_loopw [18] (fun i wr => ∃ (j N : Nat), j ≤ d ∧ i = .int .i64 j ∧ Hid (N ≤ tot (X.take k) + j) ∧ Hid (MapQ (InX X) wr b N (fun p => cntX (X.take k) p + cntK x p j)) ∧ Hid (Chg (fun i => i = b) wo wr) ∧ Hid (Below w.heap.size w wr)) (fun i _ => d - (intOf i).toNat)
      case atStart => exact ⟨0, N, by omega, rfl, Lib.hid (by have := HNT.out; omega), Lib.hid (HM.out.congr (fun p _ => by simp [cntK])), Lib.hid (Chg.refl _ _), HB⟩
      case round =>
        obtain ⟨j, N1, hj, rfl, HN1, HM1, HC1, HB1⟩ := hrel
        by_cases hlt : j < d
        · have HRX1 : Hid (Rd wr 1 a m c (ints x)) := Lib.hid (HRX.out.chg HC1.out (fun h0 q hq e => by
            obtain ⟨g1, o1, u, rfl, hu, hcu⟩ := HRX.out.get (k := 0) h0
            have : g1 = q := by simpa [ob] using hq
            subst this
            subst e
            obtain ⟨es, q2, he⟩ := HM.out.p.at_
            rw [World.cell?, he] at hcu
            simp at hcu))
          obtain ⟨b1, o1, u, rfl, hu, hcu⟩ := HRX1.out.get (k := j) (by have := HD.out.2; omega)
          obtain ⟨b1', o1', u1, he, hu1, hcv⟩ := HRX1.out.get (k := j + 1) (by have := HD.out.2; omega)
          injection he with he
          injection he with e1 e2
          subst e1 e2
          obtain ⟨s, hs, rfl⟩ := ints_get hu
          obtain ⟨t, ht, rfl⟩ := ints_get hu1
          have hp : okP (s, t) := ⟨HXO.out s (List.mem_of_getElem? hs), HXO.out t (List.mem_of_getElem? ht)⟩
          have hat : at2 x j = (s, t) := by
            unfold at2
            rw [List.getD_eq_getElem?_getD, List.getD_eq_getElem?_getD, hs, ht]
            rfl
          have HCI1 := HCI.out (s, t) j (by have := HML.out; have := HD.out.2; omega)
          have hlook := (HM1.out.chg ((Chg.refl (fun _ => False) wr).drew) id).p.look hp
          obtain ⟨w1, v0, st, hE, hm1, hc1, hS⟩ := (HM1.out.chg ((Chg.refl (fun _ => False) wr).drew) id).entry hp ⟨x, HXM.out, List.mem_of_getElem? hs, List.mem_of_getElem? ht⟩ (by have := HN1.out; have := HTL.out; have := HTM.out; have := HTT.out; have := HD.out.2; unfold maxLen; omega)
          obtain ⟨w2, hS2, hm2, hc2⟩ := hS (cntX (X.take k) (s, t) + cntK x (s, t) j + 1)
          have hlook1 := hm1.p.look hp
          obtain ⟨v, HVV⟩ : ∃ v, Hid (cntX (X.take k) (s, t) + cntK x (s, t) j = v) := ⟨_, Lib.hid rfl⟩
          rw [HVV.out] at HCI1 hlook hlook1 hS2
          unfold pv at hlook hlook1 hE
          unfold goInt at hE hS2
          dsimp only at hlook hlook1 hE hS2
          have v0' := HCI1.1
          have v1' := HCI1.2
          have HBNE : Hid (b1 ≠ b) := Lib.hid (by
            rintro rfl
            obtain ⟨es, q2, he⟩ := HM1.out.p.at_
            rw [World.cell?, he] at hcu
            simp at hcu)
          have d0 : w1.cell? ⟨b1, o1 + j, none⟩ = some (.int .i64 s) := hc1.cell (p := ⟨b1, o1 + j, none⟩) (by exact hcu) HBNE.out
          have d1 : w1.cell? ⟨b1, o1 + (j + 1), none⟩ = some (.int .i64 t) := hc1.cell (p := ⟨b1, o1 + (j + 1), none⟩) (by exact hcv) HBNE.out
          have HM2 : Hid (MapQ (InX X) w2 b (N1 + 1) (fun p => cntX (X.take k) p + cntK x p (j + 1))) := Lib.hid (hm2.congr (fun p _ => by
            rw [show cntK x p (j + 1) = cntK x p j + (if at2 x j = p then 1 else 0) from rfl, hat]
            by_cases e : (s, t) = p
            · subst e; simp; omega
            · simp [e]))
          have HC2 : Hid (Chg (fun i => i = b) wo w2) := Lib.hid (HC1.out.trans (Chg.trans ((Chg.refl _ wr).drew) hc2))
          have HB2 : Hid (Below w.heap.size w w2) := Lib.hid (Chg.below (Chg.trans ((Chg.refl (fun i => i = b) wr).drew) hc2) HB1.out HB1.out.size (fun i hi => by have := HBB.out; omega))
          have s1 : IntKind.i64.wrap ((j : Int) + 1) = (j : Int) + 1 := IntWalk.i64_in _ (by have := HD.out.2; omega)
          have s2 : (0 : Int) ≤ (j : Int) + 1 := by omega
          have s3 : ((j : Int) + 1).toNat = j + 1 := by omega
          have s4 : IntKind.i64.wrap (v + 1) = v + 1 := IntWalk.i64_in _ (by omega)
          have j0 : (0 : Int) ≤ (j : Int) := by omega
          have j1 : (j : Int) < (d : Int) := by omega
          have j2 : (j : Int) < (m : Int) := by have := HD.out.2; omega
          have j3 : (j : Int) + 1 < (m : Int) := by have := HD.out.2; omega
          have HLJ := Lib.hid hlt
          clear hu hu1 hs ht hp hat HCI1 hS hm1 hc1 hm2 hc2 hlt
          go_upto_region 8 with (fail)
          refine Ways.start (S := (fun w' => w'.cell? ⟨b1, o1 + j, none⟩ = some (.int .i64 s) ∧ w'.cell? ⟨b1, o1 + (j + 1), none⟩ = some (.int .i64 t) ∧ (Instr.lookup 61 (.map (some b)) (.agg #[.int .i64 s, .int .i64 t]) false).run Try.prog w' = .ok (.int .i64 v) w')) (last := 15) (by kernel_rfl) ?_
          have hHeld : (fun w' => w'.cell? ⟨b1, o1 + j, none⟩ = some (.int .i64 s) ∧ w'.cell? ⟨b1, o1 + (j + 1), none⟩ = some (.int .i64 t) ∧ (Instr.lookup 61 (.map (some b)) (.agg #[.int .i64 s, .int .i64 t]) false).run Try.prog w' = .ok (.int .i64 v) w') wr.drew := ⟨by go_simp, by go_simp, hlook⟩
          refine Ways.take (i := 0) (o := { dst := some 21, op := Op.move (Operand.tmp 3), type := 61, pos := "tok.go:175", after := #[], guard := none }) (v := ?_) [15] (by rfl) (by rfl) rfl (by kernel_rfl) (by kernel_rfl) (by kernel_rfl) (by kernel_rfl) (fun _ _ _ h => h) (Or.inl ⟨by rfl, ?_⟩) (by assumption) ?_
          rotate_left 1
          · (intro w hSw; (try dsimp only at hSw); go_simp; (try with_reducible rfl))
          try simp only [Act.put, List.setIfInBounds_toArray, List.set_cons_zero, List.set_cons_succ]
          refine Ways.take (i := 1) (o := { dst := some 22, op := Op.move (Operand.tmp 5), type := 24, pos := "tok.go:175", after := #[], guard := none }) (v := ?_) [15] (by rfl) (by rfl) rfl (by kernel_rfl) (by kernel_rfl) (by kernel_rfl) (by kernel_rfl) (fun _ _ _ h => h) (Or.inl ⟨by rfl, ?_⟩) (by assumption) ?_
          rotate_left 1
          · (intro w hSw; (try dsimp only at hSw); go_simp; (try with_reducible rfl))
          try simp only [Act.put, List.setIfInBounds_toArray, List.set_cons_zero, List.set_cons_succ]
          refine Ways.take (i := 2) (o := { dst := some 23, op := Op.move (Operand.tmp 6), type := 3, pos := "tok.go:175", after := #[], guard := none }) (v := ?_) [15] (by rfl) (by rfl) rfl (by kernel_rfl) (by kernel_rfl) (by kernel_rfl) (by kernel_rfl) (fun _ _ _ h => h) (Or.inl ⟨by rfl, ?_⟩) (by assumption) ?_
          rotate_left 1
          · (intro w hSw; (try dsimp only at hSw); go_simp; (try with_reducible rfl))
          try simp only [Act.put, List.setIfInBounds_toArray, List.set_cons_zero, List.set_cons_succ]
          refine Ways.take (i := 3) (o := { dst := some 24, op := Op.indexAddr 24 (Operand.tmp 22) (Operand.tmp 23), type := 0, pos := "tok.go:175", after := #[{ on := 1, ground := Ground.data }, { on := 2, ground := Ground.data }], guard := none }) (v := ?_) [15] (by rfl) (by rfl) rfl (by kernel_rfl) (by kernel_rfl) (by kernel_rfl) (by kernel_rfl) (fun _ _ _ h => h) (Or.inl ⟨by rfl, ?_⟩) (by assumption) ?_
          rotate_left 1
          · (intro w hSw; (try dsimp only at hSw); go_simp; (try with_reducible rfl))
          try simp only [Act.put, List.setIfInBounds_toArray, List.set_cons_zero, List.set_cons_succ]
          refine Ways.take (i := 4) (o := { dst := some 25, op := Op.load 3 (Operand.tmp 24), type := 3, pos := "tok.go:175", after := #[{ on := 3, ground := Ground.data }], guard := none }) (v := ?_) [15] (by rfl) (by rfl) rfl (by kernel_rfl) (by kernel_rfl) (by kernel_rfl) (by kernel_rfl) (fun _ _ _ h => h) (Or.inl ⟨by rfl, ?_⟩) (by assumption) ?_
          rotate_left 1
          · (intro w hSw; (try dsimp only at hSw); go_simp; (try with_reducible rfl))
          try simp only [Act.put, List.setIfInBounds_toArray, List.set_cons_zero, List.set_cons_succ]
          refine Ways.take (i := 5) (o := { dst := some 26, op := Op.move (Operand.tmp 5), type := 24, pos := "tok.go:175", after := #[], guard := none }) (v := ?_) [15] (by rfl) (by rfl) rfl (by kernel_rfl) (by kernel_rfl) (by kernel_rfl) (by kernel_rfl) (fun _ _ _ h => h) (Or.inl ⟨by rfl, ?_⟩) (by assumption) ?_
          rotate_left 1
          · (intro w hSw; (try dsimp only at hSw); go_simp; (try with_reducible rfl))
          try simp only [Act.put, List.setIfInBounds_toArray, List.set_cons_zero, List.set_cons_succ]
          refine Ways.take (i := 6) (o := { dst := some 27, op := Op.move (Operand.tmp 6), type := 3, pos := "tok.go:175", after := #[], guard := none }) (v := ?_) [15] (by rfl) (by rfl) rfl (by kernel_rfl) (by kernel_rfl) (by kernel_rfl) (by kernel_rfl) (fun _ _ _ h => h) (Or.inl ⟨by rfl, ?_⟩) (by assumption) ?_
          rotate_left 1
          · (intro w hSw; (try dsimp only at hSw); go_simp; (try with_reducible rfl))
          try simp only [Act.put, List.setIfInBounds_toArray, List.set_cons_zero, List.set_cons_succ]
          refine Ways.take (i := 7) (o := { dst := some 28, op := Op.binOp BinOp.add 3 (Operand.tmp 27) (Operand.const (Value.int IntKind.i64 1)) 3, type := 3, pos := "tok.go:175", after := #[{ on := 6, ground := Ground.data }], guard := none }) (v := ?_) [15] (by rfl) (by rfl) rfl (by kernel_rfl) (by kernel_rfl) (by kernel_rfl) (by kernel_rfl) (fun _ _ _ h => h) (Or.inl ⟨by rfl, ?_⟩) (by assumption) ?_
          rotate_left 1
          · (intro w hSw; (try dsimp only at hSw); go_simp; (try with_reducible rfl))
          try simp only [Act.put, List.setIfInBounds_toArray, List.set_cons_zero, List.set_cons_succ]
          refine Ways.take (i := 8) (o := { dst := some 29, op := Op.indexAddr 24 (Operand.tmp 26) (Operand.tmp 28), type := 0, pos := "tok.go:175", after := #[{ on := 5, ground := Ground.data }, { on := 7, ground := Ground.data }], guard := none }) (v := ?_) [15] (by rfl) (by rfl) rfl (by kernel_rfl) (by kernel_rfl) (by kernel_rfl) (by kernel_rfl) (fun _ _ _ h => h) (Or.inl ⟨by rfl, ?_⟩) (by assumption) ?_
          rotate_left 1
          · (intro w hSw; (try dsimp only at hSw); go_simp; (try with_reducible rfl))
          try simp only [Act.put, List.setIfInBounds_toArray, List.set_cons_zero, List.set_cons_succ]
          refine Ways.take (i := 9) (o := { dst := some 30, op := Op.load 3 (Operand.tmp 29), type := 3, pos := "tok.go:175", after := #[{ on := 8, ground := Ground.data }], guard := none }) (v := ?_) [15] (by rfl) (by rfl) rfl (by kernel_rfl) (by kernel_rfl) (by kernel_rfl) (by kernel_rfl) (fun _ _ _ h => h) (Or.inl ⟨by rfl, ?_⟩) (by assumption) ?_
          rotate_left 1
          · (intro w hSw; (try dsimp only at hSw); go_simp; (try with_reducible rfl))
          try simp only [Act.put, List.setIfInBounds_toArray, List.set_cons_zero, List.set_cons_succ]
          refine Ways.take (i := 10) (o := { dst := some 31, op := Op.build 54 #[(0, Operand.tmp 25), (1, Operand.tmp 30)], type := 54, pos := "tok.go:175", after := #[{ on := 4, ground := Ground.data }, { on := 9, ground := Ground.data }], guard := none }) (v := ?_) [15] (by rfl) (by rfl) rfl (by kernel_rfl) (by kernel_rfl) (by kernel_rfl) (by kernel_rfl) (fun _ _ _ h => h) (Or.inl ⟨by rfl, ?_⟩) (by assumption) ?_
          rotate_left 1
          · (intro w hSw; (try dsimp only at hSw); go_simp; (try with_reducible rfl))
          try simp only [Act.put, List.setIfInBounds_toArray, List.set_cons_zero, List.set_cons_succ]
          refine Ways.take (i := 11) (o := { dst := some 32, op := Op.lookup 61 (Operand.tmp 21) (Operand.tmp 31) false, type := 3, pos := "tok.go:175", after := #[{ on := 0, ground := Ground.data }, { on := 10, ground := Ground.data }], guard := none }) (v := ?_) [15] (by rfl) (by rfl) rfl (by kernel_rfl) (by kernel_rfl) (by kernel_rfl) (by kernel_rfl) (fun _ _ _ h => h) (Or.inl ⟨by rfl, ?_⟩) (by assumption) ?_
          rotate_left 1
          · (intro w hSw; (try dsimp only at hSw); go_simp; (try with_reducible rfl))
          try simp only [Act.put, List.setIfInBounds_toArray, List.set_cons_zero, List.set_cons_succ]
          refine Ways.take (i := 12) (o := { dst := some 33, op := Op.binOp BinOp.add 3 (Operand.tmp 32) (Operand.const (Value.int IntKind.i64 1)) 3, type := 3, pos := "tok.go:175", after := #[{ on := 11, ground := Ground.data }], guard := none }) (v := ?_) [15] (by rfl) (by rfl) rfl (by kernel_rfl) (by kernel_rfl) (by kernel_rfl) (by kernel_rfl) (fun _ _ _ h => h) (Or.inl ⟨by rfl, ?_⟩) (by assumption) ?_
          rotate_left 1
          · (intro w hSw; (try dsimp only at hSw); go_simp; (try with_reducible rfl))
          try simp only [Act.put, List.setIfInBounds_toArray, List.set_cons_zero, List.set_cons_succ]
          refine Ways.only (i := 13) (by kernel_rfl) (wpOp_step (o := { dst := some 34, op := Op.mapEntry 61 (Operand.tmp 21) (Operand.tmp 31), type := 0, pos := "tok.go:175", after := #[{ on := 0, ground := Ground.data }, { on := 10, ground := Ground.data }, { on := 0, ground := Ground.phase }, { on := 1, ground := Ground.phase }, { on := 2, ground := Ground.phase }, { on := 3, ground := Ground.phase }, { on := 4, ground := Ground.phase }, { on := 5, ground := Ground.phase }, { on := 6, ground := Ground.phase }, { on := 7, ground := Ground.phase }, { on := 8, ground := Ground.phase }, { on := 9, ground := Ground.phase }, { on := 10, ground := Ground.phase }, { on := 11, ground := Ground.textOnly Departure.mapOpAssignEntry }, { on := 12, ground := Ground.textOnly Departure.mapOpAssignEntry }], guard := none }) rfl (fun K hK => ?_))
          go_simp
          refine hK _ _ ⟨fun hlast => ?_, ?_⟩
          · exact ⟨d0, d1, hlook1⟩
          clear hK K
          try simp only [Act.put, List.setIfInBounds_toArray, List.set_cons_zero, List.set_cons_succ]
          refine Ways.only (i := 14) (by kernel_rfl) (wpOp_step (o := { dst := some 35, op := Op.extract (Operand.tmp 34) 1, type := 3, pos := "tok.go:175", after := #[{ on := 13, ground := Ground.data }], guard := none }) rfl (fun K hK => ?_))
          go_simp
          refine hK _ _ ⟨fun hlast => ?_, ?_⟩
          · exact ⟨d0, d1, hlook1⟩
          clear hK K
          try simp only [Act.put, List.setIfInBounds_toArray, List.set_cons_zero, List.set_cons_succ]
          refine Ways.only (i := 15) (by kernel_rfl) (wpOp_step (o := { dst := none, op := Op.entryStore 61 (Operand.tmp 21) (Operand.tmp 35) (Operand.tmp 33), type := 0, pos := "tok.go:175", after := #[{ on := 0, ground := Ground.data }, { on := 14, ground := Ground.data }, { on := 12, ground := Ground.data }, { on := 13, ground := Ground.chain }, { on := 0, ground := Ground.phase }, { on := 1, ground := Ground.phase }, { on := 2, ground := Ground.phase }, { on := 3, ground := Ground.phase }, { on := 4, ground := Ground.phase }, { on := 5, ground := Ground.phase }, { on := 6, ground := Ground.phase }, { on := 7, ground := Ground.phase }, { on := 8, ground := Ground.phase }, { on := 9, ground := Ground.phase }, { on := 10, ground := Ground.phase }, { on := 11, ground := Ground.phase }, { on := 12, ground := Ground.phase }, { on := 13, ground := Ground.phase }, { on := 14, ground := Ground.phase }], guard := none }) rfl (fun K hK => ?_))
          go_simp
          refine hK _ _ ⟨fun hlast => ?_, ?_⟩
          · exact absurd (Eq.trans (Eq.symm hlast) (by kernel_rfl)) (by decide : ¬ false = true)
          clear hK K
          try simp only [Act.put, List.setIfInBounds_toArray, List.set_cons_zero, List.set_cons_succ]
          refine Ways.done (by kernel_rfl) ?_ _
          clear hcu hcv hlook hlook1 hE hS2 d0 d1 s1 s2 s3 s4
          go_wp2_with fail
          go_roundw
          case rel => exact ⟨j + 1, N1 + 1, HLJ.out, by go_num, Lib.hid (by have := HN1.out; omega), HM2, HC2, HB2⟩
          case measure => have := HLJ.out; simp [intOf]; omega
        · obtain rfl : j = d := by omega
          have HM2 : Hid (MapQ (InX X) wr b N1 (cntX (X.take (k + 1)))) := Lib.hid (HM1.out.congr (fun p _ => by rw [HTK.out]; unfold cntL; rw [HML.out, ← HD.out.2]))
          have HN2 : Hid (N1 ≤ tot (X.take (k + 1))) := Lib.hid (by have := HN1.out; have := HTM.out; have := HD.out.2; omega)
          clear hlt
          go_wp2_with fail
          go_roundw
          case rel => exact ⟨k + 1, N1, HLT.out, by go_num, HN2, HM2, HB1⟩
          case measure => have := HLT.out; simp [intOf]; omega
    · obtain rfl : k = n := by omega
      have HF := Lib.hid (FIN.out b N wr (by have := HBB.out; omega) HM.out HB.out)
      clear hlt
      go_wp2_with fail
      go_ret
      exact HF.out
end
end Go.Proofs.Ytlndhmkkffcbnaa.TlC
