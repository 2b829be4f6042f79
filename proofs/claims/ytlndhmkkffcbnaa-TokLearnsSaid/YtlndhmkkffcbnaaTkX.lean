/-
  The document's merged, Encode.
-/
import Derived.Test.YtlndhmkkffcbnaaTkK
namespace Go.Proofs.Ytlndhmkkffcbnaa.TkX
open Go.RowKit Go.Proofs.Ytlndhmkkffcbnaa.Kit Go.Proofs.Ytlndhmkkffcbnaa.TkM Go.Proofs.Ytlndhmkkffcbnaa.TkP Go.Proofs.Ytlndhmkkffcbnaa.TkQ Go.Proofs.Ytlndhmkkffcbnaa.TkW Go.Proofs.Ytlndhmkkffcbnaa.TkA Go.Proofs.Ytlndhmkkffcbnaa.TkN Go.Proofs.Ytlndhmkkffcbnaa.TkO Go.Proofs.Ytlndhmkkffcbnaa.TkL Go.Proofs.Ytlndhmkkffcbnaa.TkR Go.Proofs.Ytlndhmkkffcbnaa.TkS Go.Proofs.Ytlndhmkkffcbnaa.TkT Go.Proofs.Ytlndhmkkffcbnaa.TkU Go.Proofs.Ytlndhmkkffcbnaa.TkD Go.Proofs.Ytlndhmkkffcbnaa.TkF Go.Proofs.Ytlndhmkkffcbnaa.TkG Go.Proofs.Ytlndhmkkffcbnaa.TkE Go.Proofs.Ytlndhmkkffcbnaa.TkJ Go.Proofs.Ytlndhmkkffcbnaa.TkV Go.Proofs.Ytlndhmkkffcbnaa.TkK
attribute [local go_sem high] max_imax min_imin
attribute [local go_sem ↓] Go.wp_at_zero Go.wp_at_succ
set_option linter.unusedVariables false
section
variable {w : World}
def MgdR (w : World) (B : Nat) (L : List Pr) (l : List Int) (e : Ending) (w' : World) : Prop :=
  Below w.heap.size w w' ∧ ∃ r a c, e = .returned (.slice a r.length c) ∧ Own w' B 3 1 a r.length c (ints r) ∧ Mg L l r
set_option maxHeartbeats 2000000 in
theorem merged_any {B : Nat} {a d : Option Addr} {c e : Nat} {L : List Pr} {l : List Int} (h : Own w B 3 1 a l.length c (ints l)) (hBB : B ≤ w.heap.size) (hl : l.length ≤ 100000) (hp : Rd w 2 d L.length e (prs L)) (hL : L.length ≤ 1000) :
    Calls Try.prog 27 #[.slice a l.length c, .slice d L.length e] w (MgdR w B L l) := by
  have HR := Lib.hid h
  have HBB := Lib.hid hBB
  have HP := Lib.hid hp
  have HLB := Lib.hid hl
  have HLL := Lib.hid hL
  obtain ⟨n, HN⟩ : ∃ n, Hid (L.length = n) := ⟨_, Lib.hid rfl⟩
  rw [HN.out] at HP hL ⊢
  clear h hp hl hBB
  go_enter Try.func27, Try.ntmps27
  go_wp2_with fail
  go_loopw [0, 5] (fun v i wr => ∃ (z : List Int) (k : Nat) (a1 : Option Addr) (c1 : Nat), k ≤ n ∧ i = .int .i64 k ∧ v = .slice a1 z.length c1 ∧ Hid (Own wr B 3 1 a1 z.length c1 (ints z)) ∧ Hid (z.length ≤ l.length) ∧ Hid (∀ r, Mg L z r → Mg L l r) ∧ Hid (∀ k', k' < k → ∀ q, L[k']? = some q → ∀ j, ¬ occ z q j) ∧ Hid (Below w.heap.size w wr)) (fun v i _ => lenOf v * (n + 1) + (n - (intOf i).toNat))
  case atStart => exact ⟨l, 0, a, c, by omega, rfl, rfl, HR, Lib.hid (Nat.le_refl _), Lib.hid (fun _ h => h), Lib.hid (fun k' hk => by omega), Lib.hid (Below.refl _ _)⟩
  case round =>
    obtain ⟨z, k, a1, c1, hk, rfl, rfl, HZ, HZL, HM, HNO, HB⟩ := hrel
    by_cases hlt : k < n
    · obtain ⟨b0, off, ⟨x, y⟩, rfl, hq, hc0, hc1⟩ := rd_pair (rd_on (by omega) HP.out HB.out) hlt
      dsimp only at hc0 hc1
      have HQ := Lib.hid hq
      have HON := Lib.hid (once_any HZ.out.rd (by have := HZL.out; have := HLB.out; omega) (x, y) (17 + (k : Int)))
      have k0 : (0 : Int) ≤ (k : Int) := by omega
      have k1 : (k : Int) < (n : Int) := by omega
      have HLT := Lib.hid hlt
      obtain ⟨m, HML⟩ : ∃ m, Hid (z.length = m) := ⟨_, Lib.hid rfl⟩
      rw [HML.out] at HON HZ ⊢
      clear hq hlt
      go_wp2_with fail
      with_reducible refine HON.out.mono ?_
      rintro e0 w1 ⟨hb1, ⟨i, a2, c2, hoc, hfirst, rfl, ho⟩ | ⟨hno, rfl⟩⟩
      · have HLS : Hid (Least L z k i) := Lib.hid ⟨(x, y), HQ.out, hoc, hfirst, HNO.out⟩
        have HPL : Hid ((put z i (17 + (k : Int))).length + 1 = m) := Lib.hid (by rw [put_len hoc.lt, HML.out])
        have HZ2 := Lib.hid (ho.lower (Nat.le_trans HBB.out HB.out.size))
        have HM2 : Hid (∀ r, Mg L (put z i (17 + (k : Int))) r → Mg L l r) := Lib.hid (fun r h => HM.out r (.step HLS.out h))
        have HB2 := Lib.hid (HB.out.trans (hb1.mono HB.out.size))
        clear hoc hfirst ho hb1
        obtain ⟨pl, HPN⟩ : ∃ pl, Hid ((put z i (17 + (k : Int))).length = pl) := ⟨_, Lib.hid rfl⟩
        rw [HPN.out]
        go_wp2_with fail
        go_roundw
        case rel => exact ⟨_, 0, a2, c2, by omega, rfl, by rw [HPN.out], HZ2, Lib.hid (by have := HPL.out; have := HML.out; have := HZL.out; omega), HM2, Lib.hid (fun k' hk => by omega), HB2⟩
        case measure =>
          have h1 := HPL.out
          rw [HPN.out] at h1
          subst h1
          have h2 := HLT.out
          simp [intOf, lenOf, Nat.add_mul]
          omega
      · have HNO2 : Hid (∀ k', k' < k + 1 → ∀ q, L[k']? = some q → ∀ j, ¬ occ z q j) := Lib.hid (by
          intro k' hk' q hq
          by_cases e : k' = k
          · subst e
            rw [HQ.out] at hq
            injection hq with hq
            subst hq
            exact hno
          · exact HNO.out k' (by omega) q hq)
        have HB2 := Lib.hid (HB.out.trans (hb1.mono HB.out.size))
        have HZ2 := Lib.hid (HZ.out.chg (Chg.of_below hb1 (fun _ => False)) (fun _ _ => id))
        clear hno hb1
        go_wp2_with fail
        go_roundw
        case rel => exact ⟨z, k + 1, a1, c1, HLT.out, by go_num, by rw [HML.out], by rw [HML.out]; exact HZ2, HZL, HM, HNO2, HB2⟩
        case measure =>
          have h2 := HLT.out
          simp [intOf, lenOf]
          omega
    · obtain rfl : k = n := by omega
      have HF : Hid (MgdR w B L l (.returned (.slice a1 z.length c1)) wr) := Lib.hid ⟨HB.out, z, a1, c1, rfl, HZ.out, HM.out z (.done (fun k' q hq => HNO.out k' (by have := (List.getElem?_eq_some_iff.1 hq).1; have := HN.out; omega) q hq))⟩
      clear hlt
      obtain ⟨m, HML⟩ : ∃ m, Hid (z.length = m) := ⟨_, Lib.hid rfl⟩
      rw [HML.out] at HF ⊢
      go_wp2_with fail
      go_ret
      exact HF.out
def DEncR (w : World) (L : List Pr) (b : List Int) (e : Ending) (w' : World) : Prop :=
  Below w.heap.size w w' ∧ ∃ r a c f, e = .returned (.tuple #[.slice a r.length c, .int .i64 f]) ∧ Rd w' 1 a r.length c (ints r) ∧ ((512 < b.length ∧ r = [] ∧ f = 5) ∨ (b.length ≤ 512 ∧ f = 0 ∧ Mg L (hv b) r))
set_option maxHeartbeats 1000000 in
theorem denc_any {a d : Option Addr} {c e : Nat} {L : List Pr} {b : List Int} (hp : Rd w 2 d L.length e (prs L)) (hL : L.length ≤ 1000) (h : Rd w 1 a b.length c (bys b)) (hok : okB b) :
    Calls Try.prog 13 #[.slice d L.length e, .slice a b.length c] w (DEncR w L b) := by
  have hmax := Nat.le_trans h.cap h.max
  unfold maxLen at hmax
  by_cases hb : 512 < b.length
  · have HFIN : Hid (DEncR w L b (.returned (.tuple #[.slice none 0 0, .int .i64 5])) w) := Lib.hid ⟨Below.refl _ _, [], none, 0, 5, rfl, Rd.none_ _ _, .inl ⟨hb, rfl, rfl⟩⟩
    obtain ⟨n, HN⟩ : ∃ n, Hid (b.length = n) := ⟨_, Lib.hid rfl⟩
    rw [HN.out] at hmax hb ⊢
    have hb' : (512 : Int) < (n : Int) := by omega
    clear h hok hp
    go_enter Try.func13, Try.ntmps13
    go_wp2_with fail
    go_ret2
    exact HFIN.out
  · have hb1 : b.length ≤ 512 := by omega
    have HV := Lib.hid (dhalves_any h hok (by omega))
    have HM : Hid (∀ e0 w1, HvR w b e0 w1 → ∃ a1 c1, e0 = .returned (.slice a1 (hv b).length c1) ∧ Below w.heap.size w w1 ∧ Calls Try.prog 27 #[.slice a1 (hv b).length c1, .slice d L.length e] w1 (MgdR w1 w.heap.size L (hv b))) := Lib.hid (by
      rintro e0 w1 ⟨a1, c1, rfl, ho1, hb2⟩
      exact ⟨a1, c1, rfl, hb2, merged_any ho1 hb2.size (by rw [hv_len]; omega) (rd_on (by omega) hp hb2) hL⟩)
    have HFIN : Hid (∀ w1 w2 v, Below w.heap.size w w1 → MgdR w1 w.heap.size L (hv b) (.returned v) w2 → DEncR w L b (.returned (.tuple #[v, .int .i64 0])) w2) := Lib.hid (by
      rintro w1 w2 v hb0 ⟨hb3, r, a1, c1, he, ho, hm⟩
      injection he with he
      subst he
      exact ⟨hb0.trans (hb3.mono hb0.size), r, a1, c1, 0, rfl, ho.rd, .inr ⟨hb1, rfl, hm⟩⟩)
    obtain ⟨n, HN⟩ : ∃ n, Hid (b.length = n) := ⟨_, Lib.hid rfl⟩
    obtain ⟨m, HML⟩ : ∃ m, Hid (L.length = m) := ⟨_, Lib.hid rfl⟩
    obtain ⟨q, HQ⟩ : ∃ q, Hid ((hv b).length = q) := ⟨_, Lib.hid rfl⟩
    rw [HML.out, HQ.out] at HM
    rw [HML.out]
    rw [HN.out] at hmax hb hb1 HV ⊢
    have hb' : (n : Int) ≤ 512 := by omega
    clear h hok hp hb
    go_enter Try.func13, Try.ntmps13
    go_wp2_with fail
    with_reducible refine HV.out.mono ?_
    intro e0 w1 hr
    obtain ⟨a1, c1, rfl, hbw, hmm⟩ := HM.out e0 w1 hr
    have HMM := Lib.hid hmm
    have HBW := Lib.hid hbw
    clear hr hmm hbw
    go_wp2_with fail
    with_reducible refine HMM.out.mono ?_
    intro e0 w2 hr2
    have hr3 := hr2
    obtain ⟨_, r, a2, c2, he, _⟩ := hr3
    obtain ⟨v, he2⟩ : ∃ v, e0 = .returned v := ⟨_, he⟩
    clear he
    subst he2
    have HF := Lib.hid (HFIN.out w1 w2 v HBW.out hr2)
    clear hr2
    go_wp2_with fail
    go_ret2
    exact HF.out
end
end Go.Proofs.Ytlndhmkkffcbnaa.TkX
