/-
  least.
-/
import Derived.Test.YtlndhmkkffcbnaaTkO
namespace Go.Proofs.Ytlndhmkkffcbnaa.TkL
open Go.RowKit Go.Proofs.Ytlndhmkkffcbnaa.Kit Go.Proofs.Ytlndhmkkffcbnaa.TkM Go.Proofs.Ytlndhmkkffcbnaa.TkP Go.Proofs.Ytlndhmkkffcbnaa.TkQ Go.Proofs.Ytlndhmkkffcbnaa.TkW Go.Proofs.Ytlndhmkkffcbnaa.TkA Go.Proofs.Ytlndhmkkffcbnaa.TkN Go.Proofs.Ytlndhmkkffcbnaa.TkO
attribute [local go_sem high] max_imax min_imin
attribute [local go_sem ↓] Go.wp_at_zero Go.wp_at_succ
set_option linter.unusedVariables false

/-- The token of the pair at place j; 0: none. -/
def T (L : List Pr) (l : List Int) (j : Nat) : Int := tk 0 L (l.getD j 0, l.getD (j + 1) 0)
/-- What is known when i pairs were looked at. -/
def Lk (L : List Pr) (l : List Int) (i : Nat) (b t : Int) : Prop :=
  (b = 0 ∧ t = 0 ∧ ∀ j, j < i → T L l j = 0) ∨ ∃ s : Nat, 0 < b ∧ t = s ∧ s < i ∧ T L l s = b ∧ (∀ j, j < i → T L l j = 0 ∨ b ≤ T L l j) ∧ ∀ j, j < s → T L l j ≠ b
theorem Lk.zero (L : List Pr) (l : List Int) : Lk L l 0 0 0 := .inl ⟨rfl, rfl, fun j hj => by omega⟩
theorem T_ge (L : List Pr) (l : List Int) (j : Nat) : 0 ≤ T L l j := tk_ge _ _ _
theorem Lk.ge {L : List Pr} {l : List Int} {i : Nat} {b t : Int} (h : Lk L l i b t) : 0 ≤ b := by
  rcases h with ⟨rfl, _⟩ | ⟨s, h, _⟩ <;> omega
theorem Lk.take_ {L : List Pr} {l : List Int} {i : Nat} {b t : Int} (h : Lk L l i b t) (h0 : 0 < T L l i) (h1 : b = 0 ∨ T L l i < b) : Lk L l (i + 1) (T L l i) i := by
  refine .inr ⟨i, h0, rfl, by omega, rfl, fun j hj => ?_, fun j hj => ?_⟩
  · rcases h with ⟨_, _, h⟩ | ⟨s, hb, _, _, _, h, _⟩
    · by_cases e : j = i
      · subst e; exact .inr (Int.le_refl _)
      · exact .inl (h j (by omega))
    · by_cases e : j = i
      · subst e; exact .inr (Int.le_refl _)
      · rcases h j (by omega) with h | h
        · exact .inl h
        · exact .inr (by omega)
  · rcases h with ⟨_, _, h⟩ | ⟨s, hb, _, _, _, h, _⟩
    · rw [h j (by omega)]; omega
    · rcases h j (by omega) with h | h <;> omega
theorem Lk.pass {L : List Pr} {l : List Int} {i : Nat} {b t : Int} (h : Lk L l i b t) (h1 : T L l i = 0 ∨ (b ≠ 0 ∧ b ≤ T L l i)) : Lk L l (i + 1) b t := by
  rcases h with ⟨rfl, rfl, h⟩ | ⟨s, hb, rfl, h2, h3, h4, h5⟩
  · refine .inl ⟨rfl, rfl, fun j hj => ?_⟩
    by_cases e : j = i
    · subst e
      rcases h1 with h1 | ⟨h1, _⟩
      · exact h1
      · exact absurd rfl h1
    · exact h j (by omega)
  · refine .inr ⟨s, hb, rfl, by omega, h3, fun j hj => ?_, h5⟩
    by_cases e : j = i
    · subst e
      rcases h1 with h1 | ⟨_, h1⟩
      · exact .inl h1
      · exact .inr h1
    · exact h4 j (by omega)
def LeastR (L : List Pr) (l : List Int) (b t : Int) : Prop := (b = 0 ∧ t = 0 ∧ NoLeast L l) ∨ ∃ k i : Nat, b = 17 + (k : Int) ∧ t = i ∧ Least L l k i
theorem occ_T {L : List Pr} (hg : TkP.Good L) {l : List Int} {k j : Nat} {p : Pr} (hk : L[k]? = some p) (h : occ l p j) : T L l j = 17 + (k : Int) := by
  unfold T
  rw [List.getD_eq_getElem?_getD, List.getD_eq_getElem?_getD, h.1, h.2]
  exact tk_good hg hk
theorem T_occ {L : List Pr} {l : List Int} {j : Nat} (hj : j + 1 < l.length) (h : 0 < T L l j) : ∃ (k : Nat) (p : Pr), L[k]? = some p ∧ occ l p j ∧ T L l j = 17 + (k : Int) := by
  have hm : (l.getD j 0, l.getD (j + 1) 0) ∈ L := by
    by_cases hm : (l.getD j 0, l.getD (j + 1) 0) ∈ L
    · exact hm
    · unfold T at h
      rw [tk_none hm] at h
      omega
  obtain ⟨i, h1, h2, _⟩ := tk_mem (k := 0) hm
  refine ⟨i, _, h2, ⟨?_, ?_⟩, by unfold T; rw [h1]; simp⟩
  · dsimp only
    rw [List.getD_eq_getElem?_getD, List.getElem?_eq_getElem (by omega)]
    rfl
  · dsimp only
    rw [List.getD_eq_getElem?_getD, List.getElem?_eq_getElem (by omega)]
    rfl
theorem Lk.last {L : List Pr} (hg : TkP.Good L) {l : List Int} {i : Nat} {b t : Int} (h : Lk L l i b t) (hi : i = l.length - 1) : LeastR L l b t := by
  rcases h with ⟨rfl, rfl, h⟩ | ⟨s, hb, rfl, h2, h3, h4, h5⟩
  · refine .inl ⟨rfl, rfl, fun k q hq j hj => ?_⟩
    have h1 := occ_T hg hq hj
    have h2 := hj.lt
    rw [h j (by omega)] at h1
    omega
  · obtain ⟨k, p, hk, ho, hT⟩ := T_occ (by omega) (show 0 < T L l s by rw [h3]; exact hb)
    refine .inr ⟨k, s, by rw [← h3, hT], rfl, p, hk, ho, fun j hj hj' => ?_, fun k' hk' q hq j hj => ?_⟩
    · exact h5 j hj (by rw [occ_T hg hk hj', ← h3, hT])
    · have h1 := occ_T hg hq hj
      have h6 := hj.lt
      rcases h4 j (by omega) with h7 | h7 <;> omega

section
variable {w : World} {B g : Nat} {L : List Pr}
set_option maxHeartbeats 1000000 in
theorem least_any (h : Tab w B g L) (hg : TkP.Good L) {a : Option Addr} {c : Nat} {l : List Int} (hr : Rd w 1 a l.length c (ints l)) (hok : ∀ x ∈ l, okT x) :
    Calls Try.prog 33 #[.pointer (some ⟨g, 0, none⟩), .slice a l.length c] w fun e w' => ∃ b t : Int, e = .returned (.tuple #[.int .i64 b, .int .i64 t]) ∧ (∃ n, w' = w.drewN n) ∧ LeastR L l b t := by
  have hmax := Nat.le_trans hr.cap hr.max
  unfold maxLen at hmax
  obtain ⟨a0, c0, sa, sc, bm, h⟩ := h
  have c1 : w.cell? ⟨g, 1, none⟩ = some (.map (some bm)) := h.blk.cell 1 rfl
  have HLK : Hid (∀ (p : Pr) (m : Nat), okP p → (Instr.lookup 61 (.map (some bm)) (pv p) false).run Try.prog (w.drewN m) = .ok (.int .i64 (tk 0 L p)) (w.drewN m)) := Lib.hid (fun p m hp => (h.drewN m).mp.look hp)
  have HG := Lib.hid hg
  have HR := Lib.hid hr
  have HOK := Lib.hid hok
  obtain ⟨n, HN⟩ : ∃ n, Hid (l.length = n) := ⟨_, rfl⟩
  rw [HN.out] at HR hmax ⊢
  have hnn : (0 : Int) ≤ (n : Int) := by omega
  obtain ⟨d, HD⟩ : ∃ d : Nat, Hid (imax ((n : Int) - 1) 0 = (d : Int) ∧ d = n - 1) := ⟨n - 1, Lib.hid ⟨by unfold imax; split <;> omega, rfl⟩⟩
  clear h hg hr hok
  go_enter Try.func33, Try.ntmps33
  go_wp2_with fail
  rw [HD.out.1]
  go_loopw [6, 7, 14] (fun bv tv i wr => ∃ (k m : Nat) (b t : Int), k ≤ d ∧ i = .int .i64 k ∧ bv = .int .i64 b ∧ tv = .int .i64 t ∧ wr = w.drewN m ∧ Hid (Lk L l k b t)) (fun _ _ i _ => d - (intOf i).toNat)
  case atStart => exact ⟨0, 0, 0, 0, by omega, rfl, rfl, rfl, rfl, Lib.hid (Lk.zero _ _)⟩
  case round =>
    obtain ⟨k, m, b, t, hk, rfl, rfl, rfl, rfl, HI⟩ := hrel
    by_cases hlt : k < d
    · obtain ⟨b0, off, u, rfl, hu, hcell⟩ := HR.out.get (k := k) (by have := HD.out.2; omega)
      obtain ⟨x, hx, rfl⟩ := ints_get hu
      obtain ⟨b1, off1, u, he, hu1, hcell1⟩ := HR.out.get (k := k + 1) (by have := HD.out.2; omega)
      injection he with he
      injection he with e1 e2
      subst e1 e2
      obtain ⟨y, hy, rfl⟩ := ints_get hu1
      have hT : T L l k = tk 0 L (x, y) := by
        unfold T
        rw [List.getD_eq_getElem?_getD, List.getD_eq_getElem?_getD, hx, hy]
        rfl
      have hlook := fun m => HLK.out (x, y) m ⟨HOK.out x (List.mem_of_getElem? hx), HOK.out y (List.mem_of_getElem? hy)⟩
      unfold pv at hlook
      dsimp only at hlook
      rw [← hT] at hlook
      obtain ⟨q, HQ⟩ : ∃ q, Hid (T L l k = q) := ⟨_, rfl⟩
      rw [HQ.out] at hlook
      have k0 : (0 : Int) ≤ (k : Int) := by omega
      have k1 : (k : Int) < (d : Int) := by omega
      have k2 : (k : Int) < (n : Int) := by have := HD.out.2; omega
      have k3 : (k : Int) + 1 < (n : Int) := by have := HD.out.2; omega
      have HLT := Lib.hid hlt
      clear hT hx hy hu hu1
      go_upto_region 5 with (fail)
      by_cases h0 : 0 < q
      · by_cases h1 : b = 0
        · have HI2 := Lib.hid (HI.out.take_ (by rw [HQ.out]; exact h0) (.inl h1))
          rw [HQ.out] at HI2
          have hb : ((b : Int) == 0) = true := by simp [h1]
          clear h1 hlt
          go_big_quiet (fail)
          go_wp2_with fail
          go_roundw
          case rel => exact ⟨k + 1, _, q, _, HLT.out, by go_num, rfl, rfl, rfl, HI2⟩
          case measure => have := HLT.out; simp [intOf]; omega
        · have hb : ((b : Int) == 0) = false := by simp [h1]
          by_cases h2 : q < b
          · have HI2 := Lib.hid (HI.out.take_ (by rw [HQ.out]; exact h0) (.inr (by rw [HQ.out]; exact h2)))
            rw [HQ.out] at HI2
            clear h1 hlt
            go_big_quiet (fail)
            go_wp2_with fail
            go_roundw
            case rel => exact ⟨k + 1, _, q, _, HLT.out, by go_num, rfl, rfl, rfl, HI2⟩
            case measure => have := HLT.out; simp [intOf]; omega
          · have HI2 := Lib.hid (HI.out.pass (.inr ⟨h1, by rw [HQ.out]; omega⟩))
            clear h1 hlt
            go_big_quiet (fail)
            go_wp2_with fail
            go_roundw
            case rel => exact ⟨k + 1, _, b, t, HLT.out, by go_num, rfl, rfl, rfl, HI2⟩
            case measure => have := HLT.out; simp [intOf]; omega
      · have HI2 := Lib.hid (HI.out.pass (.inl (by rw [HQ.out]; have := T_ge L l k; rw [HQ.out] at this; omega)))
        clear hlt
        go_big_quiet (fail)
        go_wp2_with fail
        go_roundw
        case rel => exact ⟨k + 1, _, b, t, HLT.out, by go_num, rfl, rfl, rfl, HI2⟩
        case measure => have := HLT.out; simp [intOf]; omega
    · obtain rfl : k = d := by omega
      have HFIN := Lib.hid (HI.out.last HG.out (by rw [HN.out]; exact HD.out.2))
      clear hlt
      go_wp2_with fail
      go_ret2
      exact ⟨b, t, rfl, ⟨_, rfl⟩, HFIN.out⟩
end
end Go.Proofs.Ytlndhmkkffcbnaa.TkL
