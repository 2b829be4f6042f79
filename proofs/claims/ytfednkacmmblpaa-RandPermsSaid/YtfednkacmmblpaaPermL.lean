/-
  The law on permutations, over the two programs' contracts.
-/
import Derived.Test.YtfednkacmmblpaaPermW
import Derived.Test.YtfednkacmmblpaaOpen
namespace Go.Proofs.Ytfednkacmmblpaa.PermL
open Go.RowKit Go.Proofs.YtfednkacmmblpaaW.PrintWords Go.Proofs.Ytfednkacmmblpaa.PRandDraws Go.Proofs.Ytfednkacmmblpaa.Kit Go.Proofs.Ytfednkacmmblpaa.PermP Go.Proofs.Ytfednkacmmblpaa.Math
open Go.Proofs.Ytfednkacmmblpaa.PermW
attribute [local go_sem high] max_imax min_imin

theorem info4 : (Try.prog.info? 4).map (fun i => (i.zero, i.size, i.bytes)) = some (some (.bool false), 1, 1) := by kernel_rfl

/-- Which numbers were met among the first k. -/
def Met (l : List Int) (m k : Nat) (ms : List Bool) : Prop := ms.length = m ∧ ∀ j, j < m → ms.getD j false = (l.take k).contains ((j : Nat) : Int)

theorem met_zero (l : List Int) (m : Nat) : Met l m 0 (List.replicate m false) := by
  refine ⟨by simp, fun j hj => ?_⟩
  simp [List.getD_eq_getElem?_getD, hj]

theorem met_succ {l : List Int} {m k x : Nat} {ms : List Bool} (h : Met l m k ms) (hl : l.length = m) (hk : k < m) (hx : l.getD k 0 = x) (hxm : x < m) : Met l m (k + 1) (ms.set x true) := by
  refine ⟨by simpa using h.1, fun j hj => ?_⟩
  have hlk : l[k]? = some (x : Int) := by
    rw [List.getD_eq_getElem?_getD] at hx
    rw [List.getElem?_eq_getElem (by omega)] at hx ⊢
    exact congrArg some hx
  rw [List.take_add_one, hlk]
  simp only [Option.toList_some, List.contains_append, List.getD_eq_getElem?_getD, List.getElem?_set]
  have h1 := h.2 j hj
  rw [List.getD_eq_getElem?_getD] at h1
  by_cases e : x = j
  · subst e
    simp [h.1, hxm]
  · rw [if_neg e, h1]
    have : ¬ ((j : Int) = (x : Int)) := by omega
    simp [this]

theorem met_not {l : List Int} {m k x : Nat} {ms : List Bool} (h : Met l m k ms) (ho : Once m l) (hk : k < m) (hx : l.getD k 0 = x) (hxm : x < m) : ms.getD x false = false := by
  rw [h.2 x hxm]
  by_cases hc : (l.take k).contains (x : Int) = true
  · exfalso
    rw [List.contains_iff_mem] at hc
    obtain ⟨i, hi, he⟩ := List.getElem_of_mem hc
    have hl := ho.len
    rw [List.length_take] at hi
    rw [List.getElem_take] at he
    have h1 : l.getD i 0 = x := by rw [List.getD_eq_getElem?_getD, List.getElem?_eq_getElem (by omega)]; exact he
    have := ho.one i k (by omega) hk (h1.trans hx.symm)
    omega
  · simpa using hc

def bools (bs : List Bool) : List Value := bs.map Value.bool
theorem bools_cell {base g n cap : Nat} {bs : List Bool} {w : World} (h : w.ownsRow base 4 1 (.slice (some ⟨g, 0, none⟩) n cap) n (bools bs)) (hx : bs.length = n) (i : Nat) (hi : i < n) :
    w.cell? ⟨g, i, none⟩ = some (.bool (bs.getD i false)) := by
  rw [h.cellAt i (by omega)]
  simp [bools, List.getD_eq_getElem?_getD, List.getElem?_eq_getElem (show i < bs.length by omega)]

theorem alive_any (w : World) : Calls Try.prog 15 #[] w fun e w' => e = .returned (.bool true) ∧ ∃ m, w' = w.drewN m :=
  (garboardlaw06_alive.calls true w Pure.RandDraws.alive_f).mono fun _ _ ⟨he, hd⟩ => ⟨he, hd.out⟩

theorem law (s : BitVec 64) (n : Int) (m : Nat) (hm : imin (imax n 0) 4096 = (m : Int)) (hm4 : m ≤ 4096) (w : World) :
    Calls Try.prog 7 #[.int .u64 (U s), .int .i64 n] w fun e w' => e = .returned (.bool true) ∧ Below w.heap.size w w' := by
  obtain ⟨i0, hi, hz0, hz1, hz2⟩ := info_parts info4
  have HM := Lib.hid hm
  have HO := Lib.hid (once_perm s m hm4)
  clear hm
  obtain ⟨us, HU⟩ : ∃ us, Hid (U s = us) := ⟨_, rfl⟩
  rw [HU.out]
  go_enter Try.func7, Try.ntmps7
  go_wp2_with fail
  rw [← HU.out]
  refine (perm_any s n m HM.out hm4 w).mono ?_
  rintro e w1 ⟨va, rfl, ha, hb1⟩
  rw [HU.out]
  have HA := Lib.hid ha
  have HB1 := Lib.hid hb1
  clear ha hb1
  go_wp2_with fail
  rw [← HU.out]
  refine (ref_perm_any s n m HM.out hm4 w1).mono ?_
  rintro e w2 ⟨vb, rfl, hb, hb2⟩
  rw [HU.out]
  have HA2 := Lib.hid (HA.out.kept (World.grownBy.mk hb2.os hb2.tape hb2.output hb2.size (fun k hk _ => hb2.block k hk) : w1.grownBy w2 none) (by
    rcases hv : va.ownBlock with _ | k
    · exact .inl rfl
    · exact .inr (by simp)))
  have HB2 := Lib.hid hb
  have HBe := Lib.hid (HB1.out.trans (hb2.mono HB1.out.size))
  have HS := HB1.out.size
  have HS2 := HBe.out.size
  clear hb hb2 HA HB1
  obtain ⟨A, ca, rfl⟩ := own_slice HA2.out
  obtain ⟨B, cb, rfl⟩ := own_slice HB2.out
  have hne : ((m : Int) != imin (imax n 0) 4096) = false := by rw [HM.out]; simp
  go_wp2_with (at_make; refine wpList_make_full _ rfl _ _ 35 rfl w2.heap.size 4 i0 (.bool false) 1 Try.underlying35 hi hz0 hz1 .i64 .i64 (m : Int) (m : Int) m rfl rfl rfl rfl ?c1 ?c2 ?c3 ?_)
  case c1 => rw [hz2]; omega
  case c2 => unfold maxLen; omega
  case c3 => exact Nat.le_refl _
  intro w3 hown hgr
  obtain ⟨gm, hgm, HGM⟩ : ∃ gm, w2.heap.size ≤ gm ∧ Hid (w2.heap.size = gm) := ⟨_, Nat.le_refl _, rfl⟩
  rw [HGM.out] at hown ⊢
  have HM3 : Hid (w3.ownsRow w2.heap.size 4 1 (.slice (some ⟨gm, 0, none⟩) m m) m (bools (List.replicate m false))) := by
    rw [show bools (List.replicate m false) = (madeCells #[Value.bool false] m).toList by simp [bools, toList_madeCells_one], HGM.out]
    exact hown
  have HA3 := Lib.hid (HA2.out.kept hgr (by
    rcases hv : (Value.slice A m ca).ownBlock with _ | k
    · exact .inl rfl
    · exact .inr (by simp)))
  have HB3 := Lib.hid (HB2.out.kept hgr (by
    rcases hv : (Value.slice B m cb).ownBlock with _ | k
    · exact .inl rfl
    · exact .inr (by simp)))
  have HBe3 := Lib.hid (HBe.out.grown hgr HS2 (fun k hk => by cases hk))
  have hla := HA2.out.lt
  have hlb := HB2.out.lt
  have HLA := Lib.hid hla
  have HLB := Lib.hid hlb
  clear hown hgr HA2 HB2 hla hlb
  go_wp2_with fail
  go_loopw [34] (fun i wr => ∃ (k : Nat) (ms : List Bool), k ≤ m ∧ i = .int .i64 k ∧ Hid (Met (perm s m) m k ms) ∧ Hid (wr.ownsRow w2.heap.size 4 1 (.slice (some ⟨gm, 0, none⟩) m m) m (bools ms)) ∧
    Hid (wr.ownsRow w.heap.size 3 1 (.slice A m ca) m (ints (perm s m))) ∧ Hid (wr.ownsRow w1.heap.size 3 1 (.slice B m cb) m (ints (perm s m))) ∧ Hid (Below w.heap.size w wr)) (fun i _ => m - (intOf i).toNat)
  case atStart => exact ⟨0, _, Nat.zero_le _, rfl, met_zero _ _, HM3, HA3, HB3, HBe3⟩
  case round =>
    obtain ⟨k, ms, hk, rfl, HT, HMm, HA, HB, HBel⟩ := hrel
    by_cases hlt : k < m
    · obtain ⟨ga, xa, hva, hga, hga2⟩ := HA.out.form (by omega)
      have e1 : A = some ⟨ga, 0, none⟩ := by injection hva
      subst e1
      obtain ⟨gb, xb, hvb, hgb, hgb2⟩ := HB.out.form (by omega)
      have e2 : B = some ⟨gb, 0, none⟩ := by injection hvb
      subst e2
      clear hva hvb
      have hlen := HO.out.len
      have ck := ints_cell HA.out hlen k hlt
      have cb' := ints_cell HB.out hlen k hlt
      have h0 := HO.out.lo k hlt
      have h1 := HO.out.hi k hlt
      obtain ⟨x, HX⟩ : ∃ x : Nat, Hid ((perm s m).getD k 0 = (x : Int)) := ⟨((perm s m).getD k 0).toNat, by show _ = _; omega⟩
      rw [HX.out] at ck cb' h0 h1
      have hxm : x < m := by omega
      have cm := bools_cell HMm.out HT.out.1 x hxm
      rw [met_not HT.out HO.out hlt HX.out hxm] at cm
      have fm : wr.frozen? ⟨gm, x, none⟩ = false := HMm.out.frozenAt x
      have k0 : (0 : Int) ≤ (k : Int) := by omega
      have k1 : (k : Int) < (m : Int) := by omega
      clear hlen
      go_wp2
      go_roundw
      case rel =>
        have hst := HMm.out.stored x (.bool true)
        refine ⟨k + 1, ms.set x true, by omega, by go_num, met_succ HT.out HO.out.len hlt HX.out hxm, ?_, ?_, ?_, ?_⟩
        · have h2 := hst.1
          rw [show (bools ms).set x (.bool true) = bools (ms.set x true) by simp [bools, List.map_set]] at h2
          exact h2
        · exact HA.out.kept hst.2 (.inr (by simp [Value.ownBlock]; have := (HLA.out ga rfl).2; omega))
        · exact HB.out.kept hst.2 (.inr (by simp [Value.ownBlock]; have := (HLB.out gb rfl).2; omega))
        · exact HBel.out.grown hst.2 HBel.out.size (fun b hb => by injection hb with hb; omega)
      case measure => simp [intOf]; omega
    · obtain rfl : k = m := by omega
      go_wp2_with fail
      refine (alive_any _).mono ?_
      rintro e w5 ⟨rfl, nd, rfl⟩
      go_wp2
      go_ret
      exact ⟨rfl, pw_below_drewN HBel.out nd⟩

theorem entry (W : World) (v0 v1 : Value) (g0 : Arg W (.int .u64) v0) (g1 : Arg W (.int .i64) v1) :
    Calls Try.prog 7 #[v0, v1] W fun e w' => e = .returned (.bool true) ∧ Below W.heap.size W w' := by
  obtain ⟨a, ha, hw⟩ := g0
  obtain ⟨b, hb, _⟩ := g1
  injection ha with ha
  injection hb with hb
  subst ha hb
  obtain ⟨s, rfl⟩ := of_wf hw
  exact law s b (imin (imax b 0) 4096).toNat (by unfold imin imax; split <;> split <;> omega) (by unfold imin imax; split <;> split <;> omega) W
end Go.Proofs.Ytfednkacmmblpaa.PermL
