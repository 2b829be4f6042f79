/-
  merge.
-/
import Derived.Test.YtlndhmkkffcbnaaTkR
namespace Go.Proofs.Ytlndhmkkffcbnaa.TkS
open Go.RowKit Go.Proofs.Ytlndhmkkffcbnaa.Kit Go.Proofs.Ytlndhmkkffcbnaa.TkM Go.Proofs.Ytlndhmkkffcbnaa.TkP Go.Proofs.Ytlndhmkkffcbnaa.TkQ Go.Proofs.Ytlndhmkkffcbnaa.TkW Go.Proofs.Ytlndhmkkffcbnaa.TkA Go.Proofs.Ytlndhmkkffcbnaa.TkN Go.Proofs.Ytlndhmkkffcbnaa.TkO Go.Proofs.Ytlndhmkkffcbnaa.TkL Go.Proofs.Ytlndhmkkffcbnaa.TkR
attribute [local go_sem high] max_imax min_imin
attribute [local go_sem ↓] Go.wp_at_zero Go.wp_at_succ
set_option linter.unusedVariables false
theorem put_spell {L : List Pr} {l x : List Int} {k i : Nat} (h1 : Least L l k i) (hx : Xps L l x) : Xps L (put l i (17 + (k : Int))) x := by
  obtain ⟨p, hk, h2, _⟩ := h1
  have e : l = l.take i ++ ([p.1, p.2] ++ l.drop (i + 2)) := by
    have hlt := h2.lt
    have e1 : l.drop i = p.1 :: l.drop (i + 1) := by
      rw [List.drop_eq_getElem_cons (by omega)]
      congr 1
      have := h2.1
      rw [List.getElem?_eq_getElem (by omega)] at this
      injection this
    have e2 : l.drop (i + 1) = p.2 :: l.drop (i + 2) := by
      rw [List.drop_eq_getElem_cons (by omega)]
      congr 1
      have := h2.2
      rw [List.getElem?_eq_getElem (by omega)] at this
      injection this
    conv => lhs; rw [← List.take_append_drop i l, e1, e2]
    rfl
  rw [e] at hx
  obtain ⟨a, b, rfl, ha, hb⟩ := hx.split
  obtain ⟨c, d, rfl, hc, hd⟩ := hb.split
  have hc' : Xps L [17 + (k : Int)] c := by
    cases hc with
    | cons h3 h4 =>
      cases h4 with
      | cons h5 h6 =>
        cases h6
        rw [List.append_nil]
        have := Xps.cons (Xp.node hk h3 h5) Xps.nil
        rwa [List.append_nil] at this
  unfold put
  rw [List.append_assoc]
  exact ha.app (hc'.app hd)
def lenOf : Value → Nat
  | .slice _ n _ => n
  | _ => 0
section
variable {w : World}
theorem replace_any {B c v i : Nat} {a : Option Addr} {t : Int} {l : List Int} (ho : Own w B 3 1 a l.length c (ints l)) (hi : i + 1 < l.length) (hv : Blk w v 3 #[.int .i64 t]) (hne : ob a ≠ some v) :
    Calls Try.prog 34 #[.slice a l.length c, .int .i64 i, .int .i64 ((i + 2 : Nat) : Int), .slice (some ⟨v, 0, none⟩) 1 1] w fun e w' => e = .returned (.slice a (put l i t).length c) ∧ Own w' B 3 1 a (put l i t).length c (ints (put l i t)) ∧ Chg (fun k => ob a = some k) w w' := by
  have hpl := put_len hi t
  obtain ⟨hlen, ⟨rfl, hn, _⟩ | ⟨g, cur, rfl, hBg, hh, h3, h4, h5, h6⟩⟩ := ho.form
  · omega
  · have hb : Blk w g 3 cur := hh
    rw [Nat.mul_one] at h5 h6
    have key : ∀ e w', ReplR w g c (l.length - 1) (ints (put l i t)) e w' → e = .returned (.slice (some ⟨g, 0, none⟩) (put l i t).length c) ∧ Own w' B 3 1 (some ⟨g, 0, none⟩) (put l i t).length c (ints (put l i t)) ∧ Chg (fun k => ob (some ⟨g, 0, none⟩) = some k) w w' := by
      rintro e w' ⟨rfl, ⟨cur', hb', hs', ht'⟩, hc'⟩
      have e1 : (put l i t).length = l.length - 1 := by omega
      rw [e1]
      refine ⟨rfl, own_of hb' hBg (by omega) h4 (by omega) (by rw [Nat.mul_one]; exact ht'), hc'.mono (fun k _ hk => by rw [hk]; rfl)⟩
    rcases Nat.eq_zero_or_pos (l.length - (i + 2)) with h0 | h0
    · have e2 : l.length = i + 2 := by omega
      rw [e2] at key h3 h6 ⊢
      refine (replace_last hb h5 h4 h3 hv (fun e => hne (by rw [e]; rfl))).mono fun e w' h => key e w' ?_
      have e3 : ints (put l i t) = cur.toList.take i ++ [.int .i64 t] := by
        unfold put
        rw [List.drop_of_length_le (by omega), List.append_nil, ← ints_append, ints_take, ← h6, List.take_take, Nat.min_eq_left (by omega)]
        rfl
      rw [e3]
      exact h
    · obtain ⟨r, hr⟩ : ∃ r, l.length = i + 2 + r := ⟨l.length - (i + 2), by omega⟩
      have hr0 : 0 < r := by omega
      rw [hr] at key h3 h6 ⊢
      refine (replace_mid hb h5 h4 hr0 h3 hv hr h6).mono fun e w' h => key e w' ?_
      rw [show i + 2 + r - 1 = i + 1 + r by omega]
      exact h
def MergeR (w : World) (L : List Pr) (l : List Int) (B : Nat) (a : Option Addr) (c : Nat) (e : Ending) (w' : World) : Prop :=
  ∃ r, e = .returned (.slice a r.length c) ∧ Own w' B 3 1 a r.length c (ints r) ∧ Mg L l r ∧ Chg (fun k => ob a = some k) w w'
set_option maxHeartbeats 1000000 in
theorem merge_any {B B0 c g : Nat} {a : Option Addr} {l x : List Int} {L : List Pr} (ht : ∀ w', Chg (fun k => ob a = some k) w w' → Tab w' B0 g L) (hg : TkP.Good L) (hL : L.length ≤ 1000) (ho : Own w B 3 1 a l.length c (ints l)) (hx : Xps L l x) :
    Calls Try.prog 25 #[.pointer (some ⟨g, 0, none⟩), .slice a l.length c] w (MergeR w L l B a c) := by
  have HT := Lib.hid ht
  have HG := Lib.hid hg
  have HO0 := Lib.hid ho
  have HX0 := Lib.hid hx
  have HLL := Lib.hid hL
  clear ht hg ho hx hL
  go_enter Try.func25, Try.ntmps25
  go_wp2_with fail
  go_loopw [1] (fun v wr => ∃ (m : List Int), v = .slice a m.length c ∧ Hid (Own wr B 3 1 a m.length c (ints m)) ∧ Hid (Chg (fun k => ob a = some k) w wr) ∧ Hid (∀ r, Mg L m r → Mg L l r) ∧ Hid (Xps L m x)) (fun v _ => lenOf v)
  case atStart => exact ⟨l, rfl, HO0, Lib.hid (Chg.refl _ _), Lib.hid (fun _ h => h), HX0⟩
  case round =>
    obtain ⟨m, rfl, HO, HC, HM, HX⟩ := hrel
    have HLE := Lib.hid (least_any (HT.out wr HC.out) HG.out HO.out.rd (fun t ht => by
      have := HX.out.range t ht
      have := HLL.out
      rw [okT_iff]
      omega))
    go_wp2_with fail
    with_reducible refine HLE.out.mono ?_
    rintro e w1 ⟨b, t, rfl, ⟨q, rfl⟩, ⟨rfl, rfl, hno⟩ | ⟨k, i, rfl, rfl, hle⟩⟩
    · have HFIN : Hid (MergeR w L l B a c (.returned (.slice a m.length c)) (wr.drewN q)) := Lib.hid ⟨m, rfl, HO.out.drewN q, HM.out m (.done hno), HC.out.drewN q⟩
      clear hno
      go_wp2_with fail
      go_ret
      exact HFIN.out
    · have HLST := Lib.hid hle
      have hi : i + 1 < m.length := by obtain ⟨p, _, h, _⟩ := hle; exact h.lt
      have HI := Lib.hid hi
      have HW : Hid (Chg (fun _ => False) wr ((wr.drewN q).alloc (.cells #[.int .i64 (17 + (k : Int))] 3))) := Lib.hid (((Chg.refl _ _).drewN q).alloc _)
      have HOZ := Lib.hid (HO.out.chg HW.out (fun _ _ => id))
      have HV := Lib.hid (Blk.new (wr.drewN q) #[.int .i64 (17 + (k : Int))] 3)
      have HRP := Lib.hid (replace_any (v := wr.heap.size) (t := 17 + (k : Int)) HOZ.out hi HV.out (fun e => by have h := (HO.out.lt _ e).2; exact absurd h (by show ¬ wr.heap.size < wr.heap.size; omega)))
      rw [show ((i + 2 : Nat) : Int) = (i : Int) + 2 by omega] at HRP
      have him : i + 1 < m.length := hi
      have hcap : m.length ≤ 9223372036854775807 := by
        have h1 := HO.out.rd.cap
        have h2 := HO.out.rd.max
        unfold maxLen at h2
        omega
      clear hle hi
      go_wp2_with fail
      with_reducible refine HRP.out.mono ?_
      rintro e w2 ⟨rfl, ho2, hc2⟩
      have HO2 := Lib.hid ho2
      have HC2 : Hid (Chg (fun k => ob a = some k) w w2) := Lib.hid (HC.out.trans ((HW.out.mono (fun _ _ h => h.elim)).trans hc2))
      have HM2 : Hid (∀ r, Mg L (put m i (17 + (k : Int))) r → Mg L l r) := Lib.hid (fun r h => HM.out r (.step HLST.out h))
      have HX2 := Lib.hid (put_spell HLST.out HX.out)
      have HPL : Hid ((put m i (17 + (k : Int))).length < m.length) := Lib.hid (by have := put_len HI.out (17 + (k : Int)); omega)
      clear ho2 hc2 him hcap
      go_wp2_with fail
      go_roundw
      case rel => exact ⟨_, rfl, HO2, HC2, HM2, HX2⟩
      case measure => exact HPL.out
end
end Go.Proofs.Ytlndhmkkffcbnaa.TkS
