/-
  Walks over the model: table.
-/
import Derived.Test.YtpcanolanhdfeaaMdW
import Derived.Deep.RegionLaw
namespace Go.Proofs.Ytpcanolanhdfeaa.MdT
open Go.RowKit Go.Proofs.Ytpcanolanhdfeaa.Kit Go.Proofs.Ytpcanolanhdfeaa.Math Go.Proofs.Ytpcanolanhdfeaa.MdR Go.Proofs.Ytpcanolanhdfeaa.MdW
attribute [local go_sem high] max_imax min_imin
attribute [local go_sem ↓] Go.wp_at_zero Go.wp_at_succ
set_option linter.unusedVariables false

/-- A model's cells. -/
def mm (c : Cfg) (a : Option Addr) (n k : Nat) : Array Value := #[.int .u64 (U c.seed), .int .i64 c.vocab, .int .i64 c.dim, .int .i64 c.layers, .int .i64 c.top, .int .i64 c.heat, .slice a n k]
/-- A row of the table whose seed is s. -/
def wrow (s : BitVec 64) (dim r : Nat) : List Int := (List.range dim).map (Wt s r)
theorem wrow_len (s : BitVec 64) (dim r : Nat) : (wrow s dim r).length = dim := by simp [wrow]
theorem wrow_snoc (s : BitVec 64) {dim r j : Nat} (h : j < dim) : (wrow s dim r).take (j + 1) = (wrow s dim r).take j ++ [Wt s r j] := by
  rw [List.take_succ_eq_append_getElem (by rw [wrow_len]; exact h)]
  simp [wrow]
/-- The seed of table t. -/
def tseed (c : Cfg) (t : Nat) : BitVec 64 := at_ c.seed (BitVec.ofNat 64 t)
def nilS : Value := .slice none 0 0

theorem set_mid (xs : List Value) (u v : Value) (ys : List Value) : (xs ++ u :: ys).toArray.setIfInBounds xs.length v = (xs ++ v :: ys).toArray := by
  simp
theorem Own.alloc' {w : World} {B : Nat} {e : TypeId} {size : Nat} {a : Option Addr} {n c : Nat} {xs : List Value} (h : Own w B e size a n c xs) (o : Obj) : Own (w.alloc o) B e size a n c xs :=
  h.chg ((Chg.refl (fun _ => False) w).alloc o) (fun _ _ => id)
theorem rd_new (w : World) (v : Value) (e : TypeId) : Rd (w.alloc (.cells #[v] e)) 1 (some ⟨w.heap.size, 0, none⟩) 1 1 [v] := (Own.made (B := w.heap.size) w #[v] e 1 (Nat.le_refl _) (by unfold maxLen; omega) rfl).rd
theorem own_arr {w : World} {B : Nat} {e : TypeId} {g n c : Nat} {xs : List Value} (h : Own w B e 1 (some ⟨g, 0, none⟩) n n xs) : Blk w g e xs.toArray := by
  obtain ⟨hl, ⟨h, _⟩ | ⟨g', cur, hg, _, hh, _, _, h5, h6⟩⟩ := h.form
  · cases h
  · injection hg with hg
    injection hg with hg
    subst hg
    rw [List.take_of_length_le (by simp [h5])] at h6
    rw [← h6]
    exact hh
theorem arr_own {w : World} {B : Nat} {e : TypeId} {g n : Nat} {xs : List Value} (h : Blk w g e xs.toArray) (hl : xs.length = n) (hB : B ≤ g) (hn : n ≤ maxLen) : Own w B e 1 (some ⟨g, 0, none⟩) n n xs :=
  ⟨by simpa using hl, .inr ⟨g, n, xs.toArray, rfl, hB, h, Nat.le_refl _, hn, by simpa using hl, by simp [← hl]⟩⟩

section
variable {w : World}

def Tabled (w : World) (c : Cfg) (t n dim : Nat) (e : Ending) (w' : World) : Prop :=
  ∃ gt L, e = .returned (.slice (some ⟨gt, 0, none⟩) n n) ∧ L.length = n ∧ Own w' w.heap.size 32 1 (some ⟨gt, 0, none⟩) n n (sl dim L) ∧ Tb w' w.heap.size dim L (wrow (tseed c t) dim) ∧ Apart L ∧ Below w.heap.size w w'

/-- One number more in row k. -/
theorem cell_step {wr w9 : World} {gt k j m dim B Bo : Nat} {a a9 : Option Addr} {ca c9 : Nat} {L : List (Option Addr × Nat)} {s : BitVec 64} {o : Obj} (hk : L.length = k) (hjl : j < dim)
    (hb : Blk wr gt 32 (sl dim L ++ .slice a j ca :: List.replicate m nilS).toArray) (ho : Own wr Bo 2 1 a j ca (ints ((wrow s dim k).take j))) (ht : Tb wr B dim L (wrow s dim)) (hl : Below B w wr) (hs : Bo ≤ wr.heap.size)
    (hne : ob a ≠ some gt) (hgt : B < gt) (hBo : gt < Bo) (hp : ∀ p ∈ L, ∀ x, ob p.1 = some x → x < Bo)
    (h9 : Own w9 Bo 2 1 a9 (j + 1) c9 (ints ((wrow s dim k).take j) ++ [.int .i64 (Wt s k j)])) (hg : (wr.alloc o).drew.grownBy w9 (ob a)) :
    Hid (Blk (w9.setCell ⟨gt, k, none⟩ (.slice a9 (j + 1) c9)) gt 32 (sl dim L ++ .slice a9 (j + 1) c9 :: List.replicate m nilS).toArray) ∧
    Hid (Own (w9.setCell ⟨gt, k, none⟩ (.slice a9 (j + 1) c9)) Bo 2 1 a9 (j + 1) c9 (ints ((wrow s dim k).take (j + 1)))) ∧
    Hid (Tb (w9.setCell ⟨gt, k, none⟩ (.slice a9 (j + 1) c9)) B dim L (wrow s dim)) ∧
    Hid (Below B w (w9.setCell ⟨gt, k, none⟩ (.slice a9 (j + 1) c9))) ∧
    Hid (Bo ≤ (w9.setCell ⟨gt, k, none⟩ (.slice a9 (j + 1) c9)).heap.size) := by
  have c1 : Chg (fun x => ob a = some x) wr w9 := (((Chg.refl (fun x => ob a = some x) wr).alloc o).drew).trans (Chg.of_grown' hg)
  have b9 := c1.blk hb hne
  have hset : Chg (fun i => i = gt) w9 (w9.setCell ⟨gt, k, none⟩ (.slice a9 (j + 1) c9)) := (Chg.refl (fun i => i = gt) w9).set (p := ⟨gt, k, none⟩) (.inl rfl) _
  have hwl := ho.lt
  refine ⟨Lib.hid ?_, Lib.hid ?_, Lib.hid ?_, Lib.hid ?_, Lib.hid ?_⟩
  · have := b9.set k (.slice a9 (j + 1) c9)
    rw [show k = (sl dim L).length by rw [sl_len, hk], set_mid] at this
    rw [show k = (sl dim L).length by rw [sl_len, hk]]
    exact this
  · rw [wrow_snoc s hjl, ← ints_append]
    exact h9.chg hset (fun x hx e => by have := (h9.ne b9 (by decide)); rw [hx, e] at this; exact this rfl)
  · refine (ht.chg c1 (fun p hp' x hx e => ?_)).chg hset (fun p hp' x hx e => ?_)
    · have := hp p hp' x hx
      have := (hwl x e).1
      omega
    · obtain ⟨i, hi, rfl⟩ := List.getElem_of_mem hp'
      exact (ht i _ (List.getElem?_eq_getElem hi)).ne hb (by decide) (by rw [hx, e])
  · exact hset.below (c1.below hl (by omega) (fun x hx => by have := (hwl x hx).1; omega)) (by have := c1.size; omega) (fun x hx => by omega)
  · have := hset.size
    have := c1.size
    omega

set_option maxHeartbeats 1000000 in
theorem table_any {g : Nat} {c : Cfg} {ta : Option Addr} {tn tc : Nat} (hb : Blk w g 45 (mm c ta tn tc)) (t n : Nat) (ht : t ≤ 1000) (hn : n ≤ 1000) {dim : Nat} (hd : c.dim = dim) (hd2 : dim ≤ 16) :
    Calls Try.prog 19 #[.pointer (some ⟨g, 0, none⟩), .int .i64 t, .int .i64 n] w (Tabled w c t n dim) := by
  obtain ⟨i0, hi, hz0, hz1, hz2⟩ := info_parts row_info
  have HB := Lib.hid hb
  have hg := hb.lt
  have htU := nat_U t (by omega)
  have c0 : w.cell? ⟨g, 0, none⟩ = some (.int .u64 (U c.seed)) := hb.cell 0 rfl
  clear hb
  have HD : ∀ {w : World} {b off : Nat} {k : Nat} (hc : w.cell? ⟨b, off, none⟩ = some (.int .u64 (t : Int))), Hid (Calls Try.prog 28 #[.int .u64 (U c.seed), .slice (some ⟨b, off, none⟩) 1 k] w fun e w' => e = .returned (.int .u64 (U (tseed c t))) ∧ w = w') :=
    fun hc => Lib.hid (derive_any c.seed (BitVec.ofNat 64 t) (by rw [htU]; exact hc))
  have HW : ∀ (w : World) (r k : Nat) (hr : r ≤ 1000) (hk : k ≤ 1000), Hid (Calls Try.prog 29 #[.int .u64 (U (tseed c t)), .int .i64 r, .int .i64 k] w fun e w' => e = .returned (.int .i64 (Wt (tseed c t) r k)) ∧ w = w') :=
    fun w r k hr hk => Lib.hid (weight_any (tseed c t) r k hr hk)
  obtain ⟨u, HU⟩ : ∃ u, Hid (U c.seed = u) := ⟨_, rfl⟩
  obtain ⟨v, HV⟩ : ∃ v, Hid (U (tseed c t) = v) := ⟨_, rfl⟩
  rw [HU.out] at c0
  simp only [HU.out, HV.out] at HD HW
  clear htU
  have t0 : (0 : Int) ≤ (t : Int) := by omega
  have t1 : (t : Int) ≤ 1000 := by omega
  go_enter Try.func19, Try.ntmps19
  go_wp2_with fail
  refine (HD (by simp [go_sem])).out.mono ?_
  rintro e w1 ⟨rfl, rfl⟩
  go_wp2_with (at_make; refine wpList_make_full _ rfl _ _ 35 rfl w.heap.size 32 i0 (.slice none 0 0) 1 Try.underlying35 hi hz0 hz1 .i64 .i64 (n : Int) (n : Int) n rfl rfl rfl rfl ?c1 ?c2 ?c3 ?_)
  case c1 => rw [hz2]; omega
  case c2 => unfold maxLen; omega
  case c3 => simp
  intro w2 hown hgr
  have hs1 : (w.alloc (.cells #[.int .u64 (t : Int)] 22)).heap.size = w.heap.size + 1 := by simp
  have hl1 := (Below.refl w.heap.size w).alloc (Nat.le_refl _) (.cells #[.int .u64 (t : Int)] 22)
  have hl2 := hl1.grown hgr (by simp) (fun k hk => by cases hk)
  have hgz := hgr.size
  rw [hs1] at hgz
  try rw [hs1] at hown
  try rw [hs1]
  obtain ⟨gt, HGT⟩ : ∃ gt, Hid (w.heap.size + 1 = gt) := ⟨_, rfl⟩
  rw [HGT.out] at hown hgz ⊢
  have HO2 : Hid (Blk w2 gt 32 (List.replicate n nilS).toArray) := by
    have h := own_arr (c := n) (show Own w2 w.heap.size 32 1 (some ⟨gt, 0, none⟩) n n _ from ⟨hown⟩)
    rw [show (madeCells #[Value.slice none 0 0] n).toList = List.replicate n nilS by simp [toList_madeCells_one, nilS]] at h
    exact h
  have HL2 := Lib.hid hl2
  have hgt : w.heap.size < gt := by have := HGT.out; omega
  clear hown hgr hl1 hl2 hs1 HGT
  have n0 : (0 : Int) ≤ (n : Int) := by omega
  have n1 : (n : Int) ≤ 1000 := by omega
  go_wp2_with fail
  go_loopw [24] (fun i wr => ∃ L : List (Option Addr × Nat), L.length ≤ n ∧ i = .int .i64 (L.length : Nat) ∧ Hid (Blk wr gt 32 (sl dim L ++ List.replicate (n - L.length) nilS).toArray) ∧ Hid (Tb wr w.heap.size dim L (wrow (tseed c t) dim)) ∧ Hid (Apart L) ∧ Hid (Below w.heap.size w wr)) (fun i _ => n - (intOf i).toNat)
  case atStart => exact ⟨[], Nat.zero_le _, rfl, by simpa [sl] using HO2, Lib.hid (Tb.none_ _ _ _ _), Lib.hid Apart.none_, HL2⟩
  case round =>
    obtain ⟨L, hk, rfl, HB0, HT0, HA0, HL0⟩ := hrel
    obtain ⟨k, HK⟩ : ∃ k, Hid (L.length = k) := ⟨_, rfl⟩
    rw [HK.out] at hk ⊢
    by_cases hlt : k < n
    · have hBg : Blk wr g 45 (mm c ta tn tc) := (HL0.out.block g hg).trans HB.out
      have c2 : wr.cell? ⟨g, 2, none⟩ = some (.int .i64 c.dim) := hBg.cell 2 rfl
      rw [hd] at c2
      clear hBg
      have k0 : (0 : Int) ≤ (k : Int) := by omega
      have k1 : (k : Int) < (n : Int) := by omega
      have HP : Hid (∀ p ∈ L, ∀ x, ob p.1 = some x → x < wr.heap.size) := Lib.hid (fun p hp x hx => (HT0.out.lt p hp x hx).2)
      have hgw : gt < wr.heap.size := HB0.out.lt
      obtain ⟨m, HM⟩ : ∃ m, Hid (n - k = m + 1) := ⟨n - k - 1, Lib.hid (by omega)⟩
      have HB1 : Hid (Blk wr gt 32 (sl dim L ++ .slice none 0 0 :: List.replicate m nilS).toArray) := by
        have := HB0.out
        rw [HK.out, HM.out, List.replicate_succ] at this
        exact Lib.hid this
      clear HB0
      go_wp2_with fail
      obtain ⟨wo, rfl⟩ : ∃ wo : World, wo = wr := ⟨_, rfl⟩
      go_loopw [32] (fun i wr => ∃ (j : Nat) (a : Option Addr) (ca : Nat), j ≤ dim ∧ i = .int .i64 j ∧ Hid (Blk wr gt 32 (sl dim L ++ .slice a j ca :: List.replicate m nilS).toArray) ∧ Hid (Own wr wo.heap.size 2 1 a j ca (ints ((wrow (tseed c t) dim k).take j))) ∧ Hid (Tb wr w.heap.size dim L (wrow (tseed c t) dim)) ∧ Hid (Below w.heap.size w wr) ∧ Hid (wo.heap.size ≤ wr.heap.size)) (fun i _ => dim - (intOf i).toNat)
      case atStart => exact ⟨0, none, 0, Nat.zero_le _, rfl, HB1, Lib.hid (by simpa [ints] using Own.none_ _ _ _ _), HT0, HL0, Lib.hid (Nat.le_refl _)⟩
      case round =>
        obtain ⟨j, a, ca, hj, rfl, HB2, HO3, HT3, HL3, HS3⟩ := hrel
        by_cases hjl : j < dim
        · have ck : wr.cell? ⟨gt, k, none⟩ = some (.slice a j ca) := HB2.out.cell k (by simp [sl, ← HK.out])
          have fk := HB2.out.frozen k
          have j0 : (0 : Int) ≤ (j : Int) := by omega
          have j1 : (j : Int) < (dim : Int) := by omega
          have hgr2 : gt < wr.heap.size := HB2.out.lt
          go_wp2_with fail
          have HOA : Hid (Own (wr.alloc (.cells #[.int .i64 (Wt (tseed c t) k j)] 2)) wo.heap.size 2 1 a j ca (ints ((wrow (tseed c t) dim k).take j))) := Lib.hid (Own.alloc' HO3.out _)
          have HRA := Lib.hid (rd_new wr (.int .i64 (Wt (tseed c t) k j)) 2)
          have hne : ob a ≠ some gt := fun e => by have := (HO3.out.lt gt e).1; omega
          have HNE := Lib.hid hne
          have hsw := HS3.out
          have h1c : ∀ u ∈ [Value.int .i64 (Wt (tseed c t) k j)], u.oneCell' = true := by simp [Value.oneCell']
          have H1C := Lib.hid h1c
          have FIN := Lib.hid (fun (a9 : Option Addr) (c9 : Nat) (w9 : World) h9 hg9 => cell_step (w := w) (a9 := a9) (c9 := c9) (w9 := w9) (o := .cells #[.int .i64 (Wt (tseed c t) k j)] 2) HK.out hjl HB2.out HO3.out HT3.out HL3.out HS3.out hne hgt hgw HP.out h9 hg9)
          clear hne h1c
          go_region_law (first | (go_simp; go_at_call 29; refine (HW _ k j (by omega) (by omega)).out.mono ?_; rintro e w9 ⟨rfl, rfl⟩) | (refine step_app ints32 (by omega) (by rfl) (.tmp 40) (.tmp 45) (by rfl) (by rfl) (by first | exact HOA.out.drew | exact HOA.out) (by rfl) (by first | exact HRA.out.drew | exact HRA.out) H1C.out (by omega) (by omega) (by simp; omega) ?_; intro a9 c9 w9 ho9 hg9 ha9; have u6 := hg9.cell_far ⟨gt, k, none⟩ (by simp; omega) (by simp; exact fun h => HNE.out h.symm); have v6 := hg9.frozen_far ⟨gt, k, none⟩ (by simp; omega) (by simp; exact fun h => HNE.out h.symm); have HO9 := Lib.hid ho9; have HG9 := Lib.hid hg9; have HA9 := Lib.hid ha9; clear ho9 hg9 ha9))
          all_goals
            go_wp2
            go_roundw
            case rel => exact ⟨j + 1, a9, c9, by omega, by go_num, FIN.out a9 c9 w9 HO9.out HG9.out⟩
            case measure => simp [intOf]; omega
        · have hje : j = dim := by omega
          subst hje
          go_wp2
          go_roundw
          case rel =>
            refine ⟨L ++ [(a, ca)], by have := HK.out; simp; omega, by have := HK.out; simp; omega, Lib.hid ?_, Lib.hid ?_, Lib.hid ?_, HL3⟩
            · have h := HB2.out
              rw [show sl j (L ++ [(a, ca)]) ++ List.replicate (n - (L ++ [(a, ca)]).length) nilS = sl j L ++ .slice a j ca :: List.replicate m nilS by
                have e : n - (L ++ [(a, ca)]).length = m := by
                  have := HM.out
                  simp [HK.out]
                  omega
                rw [e]
                simp [sl]]
              exact h
            · refine HT3.out.snoc ?_
              have h := HO3.out
              rw [List.take_of_length_le (by rw [wrow_len]; exact Nat.le_refl _)] at h
              rw [HK.out]
              exact h.lower (by have := HL0.out.size; exact this)
            · exact HA0.out.snoc (fun p hp x hx e => by have h1 := HP.out p hp x hx; have h2 := (HO3.out.lt x e).1; omega)
          case measure => simp [intOf]; omega
    · have hke : k = n := by omega
      subst hke
      go_wp2
      go_ret
      have hb := HB0.out
      rw [HK.out, Nat.sub_self, List.replicate_zero, List.append_nil] at hb
      exact ⟨gt, L, rfl, HK.out, arr_own hb (by rw [sl_len, HK.out]) (by omega) (by unfold maxLen; omega), HT0.out, HA0.out, HL0.out⟩
end
end Go.Proofs.Ytpcanolanhdfeaa.MdT
