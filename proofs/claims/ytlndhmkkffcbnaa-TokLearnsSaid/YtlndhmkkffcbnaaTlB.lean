/-
  before; best.
-/
import Derived.Test.YtlndhmkkffcbnaaTlC
namespace Go.Proofs.Ytlndhmkkffcbnaa.TlB
open Go.RowKit Go.Proofs.Ytlndhmkkffcbnaa.Kit Go.Proofs.Ytlndhmkkffcbnaa.TkM Go.Proofs.Ytlndhmkkffcbnaa.TkP Go.Proofs.Ytlndhmkkffcbnaa.TkQ Go.Proofs.Ytlndhmkkffcbnaa.TkW Go.Proofs.Ytlndhmkkffcbnaa.TkE Go.Proofs.Ytlndhmkkffcbnaa.TkA Go.Proofs.Ytlndhmkkffcbnaa.TkN Go.Proofs.Ytlndhmkkffcbnaa.TkG Go.Proofs.Ytlndhmkkffcbnaa.TlP Go.Proofs.Ytlndhmkkffcbnaa.TlM Go.Proofs.Ytlndhmkkffcbnaa.TlC
attribute [local go_sem high] max_imax min_imin
attribute [local go_sem ↓] Go.wp_at_zero Go.wp_at_succ
set_option linter.unusedVariables false
section
variable {w : World}
theorem below_two' {w w1 w2 : World} (h : Below w.heap.size w w1) (k : Below w1.heap.size w1 w2) : Below w.heap.size w w2 := h.trans (k.mono h.size)
theorem before_yes {x y a b : Int} (h : lex (x, y) (a, b)) : Calls Try.prog 37 #[.agg #[.int .i64 x, .int .i64 y], .agg #[.int .i64 a, .int .i64 b]] w fun e w' => e = .returned (.bool true) ∧ Below w.heap.size w w' := by
  have HB : Hid (Below w.heap.size w ((w.alloc (.cells #[.int .i64 x, .int .i64 y] 54)).alloc (.cells #[.int .i64 a, .int .i64 b] 54))) := Lib.hid (((Below.refl _ _).alloc (Nat.le_refl _) _).alloc (by simp) _)
  unfold lex at h
  dsimp only at h
  by_cases h1 : x < a
  · clear h
    go_enter Try.func37, Try.ntmps37
    go_wp2_with fail
    go_ret
    exact ⟨rfl, HB.out⟩
  · have h2 : ((x : Int) == a) = true := by simp; omega
    have h3 : y < b := by omega
    clear h
    go_enter Try.func37, Try.ntmps37
    go_wp2_with fail
    go_ret
    exact ⟨rfl, HB.out⟩
theorem before_no {x y a b : Int} (h : ¬ lex (x, y) (a, b)) : Calls Try.prog 37 #[.agg #[.int .i64 x, .int .i64 y], .agg #[.int .i64 a, .int .i64 b]] w fun e w' => e = .returned (.bool false) ∧ Below w.heap.size w w' := by
  have HB : Hid (Below w.heap.size w ((w.alloc (.cells #[.int .i64 x, .int .i64 y] 54)).alloc (.cells #[.int .i64 a, .int .i64 b] 54))) := Lib.hid (((Below.refl _ _).alloc (Nat.le_refl _) _).alloc (by simp) _)
  unfold lex at h
  dsimp only at h
  have h1 : a ≤ x := by omega
  by_cases h2 : x = a
  · have h3 : ((x : Int) == a) = true := by simp [h2]
    have h4 : decide (y < b) = false := by simp; omega
    have h5 : decide (x < a) = false := by simp; omega
    clear h h2
    go_enter Try.func37, Try.ntmps37
    go_wp2_with fail
    go_ret
    exact ⟨rfl, HB.out⟩
  · have h3 : ((x : Int) == a) = false := by simp [h2]
    have h5 : decide (x < a) = false := by simp; omega
    clear h h2
    go_enter Try.func37, Try.ntmps37
    go_wp2_with fail
    go_ret
    exact ⟨rfl, HB.out⟩
/-- The pairs that have come. -/
def Seen (D : DataW Unit) (left : Lit → Bool) (q : Pr) : Prop := okP q ∧ Maps.has D (K q) = true ∧ left (K q) = false
theorem seen_step {D : DataW Unit} {left : Lit → Bool} {p : Pr} (hp : okP p) (hd : Maps.has D (K p) = true) (q : Pr) : Seen D (fun z => left z && !z.sameKey (K p)) q ↔ Seen D left q ∨ q = p := by
  unfold Seen
  constructor
  · rintro ⟨h1, h2, h3⟩
    by_cases e : q = p
    · exact .inr e
    · refine .inl ⟨h1, h2, ?_⟩
      dsimp only at h3
      rw [Maps.sameKey_ne (fun h => e (K_inj h1 hp h))] at h3
      simpa using h3
  · rintro (⟨h1, h2, h3⟩ | rfl)
    · exact ⟨h1, h2, by simp [h3]⟩
    · exact ⟨hp, hd, by dsimp only; rw [WideAt.sameKey_self (K_key hp)]; simp⟩
/-- The map that is ranged over. -/
structure Rg (w : World) (X : List (List Int)) (b r n : Nat) (D : DataW Unit) (left : Lit → Bool) (cnt : Nat) : Prop where
  rg : w.ranges Try.prog 54 iR b r n D left cnt
  at_ : ∀ p, okP p → D.atKey (K p) (.lit (.int .i64 0)) = .lit (.int .i64 (cntX X p))
  keys : ∀ kl, Maps.has D kl = true → ∃ p, okP p ∧ InX X p ∧ kl = K p
  left_ : ∀ kl, left kl = true → Maps.has D kl = true
theorem Rg.kept {w w' : World} {X : List (List Int)} {b r n : Nat} {D : DataW Unit} {left : Lit → Bool} {cnt : Nat} (h : Rg w X b r n D left cnt) {T : Nat → Prop} (hc : Chg T w w') (hb : ¬ T b) (hr : ¬ T r) : Rg w' X b r n D left cnt := by
  refine ⟨?_, h.at_, h.keys, h.left_⟩
  have h1 := h.rg.owns.lt
  have h2 := h.rg.lt
  obtain ⟨es, clock, since, seen, c0, hb', F, hs, hD, hr', rest⟩ := h.rg
  exact ⟨es, clock, since, seen, c0, (hc.block b h1 hb).trans hb', F, hs, hD, (hc.block r h2 hr).trans hr', rest⟩
theorem rg_start {w : World} {X : List (List Int)} {b n : Nat} (h : MapQ (InX X) w b n (cntX X)) :
    ∃ w' D left cnt, (Instr.range 61 (.map (some b))).run Try.prog w = .ok (.pointer (some ⟨w.heap.size, 0, none⟩)) w' ∧ Rg w' X b w.heap.size n D left cnt ∧ Below w.heap.size w w' ∧ w'.heap.size = w.heap.size + 1 ∧ (∀ q, ¬ Seen D left q) := by
  obtain ⟨D, h1, h2, h3, h4⟩ := h
  obtain ⟨w', hrun, hr, hg, hs⟩ := h1.range key54 Try.underlying61
  exact ⟨w', D, _, _, hrun, ⟨hr, h3, h4, fun _ h => h⟩, (Chg.of_grown (S := fun _ => False) hg (fun k hk => by cases hk)).none, hs, fun q hq => by
    obtain ⟨_, h5, h6⟩ := hq
    rw [h5] at h6
    cases h6⟩
theorem rg_next {w : World} {X : List (List Int)} {b r n : Nat} {D : DataW Unit} {left : Lit → Bool} {cnt : Nat} (h : Rg w X b r n D left cnt) :
    ((∀ kl, left kl = false) ∧ (Instr.next (.pointer (some ⟨r, 0, none⟩)) false 0).run Try.prog w = .ok (.tuple #[.bool false]) w) ∨
    ∃ (p : Pr) (w' : World) (cnt' : Nat), okP p ∧ InX X p ∧ Maps.has D (K p) = true ∧ left (K p) = true ∧ (Instr.next (.pointer (some ⟨r, 0, none⟩)) false 0).run Try.prog w = .ok (.tuple #[.bool true, pv p, .int .i64 (cntX X p)]) w' ∧
      Rg w' X b r n D (fun z => left z && !z.sameKey (K p)) cnt' ∧ cnt' < cnt ∧ Chg (fun k => k = r) w w' ∧ w'.heap.size = w.heap.size ∧ (Instr.entry (.pointer (some ⟨r, 0, none⟩))).run Try.prog w' = .ok (.tuple #[pv p, .int .i64 (cntX X p)]) w' := by
  rcases h.rg.next key54 0 with ⟨_, h1, h2⟩ | ⟨key, v, kl, y, w', cnt', hkey, hlk, hv, hat, hrun, hrg, hlt, hg, hs, hen⟩
  · exact .inl ⟨h1, h2⟩
  · right
    obtain ⟨p, hp, hx, rfl⟩ := h.keys kl (h.left_ kl hlk)
    obtain rfl := key54.inj hkey (K_some hp)
    have h3 := h.at_ p hp
    rw [hat] at h3
    obtain ⟨g, rfl, rfl⟩ := iR_inv hv
    dsimp only at h3
    injection h3 with h3
    injection h3 with _ h3
    subst h3
    exact ⟨p, w', cnt', hp, hx, h.left_ _ hlk, hlk, hrun, ⟨hrg, h.at_, h.keys, fun kl hkl => h.left_ kl (by simp at hkl; exact hkl.1)⟩, hlt, Chg.of_grown hg (fun k hk => by injection hk with hk; exact .inl hk.symm), hs, hen⟩
/-- What stands in memory while best ranges. -/
structure Bt (w W : World) (X : List (List Int)) (b r n : Nat) (D : DataW Unit) (left : Lit → Bool) (cnt : Nat) (g0 : Nat) (bp : Pr) : Prop where
  rg : Rg W X b r n D left cnt
  k0 : Blk W g0 54 #[.int .i64 0, .int .i64 0]
  k1 : Blk W (g0 + 1) 54 #[.int .i64 bp.1, .int .i64 bp.2]
  low : Below w.heap.size w W
theorem Bt.on {w W W' : World} {X : List (List Int)} {b r n : Nat} {D : DataW Unit} {left : Lit → Bool} {cnt g0 : Nat} {bp : Pr} (h : Bt w W X b r n D left cnt g0 bp) (hb : Below W.heap.size W W') : Bt w W' X b r n D left cnt g0 bp := by
  have hc := Chg.of_below hb (fun _ => False)
  exact ⟨h.rg.kept hc id id, hc.blk h.k0 id, hc.blk h.k1 id, below_two' h.low hb⟩
theorem Bt.next {w W W' : World} {X : List (List Int)} {b r n : Nat} {D : DataW Unit} {left left' : Lit → Bool} {cnt cnt' g0 : Nat} {bp : Pr} (h : Bt w W X b r n D left cnt g0 bp) (hr : Rg W' X b r n D left' cnt') (hc : Chg (fun k => k = r) W W') (h0 : g0 + 1 < r) (hw : w.heap.size ≤ g0) : Bt w W' X b r n D left' cnt' g0 bp :=
  ⟨hr, hc.blk h.k0 (by omega), hc.blk h.k1 (by omega), hc.below h.low h.low.size (fun k hk => by omega)⟩
theorem Bt.set {w W : World} {X : List (List Int)} {b r n : Nat} {D : DataW Unit} {left : Lit → Bool} {cnt g0 : Nat} {bp : Pr} (h : Bt w W X b r n D left cnt g0 bp) (p : Pr) (h0 : g0 + 1 < r) (h1 : g0 + 1 < b) (hw : w.heap.size ≤ g0) :
    Bt w ((W.setCell ⟨g0 + 1, 0, none⟩ (.int .i64 p.1)).setCell ⟨g0 + 1, 1, none⟩ (.int .i64 p.2)) X b r n D left cnt g0 p := by
  have hc : Chg (fun k => k = g0 + 1) W ((W.setCell ⟨g0 + 1, 0, none⟩ (.int .i64 p.1)).setCell ⟨g0 + 1, 1, none⟩ (.int .i64 p.2)) :=
    ((Chg.refl (fun k => k = g0 + 1) W).set (p := ⟨g0 + 1, 0, none⟩) (.inl rfl) _).set (p := ⟨g0 + 1, 1, none⟩) (.inl rfl) _
  exact ⟨h.rg.kept hc (by omega) (by omega), hc.blk h.k0 (by omega), (h.k1.set 0 _).set 1 _, hc.below h.low h.low.size (fun k hk => by omega)⟩
/-- best's answer. -/
def BestR (w : World) (X : List (List Int)) (L : List Pr) (e : Ending) (w' : World) : Prop :=
  Below w.heap.size w w' ∧ ∃ (p : Pr) (v : Bool), e = .returned (.tuple #[.agg #[.int .i64 p.1, .int .i64 p.2], .bool v]) ∧ ((v = true ∧ IsBest X L p) ∨ (v = false ∧ NoBest X L))
theorem cand_ok {L : List Pr} {p : Pr} (h : cand L p) (hL : L.length ≤ 1000) : okP p := by
  unfold cand at h
  exact ⟨(okT_iff _).2 (by omega), (okT_iff _).2 (by omega)⟩
set_option maxHeartbeats 4000000 in
theorem best_any {B g : Nat} {L : List Pr} {X : List (List Int)} {al : Option Addr} {cl : Nat} (ht : Tab w B g L) (hL : L.length ≤ 1000) (h : LsR w al cl X) (hx : ∀ x ∈ X, ∃ y, Xps L x y) (htt : tot X ≤ 100000) :
    Calls Try.prog 31 #[.pointer (some ⟨g, 0, none⟩), .slice al X.length cl] w (BestR w X L) := by
  have HXT : Hid (∀ p, InX X p → 1 ≤ p.1 ∧ p.1 < 17 + (L.length : Int) ∧ 1 ≤ p.2 ∧ p.2 < 17 + (L.length : Int)) := Lib.hid (by
    rintro p ⟨x, hxm, h1, h2⟩
    obtain ⟨y, hy⟩ := hx x hxm
    have h3 := hy.range _ h1
    have h4 := hy.range _ h2
    exact ⟨h3.1, h3.2, h4.1, h4.2⟩)
  have HLL := Lib.hid hL
  have HTT := Lib.hid htt
  have HT := Lib.hid ht
  have HC1 : Hid (Chg (fun _ => False) w ((w.alloc (.cells #[.int .i64 0, .int .i64 0] 54)).alloc (.cells #[.int .i64 0, .int .i64 0] 54))) := Lib.hid (((Chg.refl _ _).alloc _).alloc _)
  have HCT := Lib.hid (count_any (h.on HC1.out.none) (fun x hxm t htm => by
    obtain ⟨y, hy⟩ := hx x hxm
    have := hy.range t htm
    rw [okT_iff]
    omega) htt)
  have bz0 := (Blk.new w #[.int .i64 0, .int .i64 0] 54).alloc (.cells #[.int .i64 0, .int .i64 0] 54)
  have bz1 := Blk.new (w.alloc (.cells #[.int .i64 0, .int .i64 0] 54)) #[.int .i64 0, .int .i64 0] 54
  rw [show (w.alloc (.cells #[.int .i64 0, .int .i64 0] 54)).heap.size = w.heap.size + 1 by simp] at bz1
  have hws : ((w.alloc (.cells #[.int .i64 0, .int .i64 0] 54)).alloc (.cells #[.int .i64 0, .int .i64 0] 54)).heap.size = w.heap.size + 1 + 1 := by simp
  have HWS := Lib.hid hws
  obtain ⟨n, HN⟩ : ∃ n, Hid (X.length = n) := ⟨_, Lib.hid rfl⟩
  rw [HN.out] at HCT ⊢
  have BZ0 := Lib.hid bz0
  have BZ1 := Lib.hid bz1
  clear ht h hx htt bz0 bz1 hws hL
  go_enter Try.func31, Try.ntmps31
  go_wp2_with fail
  with_reducible refine HCT.out.mono ?_
  rintro e0 w1 ⟨hb1, b, nn, hbw, rfl, hm⟩
  obtain ⟨w2, D, left, cnt, hrun, hrg, hb2, hs2, hsn⟩ := rg_start hm
  obtain ⟨r, HRR⟩ : ∃ r, Hid (w1.heap.size = r) := ⟨_, Lib.hid rfl⟩
  rw [HRR.out] at hrun hrg
  obtain ⟨g0, HG0⟩ : ∃ g0, Hid (w.heap.size = g0) := ⟨_, Lib.hid rfl⟩
  have HW12 := Lib.hid (hb1.trans (hb2.mono hb1.size))
  have HBL : Hid (Below w.heap.size w w2) := Lib.hid (HC1.out.none.trans (HW12.out.mono HC1.out.size))
  have HK0 : Hid (Blk w2 g0 54 #[.int .i64 0, .int .i64 0]) := Lib.hid (by rw [← HG0.out]; exact (HW12.out.block _ (by rw [HWS.out]; omega)).trans BZ0.out)
  have HK1 : Hid (Blk w2 (g0 + 1) 54 #[.int .i64 0, .int .i64 0]) := Lib.hid (by rw [← HG0.out]; exact (HW12.out.block _ (by rw [HWS.out]; omega)).trans BZ1.out)
  have HGE : Hid (g0 + 1 < b ∧ g0 + 1 < r ∧ r ≠ b) := Lib.hid (by
    have := HG0.out
    have h1 := HWS.out
    have h2 := hb1.size
    have h3 := HRR.out
    have h4 := hrg.rg.ne
    omega)
  have HBS : Hid (Bs X L (Seen D left) (0, 0) 1) := Lib.hid (Bs.start X L _ hsn)
  have HGW : Hid (w.heap.size ≤ g0) := Lib.hid (by have := HG0.out; omega)
  have HBT : Hid (Bt w w2 X b r nn D left cnt g0 (0, 0)) := Lib.hid ⟨hrg, HK0.out, HK1.out, HBL.out⟩
  rw [HG0.out]
  clear hb1 hb2 hs2 hsn hm hrg hbw
  go_wp2_with fail
  clear hrun
  go_loopw [7] (fun mv wr => ∃ (left : Lit → Bool) (cnt : Nat) (m : Int) (bp : Pr), mv = .int .i64 m ∧ Hid (Bt w wr X b r nn D left cnt g0 bp) ∧ Hid (Bs X L (Seen D left) bp m)) (fun _ wr => wr.rangeLeft b r)
  case atStart => exact ⟨left, cnt, 1, (0, 0), rfl, HBT, HBS⟩
  case round =>
    obtain ⟨left, cnt, m, bp, rfl, HB, HS⟩ := hrel
    rcases rg_next HB.out.rg with ⟨hdone, hrun⟩ | ⟨p, w3, cnt3, hp, hin, hhas, hleft, hrun, hrg3, hlt3, hc3, hs3, hen⟩
    · have HLAST := Lib.hid (HS.out.last (fun q hq => by
        by_cases hd : Maps.has D (K q) = true
        · exact .inl ⟨cand_ok hq HLL.out, hd, hdone _⟩
        · right
          have h1 := HB.out.rg.at_ q (cand_ok hq HLL.out)
          rw [Maps.atKey_of_not_has (by simpa using hd)] at h1
          injection h1 with h1
          injection h1 with _ h1
          omega))
      have q0 : wr.cell? ⟨g0 + 1, 0, none⟩ = some (.int .i64 bp.1) := HB.out.k1.cell 0 rfl
      have q1 : wr.cell? ⟨g0 + 1, 1, none⟩ = some (.int .i64 bp.2) := HB.out.k1.cell 1 rfl
      have z0 : wr.cell? ⟨g0, 0, none⟩ = some (.int .i64 0) := HB.out.k0.cell 0 rfl
      have z1 : wr.cell? ⟨g0, 1, none⟩ = some (.int .i64 0) := HB.out.k0.cell 1 rfl
      have f0 := HB.out.k0.frozen 0
      have f1 := HB.out.k0.frozen 1
      have HK9 := Lib.hid ((HB.out.k0.set 0 (.int .i64 bp.1)).set 1 (.int .i64 bp.2))
      have HB9 : Hid (Below w.heap.size w ((wr.setCell ⟨g0, 0, none⟩ (.int .i64 bp.1)).setCell ⟨g0, 1, none⟩ (.int .i64 bp.2))) := Lib.hid ((HB.out.low.setCell (by show w.heap.size ≤ g0; exact HGW.out) _).setCell (by show w.heap.size ≤ g0; exact HGW.out) _)
      go_wp2_with fail
      obtain ⟨W9, HW9⟩ : ∃ ww, Hid ((wr.setCell ⟨g0, 0, none⟩ (.int .i64 bp.1)).setCell ⟨g0, 1, none⟩ (.int .i64 bp.2) = ww) := ⟨_, Lib.hid rfl⟩
      rw [HW9.out] at HK9 HB9 ⊢
      clear q0 q1 z0 z1 f0 f1 hrun
      have r0 : W9.cell? ⟨g0, 0, none⟩ = some (.int .i64 bp.1) := HK9.out.cell 0 rfl
      have r1 : W9.cell? ⟨g0, 1, none⟩ = some (.int .i64 bp.2) := HK9.out.cell 1 rfl
      refine bodyPost_ret (v := .tuple #[.agg #[.int .i64 bp.1, .int .i64 bp.2], .bool (decide (1 < m))]) (by simp [results, Try.results31, go_sem, r0, r1]) rfl ⟨HB9.out, bp, _, rfl, ?_⟩
      rcases HLAST.out with ⟨h1, h2⟩ | ⟨h1, h2⟩
      · exact .inr ⟨by simp; omega, h2⟩
      · exact .inl ⟨by simp; omega, h2⟩
    · obtain ⟨px, py⟩ := p
      have HR3 := Lib.hid (HB.out.next hrg3 hc3 HGE.out.2.1 HGW.out)
      have HR4 := Lib.hid (HR3.out.on (W' := w3.alloc (.cells #[.int .i64 px, .int .i64 py] 54)) ((Below.refl _ _).alloc (Nat.le_refl _) _))
      have HLE : Hid (cnt3 < wr.rangeLeft b r) := Lib.hid (by rw [HB.out.rg.rg.left_eq]; exact hlt3)
      have HSS := Lib.hid (seen_step (left := left) hp hhas)
      have HNS : Hid (¬ Seen D left (px, py)) := Lib.hid (fun h => by have := h.2.2; rw [hleft] at this; cases this)
      have hci := cntX_in X (px, py)
      obtain ⟨v, HVV⟩ : ∃ v, Hid (cntX X (px, py) = v) := ⟨_, Lib.hid rfl⟩
      rw [HVV.out] at hrun hen hci
      have hv0 := hci.1
      have hv1 : v ≤ 100000 := by have := HTT.out; omega
      unfold pv at hrun hen
      dsimp only at hrun hen
      have hr := HXT.out _ hin
      obtain ⟨hr1, hr2, hr3, hr4⟩ := hr
      dsimp only at hr1 hr2 hr3 hr4
      have bz := Blk.new w3 #[.int .i64 px, .int .i64 py] 54
      have HT4 := Lib.hid (HT.out.on HR4.out.low)
      obtain ⟨am, cm, sa, sc, bm, htb⟩ := HT4.out
      have c2 : (w3.alloc (.cells #[.int .i64 px, .int .i64 py] 54)).cell? ⟨g, 2, none⟩ = some (.slice sa (17 + L.length) sc) := htb.blk.cell 2 rfl
      obtain ⟨b1, o1, hb1, e1, l1, cx⟩ := size_at htb.sz.rd hr1 hr2
      obtain ⟨b1', o1', hb1', e2, l2, cy⟩ := size_at htb.sz.rd hr3 hr4
      subst hb1
      injection hb1' with hb1'
      injection hb1' with e3 e4
      subst e3 e4
      obtain ⟨sx, HSX⟩ : ∃ s, Hid (szG (szs L) px = s) := ⟨_, Lib.hid rfl⟩
      obtain ⟨sy, HSY⟩ : ∃ s, Hid (szG (szs L) py = s) := ⟨_, Lib.hid rfl⟩
      have hsx := szG_in L px
      have hsy := szG_in L py
      rw [HSX.out] at cx hsx
      rw [HSY.out] at cy hsy
      have hsx0 := hsx.1
      have hsx1 := hsx.2
      have hsy0 := hsy.1
      have hsy1 := hsy.2
      have HCD : Hid (cand L (px, py) ↔ sx + sy ≤ 64) := Lib.hid (by
        unfold cand
        dsimp only
        rw [HSX.out, HSY.out]
        exact ⟨fun h => h.2.2.2.2, fun h => ⟨hr1, hr2, hr3, hr4, h⟩⟩)
      obtain ⟨xn, rfl⟩ : ∃ xn : Nat, px = xn := ⟨px.toNat, e1.symm⟩
      obtain ⟨yn, rfl⟩ : ∃ yn : Nat, py = yn := ⟨py.toNat, e2.symm⟩
      rw [Int.toNat_natCast] at cx cy
      obtain ⟨V, HVN⟩ : ∃ V, Hid (17 + L.length = V) := ⟨_, Lib.hid rfl⟩
      rw [HVN.out] at c2 l1 l2
      have x0 : (0 : Int) ≤ (xn : Int) := by omega
      have y0 : (0 : Int) ≤ (yn : Int) := by omega
      have hsum : IntKind.i64.wrap (sx + sy) = sx + sy := IntWalk.i64_in _ (by omega)
      have HMG := Lib.hid HS.out.ge
      clear e1 e2 hsx hsy hr1 hr2 hr3 hr4 htb hci hp hin hhas hleft hrg3 hlt3 hc3 hs3
      go_upto_region 6 with (fail)
      clear hrun hen
      obtain ⟨wp, HWP⟩ : ∃ ww, Hid (w3.alloc (.cells #[.int .i64 (xn : Int), .int .i64 (yn : Int)] 54) = ww) := ⟨_, Lib.hid rfl⟩
      obtain ⟨gp, HGP⟩ : ∃ gg, Hid (w3.heap.size = gg) := ⟨_, Lib.hid rfl⟩
      rw [HWP.out, HGP.out] at bz
      rw [HWP.out] at HR4 c2 cx cy
      rw [HWP.out, HGP.out]
      have BZ := Lib.hid bz
      have p0 : wp.cell? ⟨gp, 0, none⟩ = some (.int .i64 (xn : Int)) := bz.cell 0 rfl
      have p1 : wp.cell? ⟨gp, 1, none⟩ = some (.int .i64 (yn : Int)) := bz.cell 1 rfl
      clear bz
      go_big_quiet (fail)
      clear cx cy p0 p1 c2 hsum
      have HRQ := Lib.hid (HR4.out.on (W' := wp.drewN nq) (below_drewN (Below.refl _ _) nq))
      have BQ := Lib.hid (BZ.out.drewN nq)
      obtain ⟨wq, HWQ⟩ : ∃ ww, Hid (wp.drewN nq = ww) := ⟨_, Lib.hid rfl⟩
      rw [HWQ.out] at HRQ BQ ⊢
      clear HWQ
      by_cases hbig : 64 < sx + sy
      · have hdc : decide (64 < sx + sy) = true := by simp; exact hbig
        have HS2 := Lib.hid (HS.out.pass HSS.out (fun h => absurd (HCD.out.1 h) (by omega)))
        go_wp2_with fail
        go_roundw
        case rel => exact ⟨_, cnt3, m, bp, rfl, HRQ, HS2⟩
        case measure => rw [HRQ.out.rg.rg.left_eq]; exact HLE.out
      · have hdc : decide (64 < sx + sy) = false := by simp; omega
        have HCA := Lib.hid (HCD.out.2 (by omega))
        have hle : sx + sy ≤ 64 := by omega
        have p0 : wq.cell? ⟨gp, 0, none⟩ = some (.int .i64 (xn : Int)) := BQ.out.cell 0 rfl
        have p1 : wq.cell? ⟨gp, 1, none⟩ = some (.int .i64 (yn : Int)) := BQ.out.cell 1 rfl
        have q0 : wq.cell? ⟨g0 + 1, 0, none⟩ = some (.int .i64 bp.1) := HRQ.out.k1.cell 0 rfl
        have q1 : wq.cell? ⟨g0 + 1, 1, none⟩ = some (.int .i64 bp.2) := HRQ.out.k1.cell 1 rfl
        have f0 := HRQ.out.k1.frozen 0
        have f1 := HRQ.out.k1.frozen 1
        clear hbig
        by_cases h1 : m < v
        · have hd1 : decide (m < v) = true := by simp; exact h1
          have HS2 := Lib.hid (HS.out.take_ HCA.out HSS.out (.inl (by rw [HVV.out]; exact h1)))
          have HF := Lib.hid (HRQ.out.set ((xn : Int), (yn : Int)) HGE.out.2.1 HGE.out.1 HGW.out)
          rw [HVV.out] at HS2
          dsimp only at HF
          go_wp2_with fail
          obtain ⟨W9, HW9⟩ : ∃ ww, Hid ((wq.setCell ⟨g0 + 1, 0, none⟩ (.int .i64 (xn : Int))).setCell ⟨g0 + 1, 1, none⟩ (.int .i64 (yn : Int)) = ww) := ⟨_, Lib.hid rfl⟩
          rw [HW9.out] at HF ⊢
          clear p0 p1 q0 q1 f0 f1 h1 hd1 hdc
          go_roundw
          case rel => exact ⟨_, cnt3, v, _, rfl, HF, HS2⟩
          case measure => rw [HF.out.rg.rg.left_eq]; exact HLE.out
        · have hd1 : decide (m < v) = false := by simp; omega
          have hl1 : v ≤ m := by omega
          by_cases h2 : v = m
          · subst h2
            clear hl1
            by_cases h3 : 1 < v
            · have hd3 : decide (1 < v) = true := by simp; exact h3
              by_cases h4 : lex ((xn : Int), (yn : Int)) bp
              · have HBY := Lib.hid (before_yes (w := wq) (x := xn) (y := yn) (a := bp.1) (b := bp.2) h4)
                have HS2 := Lib.hid (HS.out.take_ HCA.out HSS.out (.inr ⟨h3, by rw [HVV.out], h4⟩))
                rw [HVV.out] at HS2
                clear h1 h4
                go_wp2_with fail
                with_reducible refine HBY.out.mono ?_
                rintro e w7 ⟨rfl, hb7⟩
                have HR7 := Lib.hid (HRQ.out.on hb7)
                have HB7 : Hid (Blk w7 gp 54 #[.int .i64 (xn : Int), .int .i64 (yn : Int)]) := Lib.hid ((hb7.block _ BQ.out.lt).trans BQ.out)
                clear p0 p1 q0 q1 f0 f1 hb7
                have p0 : w7.cell? ⟨gp, 0, none⟩ = some (.int .i64 (xn : Int)) := HB7.out.cell 0 rfl
                have p1 : w7.cell? ⟨gp, 1, none⟩ = some (.int .i64 (yn : Int)) := HB7.out.cell 1 rfl
                have q0 : w7.cell? ⟨g0 + 1, 0, none⟩ = some (.int .i64 bp.1) := HR7.out.k1.cell 0 rfl
                have q1 : w7.cell? ⟨g0 + 1, 1, none⟩ = some (.int .i64 bp.2) := HR7.out.k1.cell 1 rfl
                have f0 := HR7.out.k1.frozen 0
                have f1 := HR7.out.k1.frozen 1
                have HF := Lib.hid (HR7.out.set ((xn : Int), (yn : Int)) HGE.out.2.1 HGE.out.1 HGW.out)
                dsimp only at HF
                go_wp2_with fail
                obtain ⟨W9, HW9⟩ : ∃ ww, Hid ((w7.setCell ⟨g0 + 1, 0, none⟩ (.int .i64 (xn : Int))).setCell ⟨g0 + 1, 1, none⟩ (.int .i64 (yn : Int)) = ww) := ⟨_, Lib.hid rfl⟩
                rw [HW9.out] at HF ⊢
                clear p0 p1 q0 q1 f0 f1 hd1 hdc hd3
                go_roundw
                case rel => exact ⟨_, cnt3, v, _, rfl, HF, HS2⟩
                case measure => rw [HF.out.rg.rg.left_eq]; exact HLE.out
              · have HBY := Lib.hid (before_no (w := wq) (x := xn) (y := yn) (a := bp.1) (b := bp.2) h4)
                have HS2 := Lib.hid (HS.out.pass HSS.out (fun _ => .inr ⟨by rw [HVV.out], .inr (by
                  rcases lex_tri bp ((xn : Int), (yn : Int)) with h5 | h5 | h5
                  · exact h5
                  · refine absurd ?_ HNS.out
                    rcases HS.out with ⟨h6, _⟩ | ⟨_, _, h6, _⟩
                    · omega
                    · rw [← h5]; exact h6
                  · exact absurd h5 h4)⟩))
                clear h1 h4
                go_wp2_with fail
                with_reducible refine HBY.out.mono ?_
                rintro e w7 ⟨rfl, hb7⟩
                have HR7 := Lib.hid (HRQ.out.on hb7)
                clear p0 p1 q0 q1 f0 f1 hb7
                go_wp2_with fail
                clear hd1 hdc hd3
                go_roundw
                case rel => exact ⟨_, cnt3, v, bp, rfl, HR7, HS2⟩
                case measure => rw [HR7.out.rg.rg.left_eq]; exact HLE.out
            · have hd3 : decide (1 < v) = false := by simp; omega
              have hl3 : v ≤ 1 := by omega
              have HS2 := Lib.hid (HS.out.pass HSS.out (fun _ => .inr ⟨by rw [HVV.out], .inl (by have := HMG.out; omega)⟩))
              clear h1
              go_wp2_with fail
              clear p0 p1 q0 q1 f0 f1 hd1 hdc hd3
              go_roundw
              case rel => exact ⟨_, cnt3, v, bp, rfl, HRQ, HS2⟩
              case measure => rw [HRQ.out.rg.rg.left_eq]; exact HLE.out
          · have hd2 : ((v : Int) == m) = false := by simp [h2]
            have HS2 := Lib.hid (HS.out.pass HSS.out (fun _ => .inl (by rw [HVV.out]; omega)))
            clear h1 h2
            go_wp2_with fail
            clear p0 p1 q0 q1 f0 f1 hd1 hdc hd2
            go_roundw
            case rel => exact ⟨_, cnt3, m, bp, rfl, HRQ, HS2⟩
            case measure => rw [HRQ.out.rg.rg.left_eq]; exact HLE.out
end
end Go.Proofs.Ytlndhmkkffcbnaa.TlB
