/-
  add: a merge is added.
-/
import Derived.Test.YtlndhmkkffcbnaaTkW
import Derived.Test.YtlndhmkkffcbnaaTkE
namespace Go.Proofs.Ytlndhmkkffcbnaa.TkA
open Go.RowKit Go.Proofs.Ytlndhmkkffcbnaa.Kit Go.Proofs.Ytlndhmkkffcbnaa.TkM Go.Proofs.Ytlndhmkkffcbnaa.TkP Go.Proofs.Ytlndhmkkffcbnaa.TkQ Go.Proofs.Ytlndhmkkffcbnaa.TkW Go.Proofs.Ytlndhmkkffcbnaa.TkE
attribute [local go_sem high] max_imax min_imin
attribute [local go_sem ↓] Go.wp_at_zero Go.wp_at_succ
set_option linter.unusedVariables false

theorem el24 : ElemT Try.prog 24 3 1 8 := by
  refine ⟨Try.underlying24, ?_⟩
  have h : (Try.prog.info? 3).map (fun i => (i.zero, i.size, i.bytes)) = some (some (.int .i64 0), 1, 8) := by kernel_rfl
  cases hi : Try.prog.info? 3 with
  | none => rw [hi] at h; simp at h
  | some i =>
    rw [hi] at h
    simp at h
    exact ⟨i, _, rfl, h.1, h.2.1, h.2.2, rfl⟩
theorem el30 : ElemT Try.prog 30 54 2 16 := by
  refine ⟨Try.underlying30, ?_⟩
  have h : (Try.prog.info? 54).map (fun i => (i.zero, i.size, i.bytes)) = some (some (.agg #[.int .i64 0, .int .i64 0]), 2, 16) := by kernel_rfl
  cases hi : Try.prog.info? 54 with
  | none => rw [hi] at h; simp at h
  | some i =>
    rw [hi] at h
    simp at h
    exact ⟨i, _, rfl, h.1, h.2.1, h.2.2, rfl⟩

/-- A table whose parts are on the way. -/
structure Ts (w : World) (B g : Nat) (L S : List Value) (k : Nat) (f : Pr → Int) (a : Option Addr) (n c : Nat) (sa : Option Addr) (sn sc bm gp : Nat) (p : Pr) : Prop where
  blk : Blk w g 63 #[.slice a n c, .map (some bm), .slice sa sn sc]
  ms : Own w B 54 2 a n c L
  sz : Own w B 3 1 sa sn sc S
  mp : MapP w bm k f
  pr : Blk w gp 54 #[.int .i64 p.1, .int .i64 p.2]
  low : B ≤ g
  mlow : B ≤ bm
  plow : B ≤ gp
  apart : ob a ≠ some gp

section
variable {w w' : World} {B g k n c sn sc bm gp : Nat} {L S : List Value} {f : Pr → Int} {a sa : Option Addr} {p : Pr}
theorem Ts.on (h : Ts w B g L S k f a n c sa sn sc bm gp p) (hb : Below w.heap.size w w') : Ts w' B g L S k f a n c sa sn sc bm gp p := by
  have hc := Chg.of_below hb (fun _ => False)
  exact ⟨hc.blk h.blk id, h.ms.chg hc (fun _ _ => id), h.sz.chg hc (fun _ _ => id), h.mp.chg hc id, hc.blk h.pr id, h.low, h.mlow, h.plow, h.apart⟩
theorem map_ne {w : World} {b g : Nat} {t : TypeId} {cs : Array Value} {k : Nat} {f : Pr → Int} (h : MapP w b k f) (hb : Blk w g t cs) : b ≠ g := by
  rintro rfl
  obtain ⟨es, q, he⟩ := h.at_
  rw [show w.heap[b]? = _ from hb] at he
  cases he
theorem map_ob {w : World} {b : Nat} {k B n c : Nat} {e : TypeId} {size : Nat} {f : Pr → Int} {a : Option Addr} {xs : List Value} (h : MapP w b k f) (ho : Own w B e size a n c xs) : ob a ≠ some b := by
  intro hb
  rcases ho.form.2 with ⟨rfl, _⟩ | ⟨g, cur, rfl, _, hg, _⟩
  · cases hb
  · have : g = b := by injection hb
    subst this
    obtain ⟨es, q, he⟩ := h.at_
    rw [hg] at he
    cases he
theorem own_ob {w : World} {B n c n' c' : Nat} {e e' : TypeId} {s s' : Nat} {a a' : Option Addr} {xs xs' : List Value} (h : Own w B e s a n c xs) (h' : Own w B e' s' a' n' c' xs') (hne : e ≠ e') : ∀ x, ob a = some x → ob a' ≠ some x := by
  intro x hx
  rcases h.form.2 with ⟨rfl, _⟩ | ⟨g, cur, rfl, _, hg, _⟩
  · cases hx
  · have : g = x := by injection hx
    subst this
    exact h'.ne (show Blk w g e cur from hg) (fun e => hne e.symm)
/-- The map has one entry more. -/
theorem Ts.stored (h : Ts w B g L S k f a n c sa sn sc bm gp p) {k' : Nat} {f' : Pr → Int} (hm : MapP w' bm k' f') (hc : Chg (fun i => i = bm) w w') : Ts w' B g L S k' f' a n c sa sn sc bm gp p :=
  ⟨hc.blk h.blk (map_ne h.mp h.blk).symm, h.ms.chg hc (fun x hx e => map_ob h.mp h.ms (by rw [hx, e])), h.sz.chg hc (fun x hx e => map_ob h.mp h.sz (by rw [hx, e])), hm, hc.blk h.pr (map_ne h.mp h.pr).symm, h.low, h.mlow, h.plow, h.apart⟩

/-- The merges are appended to. -/
theorem Ts.push (h : Ts w B g L S k f a n c sa sn sc bm gp p) {a9 : Option Addr} {n9 c9 : Nat} {M : List Value} (ho : Own w' B 54 2 a9 n9 c9 M) (hg : w.grownBy w' (ob a)) (ha : ob a9 = ob a ∨ ob a9 = some w.heap.size) :
    Ts (w'.setCell ⟨g, 0, none⟩ (.slice a9 n9 c9)) B g M S k f a9 n9 c9 sa sn sc bm gp p ∧ Chg (fun i => i = g ∨ ob a = some i) w (w'.setCell ⟨g, 0, none⟩ (.slice a9 n9 c9)) := by
  have hc := Chg.of_grown' hg
  have h1 : ob a ≠ some g := h.ms.ne h.blk (by decide)
  have h2 : ∀ x, ob a = some x → ob sa ≠ some x := own_ob h.ms h.sz (by decide)
  have h3 : ob sa ≠ some g := h.sz.ne h.blk (by decide)
  have h4 := map_ob h.mp h.ms
  have h5 := map_ne h.mp h.blk
  have h6 := h.blk.ne h.pr (by decide)
  have b9 := hc.blk h.blk h1
  have h7 : ob a9 ≠ some g := by
    rcases ha with e | e <;> rw [e]
    · exact h1
    · have := h.blk.lt
      intro e; injection e with e; omega
  have hs : Chg (fun i => i = g) w' (w'.setCell ⟨g, 0, none⟩ (.slice a9 n9 c9)) := (Chg.refl (fun i => i = g) w').set (p := ⟨g, 0, none⟩) (.inl rfl) _
  refine ⟨⟨b9.set 0 _, ho.chg hs (fun x hx e => h7 (by rw [hx, e])), (h.sz.chg hc (fun x hx e => h2 x e hx)).chg hs (fun x hx e => h3 (by rw [hx, e])), (h.mp.chg hc h4).chg hs h5, hs.blk (hc.blk h.pr h.apart) (fun e => h6 e.symm), h.low, h.mlow, h.plow, ?_⟩, ?_⟩
  · rcases ha with e | e <;> rw [e]
    · exact h.apart
    · have := h.pr.lt
      intro e; injection e with e; omega
  · exact (hc.mono (fun i _ e => .inr e)).then hs (fun i _ e => .inl e)
/-- The sizes are appended to. -/
theorem Ts.push2 (h : Ts w B g L S k f a n c sa sn sc bm gp p) {a9 : Option Addr} {n9 c9 : Nat} {M : List Value} (ho : Own w' B 3 1 a9 n9 c9 M) (hg : w.grownBy w' (ob sa)) (ha : ob a9 = ob sa ∨ ob a9 = some w.heap.size) :
    Ts (w'.setCell ⟨g, 2, none⟩ (.slice a9 n9 c9)) B g L M k f a n c a9 n9 c9 bm gp p ∧ Chg (fun i => i = g ∨ ob sa = some i) w (w'.setCell ⟨g, 2, none⟩ (.slice a9 n9 c9)) := by
  have hc := Chg.of_grown' hg
  have h1 : ob a ≠ some g := h.ms.ne h.blk (by decide)
  have h2 : ∀ x, ob a = some x → ob sa ≠ some x := own_ob h.ms h.sz (by decide)
  have h3 : ob sa ≠ some g := h.sz.ne h.blk (by decide)
  have h4 := map_ob h.mp h.sz
  have h5 := map_ne h.mp h.blk
  have h6 := h.blk.ne h.pr (by decide)
  have h8 : ob sa ≠ some gp := h.sz.ne h.pr (by decide)
  have b9 := hc.blk h.blk h3
  have h7 : ob a9 ≠ some g := by
    rcases ha with e | e <;> rw [e]
    · exact h3
    · have := h.blk.lt
      intro e; injection e with e; omega
  have hs : Chg (fun i => i = g) w' (w'.setCell ⟨g, 2, none⟩ (.slice a9 n9 c9)) := (Chg.refl (fun i => i = g) w').set (p := ⟨g, 2, none⟩) (.inl rfl) _
  refine ⟨⟨b9.set 2 _, (h.ms.chg hc (fun x hx e => h2 x hx e)).chg hs (fun x hx e => h1 (by rw [hx, e])), ho.chg hs (fun x hx e => h7 (by rw [hx, e])), (h.mp.chg hc h4).chg hs h5, hs.blk (hc.blk h.pr h8) (fun e => h6 e.symm), h.low, h.mlow, h.plow, h.apart⟩, ?_⟩
  exact (hc.mono (fun i _ e => .inr e)).then hs (fun i _ e => .inl e)

def AddR (w : World) (B g : Nat) (L : List Pr) (bm : Nat) (p : Pr) (e : Ending) (w' : World) : Prop :=
  (okAt L p ∧ e = .returned (.bool true) ∧ (∃ a c sa sc, Tb w' B g (L ++ [p]) a c sa sc bm) ∧ Below B w w') ∨ (¬ okAt L p ∧ e = .returned (.bool false) ∧ Below w.heap.size w w')

set_option maxHeartbeats 2000000 in
theorem add_any {L : List Pr} (h : Tb w B g L a c sa sc bm) (hB : B ≤ w.heap.size) {p : Pr} (hp : okP p) (hl : L.length ≤ 1000) :
    Calls Try.prog 23 #[.pointer (some ⟨g, 0, none⟩), .agg #[.int .i64 p.1, .int .i64 p.2]] w (AddR w B g L bm p) := by
  obtain ⟨x, y⟩ := p
  have hx := (okT_iff x).1 hp.1
  have hy := (okT_iff y).1 hp.2
  have hb1 := (Below.refl w.heap.size w).alloc (Nat.le_refl _) (.cells #[.int .i64 x, .int .i64 y] 54)
  have z1 := Blk.new w #[.int .i64 x, .int .i64 y] 54
  have hT : Ts (w.alloc (.cells #[.int .i64 x, .int .i64 y] 54)) B g (prs L) (ints (szs L)) L.length (tk 0 L) a L.length c sa (17 + L.length) sc bm w.heap.size (x, y) := by
    have h1 := h.on hb1
    exact ⟨h1.blk, h1.ms, h1.sz, h1.mp, z1, h.low, h.mlow, hB, fun e => by have := (h.ms.lt _ e).2; omega⟩
  obtain ⟨Z, HZ⟩ : ∃ Z, Hid (w.alloc (.cells #[.int .i64 x, .int .i64 y] 54) = Z) := ⟨_, rfl⟩
  rw [HZ.out] at hT hb1
  obtain ⟨gp, HGP⟩ : ∃ gp, Hid (w.heap.size = gp) := ⟨_, rfl⟩
  rw [HGP.out] at hT
  obtain ⟨ln, HLN⟩ : ∃ ln, Hid (L.length = ln) := ⟨_, rfl⟩
  obtain ⟨N, HN⟩ : ∃ N, Hid (17 + ln = N) := ⟨_, rfl⟩
  obtain ⟨tv, HTV⟩ : ∃ tv, Hid (tk 0 L (x, y) = tv) := ⟨_, rfl⟩
  have hlook := (hT.on (below_drew (Below.refl _ _))).mp.look hp
  rw [HTV.out] at hlook
  unfold pv at hlook
  dsimp only at hlook
  have c0 : Z.cell? ⟨g, 0, none⟩ = some (.slice a ln c) := by rw [← HLN.out]; exact hT.blk.cell 0 rfl
  have c1 : Z.cell? ⟨g, 1, none⟩ = some (.map (some bm)) := hT.blk.cell 1 rfl
  have c2 : Z.cell? ⟨g, 2, none⟩ = some (.slice sa N sc) := by rw [← HN.out, ← HLN.out]; exact hT.blk.cell 2 rfl
  have p0 : Z.cell? ⟨gp, 0, none⟩ = some (.int .i64 x) := hT.pr.cell 0 rfl
  have p1 : Z.cell? ⟨gp, 1, none⟩ = some (.int .i64 y) := hT.pr.cell 1 rfl
  have HT := Lib.hid hT
  have HL1 := Lib.hid hb1
  have HOK : Hid (okAt L (x, y) ↔ 1 ≤ x ∧ x < (N : Int) ∧ 1 ≤ y ∧ y < (N : Int) ∧ ¬ tv > 0) := Lib.hid (by
    unfold okAt
    rw [HLN.out]
    have hN := HN.out
    have e1 : (17 : Int) + (ln : Int) = (N : Int) := by omega
    dsimp only
    rw [e1]
    constructor
    · rintro ⟨h1, h2, h3, h4, h5⟩
      exact ⟨h1, h2, h3, h4, by rw [← HTV.out, tk_none h5]; omega⟩
    · rintro ⟨h1, h2, h3, h4, h5⟩
      refine ⟨h1, h2, h3, h4, fun hm => h5 ?_⟩
      obtain ⟨i, hi, _⟩ := tk_mem (k := 0) hm
      rw [← HTV.out, hi]
      omega)
  have HTB := Lib.hid h
  have HZ' := HZ.out
  have HGP' := HGP.out
  have HLL : Hid (ln ≤ 1000) := Lib.hid (by rw [← HLN.out]; exact hl)
  clear h hT hb1 z1 HZ hl
  have BAD : Hid (∀ n, ¬ okAt L (x, y) → AddR w B g L bm (x, y) (.returned (.bool false)) (Z.drewN n)) := Lib.hid (fun n hn => .inr ⟨hn, rfl, below_drewN HL1.out n⟩)
  go_enter Try.func23, Try.ntmps23
  go_upto_region 2 with (fail)
  by_cases h1 : x < 1
  · have HB := Lib.hid (fun n => BAD.out n (fun h => by have := HOK.out.1 h; omega))
    clear hlook
    go_big_quiet (fail)
    go_wp2_with fail
    go_ret
    exact HB.out _
  · by_cases h2 : (N : Int) ≤ x
    · have HB := Lib.hid (fun n => BAD.out n (fun h => by have := HOK.out.1 h; omega))
      clear hlook
      go_big_quiet (fail)
      go_wp2_with fail
      go_ret
      exact HB.out _
    · by_cases h3 : y < 1
      · have HB := Lib.hid (fun n => BAD.out n (fun h => by have := HOK.out.1 h; omega))
        clear hlook
        go_big_quiet (fail)
        go_wp2_with fail
        go_ret
        exact HB.out _
      · by_cases h4 : (N : Int) ≤ y
        · have HB := Lib.hid (fun n => BAD.out n (fun h => by have := HOK.out.1 h; omega))
          clear hlook
          go_big_quiet (fail)
          go_wp2_with fail
          go_ret
          exact HB.out _
        · by_cases h5 : 0 < tv
          · have HB := Lib.hid (fun n => BAD.out n (fun h => by have := HOK.out.1 h; omega))
            go_region
            go_wp2_with fail
            go_ret
            exact HB.out 1
          · have HGO := Lib.hid (HOK.out.2 ⟨by omega, by omega, by omega, by omega, h5⟩)
            go_region
            go_upto_region 4 with (fail)
            have hT2 := HT.out.on (w' := Z.drew.drew) (below_drew (below_drew (Below.refl _ _)))
            obtain ⟨w5, hrun, hm5, hc5⟩ := hT2.mp.store hp (by rw [HLN.out]; have := HLL.out; unfold maxLen; omega) (N : Int)
            unfold pv at hrun
            dsimp only at hrun
            have HT5 := Lib.hid (hT2.stored hm5 hc5)
            have HC5 := Lib.hid (hc5.below (below_drew (below_drew (HL1.out.mono hB))) (by have := HL1.out.size; show B ≤ Z.heap.size; omega) (fun i hi => by have := HT.out.mlow; omega))
            clear hlook hT2 hm5 hc5
            go_region
            clear hrun c0 c1 c2 p0 p1 h1 h2 h3 h4 h5
            rw [HLN.out, HN.out] at HT5
            have c0 : w5.cell? ⟨g, 0, none⟩ = some (.slice a ln c) := HT5.out.blk.cell 0 rfl
            have c2 : w5.cell? ⟨g, 2, none⟩ = some (.slice sa N sc) := HT5.out.blk.cell 2 rfl
            have p0 : w5.cell? ⟨gp, 0, none⟩ = some (.int .i64 x) := HT5.out.pr.cell 0 rfl
            have p1 : w5.cell? ⟨gp, 1, none⟩ = some (.int .i64 y) := HT5.out.pr.cell 1 rfl
            go_upto_region 5 with (fail)
            go_cut [] from 46 to 55 (fun wx => ∃ (a9 : Option Addr) (c9 : Nat), Hid (Ts wx B g (prs (L ++ [(x, y)])) (ints (szs L)) (ln + 1) (fun m => if (x, y) = m then ↑N else tk 0 L m) a9 (ln + 1) c9 sa N sc bm gp (x, y)) ∧ Hid (Below B w wx))
            case first =>
              have HTX := Lib.hid (HT5.out.on (w' := w5.drew.alloc (.cells #[.int .i64 x, .int .i64 y] 54)) ((below_drew (Below.refl _ _)).alloc (Nat.le_refl _) _))
              have HRX := Lib.hid (Own.made (B := w5.drew.heap.size) (size := 2) w5.drew #[.int .i64 x, .int .i64 y] 54 1 (Nat.le_refl _) (by unfold maxLen; omega) rfl).rd
              have H1C : Hid (∀ u ∈ [Value.int .i64 x, Value.int .i64 y], u.oneCell' = true) := Lib.hid (by simp [Value.oneCell'])
              have HNE := Lib.hid (show ob a ≠ some g from HT5.out.ms.ne HT5.out.blk (by decide))
              have HBW : Hid (B ≤ w5.heap.size) := Lib.hid (by have := HC5.out.size; have := HT5.out.low; have := HT5.out.blk.lt; omega)
              have d0 : (w5.alloc (.cells #[.int .i64 x, .int .i64 y] 54)).cell? ⟨g, 0, none⟩ = some (.slice a ln c) := HTX.out.blk.cell 0 rfl
              go_region_law (refine step_app el30 (by omega) (by rfl) (.tmp 50) (.tmp 52) (by rfl) (by rfl) HTX.out.ms (by rfl) HRX.out H1C.out (by have := HLL.out; omega) (by have := HLL.out; omega) (by have := HBW.out; simp; omega) ?_; intro a9 c9 w9 ho9 hg9 ha9; have b9 := (Chg.of_grown' hg9).blk HTX.out.blk HNE.out; have u0 : w9.cell? ⟨g, 0, none⟩ = some (.slice a ln c) := b9.cell 0 rfl; have v0 := b9.frozen 0; have HO9 := Lib.hid ho9; have HG9 := Lib.hid hg9; have HA9 := Lib.hid ha9; clear ho9 hg9 ha9 b9)
              all_goals
                obtain ⟨hT6, hc6⟩ := HTX.out.push HO9.out HG9.out HA9.out
                go_wp2
                go_meet
                refine ⟨a9, c9, Lib.hid ?_, Lib.hid (hc6.below (((below_drew HC5.out)).alloc HBW.out _) (by have := HBW.out; simp; omega) (fun i hi => ?_))⟩
                · rw [prs_append]
                  exact hT6
                · rcases hi with rfl | hi
                  · exact HT5.out.low
                  · exact (HT5.out.ms.lt i hi).1
            case rest =>
              obtain ⟨a9, c9, HT6, HC6⟩ := hcut
              clear c0 c2 p0 p1
              have hgo := HGO.out
              unfold okAt at hgo
              dsimp only at hgo
              rw [HLN.out] at hgo
              have hN := HN.out
              obtain ⟨xn, rfl⟩ : ∃ n : Nat, x = n := ⟨x.toNat, by omega⟩
              obtain ⟨yn, rfl⟩ : ∃ n : Nat, y = n := ⟨y.toNat, by omega⟩
              obtain ⟨b0, off, ux, rfl, hux, hcx⟩ := HT6.out.sz.rd.get (k := xn) (by omega)
              obtain ⟨sx, hsx, rfl⟩ := ints_get hux
              obtain ⟨b0', off', uy, hb0, huy, hcy⟩ := HT6.out.sz.rd.get (k := yn) (by omega)
              obtain ⟨sy, hsy, rfl⟩ := ints_get huy
              injection hb0 with hb0
              injection hb0 with hb0 ho0
              subst hb0 ho0
              have hs0 := szs_in L sx (List.mem_of_getElem? hsx)
              have hs1 := szs_in L sy (List.mem_of_getElem? hsy)
              have HSN : Hid (szN (szs L) ((xn : Int), (yn : Int)) = imin (sx + sy) 1048576) := Lib.hid (by
                unfold szN szG
                dsimp only
                rw [List.getD_eq_getElem?_getD, List.getD_eq_getElem?_getD, Int.toNat_natCast, Int.toNat_natCast, hsx, hsy]
                rfl)
              have c2 : wc.cell? ⟨g, 2, none⟩ = some (.slice (some ⟨b0, off, none⟩) N sc) := HT6.out.blk.cell 2 rfl
              have p0 : wc.cell? ⟨gp, 0, none⟩ = some (.int .i64 (xn : Int)) := HT6.out.pr.cell 0 rfl
              have p1 : wc.cell? ⟨gp, 1, none⟩ = some (.int .i64 (yn : Int)) := HT6.out.pr.cell 1 rfl
              have x0 : (0 : Int) ≤ (xn : Int) := by omega
              have x1 : (xn : Int) < (N : Int) := by omega
              have y0 : (0 : Int) ≤ (yn : Int) := by omega
              have y1 : (yn : Int) < (N : Int) := by omega
              clear hux huy hsx hsy hgo hN
              go_upto_region 6 with (fail)
              have sw : IntKind.i64.wrap (sx + sy) = sx + sy := IntWalk.i64_in _ (by omega)
              have HTX := Lib.hid (HT6.out.on (w' := wc.drew.alloc (.cells #[.int .i64 (imin (sx + sy) 1048576)] 3)) ((below_drew (Below.refl _ _)).alloc (Nat.le_refl _) _))
              have HRX := Lib.hid (Own.made (B := wc.drew.heap.size) (size := 1) wc.drew #[.int .i64 (imin (sx + sy) 1048576)] 3 1 (Nat.le_refl _) (by unfold maxLen; omega) rfl).rd
              have H1C : Hid (∀ u ∈ [Value.int .i64 (imin (sx + sy) 1048576)], u.oneCell' = true) := Lib.hid (by simp [Value.oneCell'])
              have HNE := Lib.hid (show ob (some ⟨b0, off, none⟩) ≠ some g from HT6.out.sz.ne HT6.out.blk (by decide))
              have HBW : Hid (B ≤ wc.heap.size) := Lib.hid (by have := HT6.out.low; have := HT6.out.blk.lt; omega)
              have d2 : (wc.alloc (.cells #[.int .i64 (imin (sx + sy) 1048576)] 3)).cell? ⟨g, 2, none⟩ = some (.slice (some ⟨b0, off, none⟩) N sc) := HTX.out.blk.cell 2 rfl
              have FIN : Hid (∀ (a' : Option Addr) (c' : Nat) (w9 : World), Own w9 B 3 1 a' (N + 1) c' (ints (szs L) ++ [.int .i64 (imin (sx + sy) 1048576)]) → (wc.drew.alloc (.cells #[.int .i64 (imin (sx + sy) 1048576)] 3)).grownBy w9 (some b0) →
                  (ob a' = some b0 ∨ ob a' = some (wc.drew.alloc (.cells #[.int .i64 (imin (sx + sy) 1048576)] 3)).heap.size) → AddR w B g L bm ((xn : Int), (yn : Int)) (.returned (.bool true)) (w9.setCell ⟨g, 2, none⟩ (.slice a' (N + 1) c'))) := Lib.hid (fun a' c' w9 ho hg ha => by
                obtain ⟨h7, hc7⟩ := HTX.out.push2 ho hg ha
                have e1 : (L ++ [((xn : Int), (yn : Int))]).length = ln + 1 := by simp [HLN.out]
                have hN := HN.out
                refine .inl ⟨HGO.out, rfl, ⟨a9, c9, a', c', ?_⟩, hc7.below ((below_drew HC6.out).alloc HBW.out _) (by have := HBW.out; simp; omega) (fun i hi => ?_)⟩
                · refine ⟨by rw [e1, show 17 + (ln + 1) = N + 1 by omega]; exact h7.blk, h7.low, h7.mlow, by rw [e1]; exact h7.ms, ?_, ?_⟩
                  · rw [e1, show 17 + (ln + 1) = N + 1 by omega, szs_snoc, ← ints_append, HSN.out]
                    exact h7.sz
                  · rw [e1]
                    refine h7.mp.congr (fun m hm => ?_)
                    have := HGO.out
                    unfold okAt at this
                    rw [tk_snoc _ _ _ _ this.2.2.2.2, HLN.out]
                    have hN' : (17 : Int) + ((0 + ln : Nat) : Int) = (N : Int) := by omega
                    rw [hN']
                · rcases hi with rfl | hi
                  · exact HT6.out.low
                  · exact (HT6.out.sz.lt i hi).1)
              clear HSN
              refine Ways.start (S := (fun w' => w'.cell? ⟨gp, 0, none⟩ = some (.int .i64 (xn : Int)) ∧ w'.cell? ⟨gp, 1, none⟩ = some (.int .i64 (yn : Int)) ∧ w'.cell? ⟨g, 2, none⟩ = some (.slice (some ⟨b0, off, none⟩) N sc) ∧ w'.cell? ⟨b0, off + xn, none⟩ = some (.int .i64 sx) ∧ w'.cell? ⟨b0, off + yn, none⟩ = some (.int .i64 sy))) (last := 24) (by kernel_rfl) ?_
              have hHeld : (fun w' => w'.cell? ⟨gp, 0, none⟩ = some (.int .i64 (xn : Int)) ∧ w'.cell? ⟨gp, 1, none⟩ = some (.int .i64 (yn : Int)) ∧ w'.cell? ⟨g, 2, none⟩ = some (.slice (some ⟨b0, off, none⟩) N sc) ∧ w'.cell? ⟨b0, off + xn, none⟩ = some (.int .i64 sx) ∧ w'.cell? ⟨b0, off + yn, none⟩ = some (.int .i64 sy)) wc.drew := by (try dsimp only); go_keep
              refine Ways.take0 (i := 0) (o := { dst := some 56, op := Op.move (Operand.tmp 0), type := 26, pos := "tok.go:54", after := #[], guard := none }) (v := ?_) (by rfl) rfl (by kernel_rfl) (by kernel_rfl) (by kernel_rfl) (fun _ _ _ h => h) (Or.inl ⟨by rfl, ?_⟩) (by assumption) ?_
              rotate_left 1
              · (intro w hSw; (try dsimp only at hSw); go_simp; (try with_reducible rfl))
              try simp only [Act.put, List.setIfInBounds_toArray, List.set_cons_zero, List.set_cons_succ]
              refine Ways.take (i := 1) (o := { dst := some 57, op := Op.move (Operand.tmp 0), type := 26, pos := "tok.go:54", after := #[], guard := none }) (v := ?_) [2, 3, 4, 24] (by rfl) (by rfl) rfl (by kernel_rfl) (by kernel_rfl) (by kernel_rfl) (by kernel_rfl) (fun _ _ _ h => h) (Or.inl ⟨by rfl, ?_⟩) (by assumption) ?_
              rotate_left 1
              · (intro w hSw; (try dsimp only at hSw); go_simp; (try with_reducible rfl))
              try simp only [Act.put, List.setIfInBounds_toArray, List.set_cons_zero, List.set_cons_succ]
              refine Ways.take (i := 2) (o := { dst := some 58, op := Op.nilCheck (Operand.tmp 57), type := 0, pos := "tok.go:54", after := #[{ on := 1, ground := Ground.data }], guard := none }) (v := ?_) [3, 4, 24] (by rfl) (by rfl) rfl (by kernel_rfl) (by kernel_rfl) (by kernel_rfl) (by kernel_rfl) (fun _ _ _ h => h) (Or.inl ⟨by rfl, ?_⟩) (by assumption) ?_
              rotate_left 1
              · (intro w hSw; (try dsimp only at hSw); go_simp; (try with_reducible rfl))
              try simp only [Act.put, List.setIfInBounds_toArray, List.set_cons_zero, List.set_cons_succ]
              refine Ways.take (i := 3) (o := { dst := some 59, op := Op.fieldAddr 63 (Operand.tmp 58) 2, type := 0, pos := "tok.go:54", after := #[{ on := 2, ground := Ground.data }], guard := none }) (v := ?_) [4, 24] (by rfl) (by rfl) rfl (by kernel_rfl) (by kernel_rfl) (by kernel_rfl) (by kernel_rfl) (fun _ _ _ h => h) (Or.inl ⟨by rfl, ?_⟩) (by assumption) ?_
              rotate_left 1
              · (intro w hSw; (try dsimp only at hSw); go_simp; (try with_reducible rfl))
              try simp only [Act.put, List.setIfInBounds_toArray, List.set_cons_zero, List.set_cons_succ]
              refine Ways.take (i := 4) (o := { dst := some 60, op := Op.load 24 (Operand.tmp 59), type := 24, pos := "tok.go:54", after := #[{ on := 3, ground := Ground.data }], guard := none }) (v := ?_) [24] (by rfl) (by rfl) rfl (by kernel_rfl) (by kernel_rfl) (by kernel_rfl) (by kernel_rfl) (fun _ _ _ h => h) (Or.inl ⟨by rfl, ?_⟩) (by assumption) ?_
              rotate_left 1
              · (intro w hSw; (try dsimp only at hSw); go_simp; (try with_reducible rfl))
              try simp only [Act.put, List.setIfInBounds_toArray, List.set_cons_zero, List.set_cons_succ]
              refine Ways.take (i := 5) (o := { dst := some 61, op := Op.move (Operand.tmp 0), type := 26, pos := "tok.go:54", after := #[], guard := none }) (v := ?_) [6, 7, 8, 11, 12, 21, 22, 23, 24] (by rfl) (by rfl) rfl (by kernel_rfl) (by kernel_rfl) (by kernel_rfl) (by kernel_rfl) (fun _ _ _ h => h) (Or.inl ⟨by rfl, ?_⟩) (by assumption) ?_
              rotate_left 1
              · (intro w hSw; (try dsimp only at hSw); go_simp; (try with_reducible rfl))
              try simp only [Act.put, List.setIfInBounds_toArray, List.set_cons_zero, List.set_cons_succ]
              refine Ways.take (i := 6) (o := { dst := some 62, op := Op.nilCheck (Operand.tmp 61), type := 0, pos := "tok.go:54", after := #[{ on := 5, ground := Ground.data }], guard := none }) (v := ?_) [7, 8, 11, 12, 21, 22, 23, 24] (by rfl) (by rfl) rfl (by kernel_rfl) (by kernel_rfl) (by kernel_rfl) (by kernel_rfl) (fun _ _ _ h => h) (Or.inl ⟨by rfl, ?_⟩) (by assumption) ?_
              rotate_left 1
              · (intro w hSw; (try dsimp only at hSw); go_simp; (try with_reducible rfl))
              try simp only [Act.put, List.setIfInBounds_toArray, List.set_cons_zero, List.set_cons_succ]
              refine Ways.take (i := 7) (o := { dst := some 63, op := Op.fieldAddr 63 (Operand.tmp 62) 2, type := 0, pos := "tok.go:54", after := #[{ on := 6, ground := Ground.data }], guard := none }) (v := ?_) [8, 11, 12, 21, 22, 23, 24] (by rfl) (by rfl) rfl (by kernel_rfl) (by kernel_rfl) (by kernel_rfl) (by kernel_rfl) (fun _ _ _ h => h) (Or.inl ⟨by rfl, ?_⟩) (by assumption) ?_
              rotate_left 1
              · (intro w hSw; (try dsimp only at hSw); go_simp; (try with_reducible rfl))
              try simp only [Act.put, List.setIfInBounds_toArray, List.set_cons_zero, List.set_cons_succ]
              refine Ways.take (i := 8) (o := { dst := some 64, op := Op.load 24 (Operand.tmp 63), type := 24, pos := "tok.go:54", after := #[{ on := 7, ground := Ground.data }], guard := none }) (v := ?_) [11, 12, 21, 22, 23, 24] (by rfl) (by rfl) rfl (by kernel_rfl) (by kernel_rfl) (by kernel_rfl) (by kernel_rfl) (fun _ _ _ h => h) (Or.inl ⟨by rfl, ?_⟩) (by assumption) ?_
              rotate_left 1
              · (intro w hSw; (try dsimp only at hSw); go_simp; (try with_reducible rfl))
              try simp only [Act.put, List.setIfInBounds_toArray, List.set_cons_zero, List.set_cons_succ]
              refine Ways.take (i := 9) (o := { dst := some 65, op := Op.fieldAddr 54 (Operand.tmp 3) 0, type := 0, pos := "tok.go:54", after := #[], guard := none }) (v := ?_) [10, 11, 12, 21, 22, 23, 24] (by rfl) (by rfl) rfl (by kernel_rfl) (by kernel_rfl) (by kernel_rfl) (by kernel_rfl) (fun _ _ _ h => h) (Or.inl ⟨by rfl, ?_⟩) (by assumption) ?_
              rotate_left 1
              · (intro w hSw; (try dsimp only at hSw); go_simp; (try with_reducible rfl))
              try simp only [Act.put, List.setIfInBounds_toArray, List.set_cons_zero, List.set_cons_succ]
              refine Ways.take (i := 10) (o := { dst := some 66, op := Op.load 3 (Operand.tmp 65), type := 3, pos := "tok.go:54", after := #[{ on := 9, ground := Ground.data }], guard := none }) (v := ?_) [11, 12, 21, 22, 23, 24] (by rfl) (by rfl) rfl (by kernel_rfl) (by kernel_rfl) (by kernel_rfl) (by kernel_rfl) (fun _ _ _ h => h) (Or.inl ⟨by rfl, ?_⟩) (by assumption) ?_
              rotate_left 1
              · (intro w hSw; (try dsimp only at hSw); go_simp; (try with_reducible rfl))
              try simp only [Act.put, List.setIfInBounds_toArray, List.set_cons_zero, List.set_cons_succ]
              refine Ways.take (i := 11) (o := { dst := some 67, op := Op.indexAddr 24 (Operand.tmp 64) (Operand.tmp 66), type := 0, pos := "tok.go:54", after := #[{ on := 8, ground := Ground.data }, { on := 10, ground := Ground.data }], guard := none }) (v := ?_) [12, 21, 22, 23, 24] (by rfl) (by rfl) rfl (by kernel_rfl) (by kernel_rfl) (by kernel_rfl) (by kernel_rfl) (fun _ _ _ h => h) (Or.inl ⟨by rfl, ?_⟩) (by assumption) ?_
              rotate_left 1
              · (intro w hSw; (try dsimp only at hSw); go_simp; (try with_reducible rfl))
              try simp only [Act.put, List.setIfInBounds_toArray, List.set_cons_zero, List.set_cons_succ]
              refine Ways.take (i := 12) (o := { dst := some 68, op := Op.load 3 (Operand.tmp 67), type := 3, pos := "tok.go:54", after := #[{ on := 11, ground := Ground.data }], guard := none }) (v := ?_) [21, 22, 23, 24] (by rfl) (by rfl) rfl (by kernel_rfl) (by kernel_rfl) (by kernel_rfl) (by kernel_rfl) (fun _ _ _ h => h) (Or.inl ⟨by rfl, ?_⟩) (by assumption) ?_
              rotate_left 1
              · (intro w hSw; (try dsimp only at hSw); go_simp; (try with_reducible rfl))
              try simp only [Act.put, List.setIfInBounds_toArray, List.set_cons_zero, List.set_cons_succ]
              refine Ways.take (i := 13) (o := { dst := some 69, op := Op.move (Operand.tmp 0), type := 26, pos := "tok.go:54", after := #[], guard := none }) (v := ?_) [14, 15, 16, 19, 20, 21, 22, 23, 24] (by rfl) (by rfl) rfl (by kernel_rfl) (by kernel_rfl) (by kernel_rfl) (by kernel_rfl) (fun _ _ _ h => h) (Or.inl ⟨by rfl, ?_⟩) (by assumption) ?_
              rotate_left 1
              · (intro w hSw; (try dsimp only at hSw); go_simp; (try with_reducible rfl))
              try simp only [Act.put, List.setIfInBounds_toArray, List.set_cons_zero, List.set_cons_succ]
              refine Ways.take (i := 14) (o := { dst := some 70, op := Op.nilCheck (Operand.tmp 69), type := 0, pos := "tok.go:54", after := #[{ on := 13, ground := Ground.data }], guard := none }) (v := ?_) [15, 16, 19, 20, 21, 22, 23, 24] (by rfl) (by rfl) rfl (by kernel_rfl) (by kernel_rfl) (by kernel_rfl) (by kernel_rfl) (fun _ _ _ h => h) (Or.inl ⟨by rfl, ?_⟩) (by assumption) ?_
              rotate_left 1
              · (intro w hSw; (try dsimp only at hSw); go_simp; (try with_reducible rfl))
              try simp only [Act.put, List.setIfInBounds_toArray, List.set_cons_zero, List.set_cons_succ]
              refine Ways.take (i := 15) (o := { dst := some 71, op := Op.fieldAddr 63 (Operand.tmp 70) 2, type := 0, pos := "tok.go:54", after := #[{ on := 14, ground := Ground.data }], guard := none }) (v := ?_) [16, 19, 20, 21, 22, 23, 24] (by rfl) (by rfl) rfl (by kernel_rfl) (by kernel_rfl) (by kernel_rfl) (by kernel_rfl) (fun _ _ _ h => h) (Or.inl ⟨by rfl, ?_⟩) (by assumption) ?_
              rotate_left 1
              · (intro w hSw; (try dsimp only at hSw); go_simp; (try with_reducible rfl))
              try simp only [Act.put, List.setIfInBounds_toArray, List.set_cons_zero, List.set_cons_succ]
              refine Ways.take (i := 16) (o := { dst := some 72, op := Op.load 24 (Operand.tmp 71), type := 24, pos := "tok.go:54", after := #[{ on := 15, ground := Ground.data }], guard := none }) (v := ?_) [19, 20, 21, 22, 23, 24] (by rfl) (by rfl) rfl (by kernel_rfl) (by kernel_rfl) (by kernel_rfl) (by kernel_rfl) (fun _ _ _ h => h) (Or.inl ⟨by rfl, ?_⟩) (by assumption) ?_
              rotate_left 1
              · (intro w hSw; (try dsimp only at hSw); go_simp; (try with_reducible rfl))
              try simp only [Act.put, List.setIfInBounds_toArray, List.set_cons_zero, List.set_cons_succ]
              refine Ways.take (i := 17) (o := { dst := some 73, op := Op.fieldAddr 54 (Operand.tmp 3) 1, type := 0, pos := "tok.go:54", after := #[], guard := none }) (v := ?_) [18, 19, 20, 21, 22, 23, 24] (by rfl) (by rfl) rfl (by kernel_rfl) (by kernel_rfl) (by kernel_rfl) (by kernel_rfl) (fun _ _ _ h => h) (Or.inl ⟨by rfl, ?_⟩) (by assumption) ?_
              rotate_left 1
              · (intro w hSw; (try dsimp only at hSw); go_simp; (try with_reducible rfl))
              try simp only [Act.put, List.setIfInBounds_toArray, List.set_cons_zero, List.set_cons_succ]
              refine Ways.take (i := 18) (o := { dst := some 74, op := Op.load 3 (Operand.tmp 73), type := 3, pos := "tok.go:54", after := #[{ on := 17, ground := Ground.data }], guard := none }) (v := ?_) [19, 20, 21, 22, 23, 24] (by rfl) (by rfl) rfl (by kernel_rfl) (by kernel_rfl) (by kernel_rfl) (by kernel_rfl) (fun _ _ _ h => h) (Or.inl ⟨by rfl, ?_⟩) (by assumption) ?_
              rotate_left 1
              · (intro w hSw; (try dsimp only at hSw); go_simp; (try with_reducible rfl))
              try simp only [Act.put, List.setIfInBounds_toArray, List.set_cons_zero, List.set_cons_succ]
              refine Ways.take (i := 19) (o := { dst := some 75, op := Op.indexAddr 24 (Operand.tmp 72) (Operand.tmp 74), type := 0, pos := "tok.go:54", after := #[{ on := 16, ground := Ground.data }, { on := 18, ground := Ground.data }], guard := none }) (v := ?_) [20, 21, 22, 23, 24] (by rfl) (by rfl) rfl (by kernel_rfl) (by kernel_rfl) (by kernel_rfl) (by kernel_rfl) (fun _ _ _ h => h) (Or.inl ⟨by rfl, ?_⟩) (by assumption) ?_
              rotate_left 1
              · (intro w hSw; (try dsimp only at hSw); go_simp; (try with_reducible rfl))
              try simp only [Act.put, List.setIfInBounds_toArray, List.set_cons_zero, List.set_cons_succ]
              refine Ways.take (i := 20) (o := { dst := some 76, op := Op.load 3 (Operand.tmp 75), type := 3, pos := "tok.go:54", after := #[{ on := 19, ground := Ground.data }], guard := none }) (v := ?_) [21, 22, 23, 24] (by rfl) (by rfl) rfl (by kernel_rfl) (by kernel_rfl) (by kernel_rfl) (by kernel_rfl) (fun _ _ _ h => h) (Or.inl ⟨by rfl, ?_⟩) (by assumption) ?_
              rotate_left 1
              · (intro w hSw; (try dsimp only at hSw); go_simp; (try with_reducible rfl))
              try simp only [Act.put, List.setIfInBounds_toArray, List.set_cons_zero, List.set_cons_succ]
              refine Ways.take (i := 21) (o := { dst := some 77, op := Op.binOp BinOp.add 3 (Operand.tmp 68) (Operand.tmp 76) 3, type := 3, pos := "tok.go:54", after := #[{ on := 12, ground := Ground.data }, { on := 20, ground := Ground.data }], guard := none }) (v := ?_) [22, 23, 24] (by rfl) (by rfl) rfl (by kernel_rfl) (by kernel_rfl) (by kernel_rfl) (by kernel_rfl) (fun _ _ _ h => h) (Or.inl ⟨by rfl, ?_⟩) (by assumption) ?_
              rotate_left 1
              · (intro w hSw; (try dsimp only at hSw); go_simp; (try with_reducible rfl))
              try simp only [Act.put, List.setIfInBounds_toArray, List.set_cons_zero, List.set_cons_succ]
              refine Ways.take (i := 22) (o := { dst := some 78, op := Op.call { callee := Callee.builtin Builtin.min, args := #[Operand.tmp 77, Operand.const (Value.int IntKind.i64 1048576)], argTypes := #[3, 3] }, type := 3, pos := "tok.go:54", after := #[{ on := 21, ground := Ground.data }], guard := none }) (v := ?_) [23, 24] (by rfl) (by rfl) rfl (by kernel_rfl) (by kernel_rfl) (by kernel_rfl) (by kernel_rfl) (fun _ _ _ h => h) (Or.inl ⟨by rfl, ?_⟩) (by assumption) ?_
              rotate_left 1
              · (intro w hSw; (try dsimp only at hSw); go_simp; (try with_reducible rfl))
              try simp only [Act.put, List.setIfInBounds_toArray, List.set_cons_zero, List.set_cons_succ]
              refine Ways.only (i := 23) (by kernel_rfl) (wpOp_step (o := { dst := some 79, op := Op.buildSlice 24 1 #[(0, Operand.tmp 78)], type := 24, pos := "tok.go:54", after := #[{ on := 22, ground := Ground.data }], guard := none }) rfl (fun K hK => ?_))
              go_simp
              refine hK _ _ ⟨fun hlast => ?_, ?_⟩
              · (try dsimp only); go_keep
              clear hK K
              try simp only [Act.put, List.setIfInBounds_toArray, List.set_cons_zero, List.set_cons_succ]
              refine Ways.only (i := 24) (by kernel_rfl) (wpOp_step (o := { dst := some 80, op := Op.call { callee := Callee.builtin Builtin.append, args := #[Operand.tmp 60, Operand.tmp 79], argTypes := #[24, 24] }, type := 24, pos := "tok.go:54", after := #[{ on := 4, ground := Ground.data }, { on := 23, ground := Ground.data }], guard := none }) rfl (fun K hK => ?_))
              refine step_app el24 (by omega) (by rfl) (.tmp 60) (.tmp 79) (by rfl) (by rfl) HTX.out.sz (by rfl) HRX.out H1C.out (by have := HLL.out; have := HN.out; omega) (by have := HLL.out; have := HN.out; omega) (by have := HBW.out; simp; omega) ?_
              intro a8 c8 w9 ho9 hg9 ha9
              have b9 := (Chg.of_grown' hg9).blk HTX.out.blk HNE.out
              have u2 : w9.cell? ⟨g, 2, none⟩ = some (.slice (some ⟨b0, off, none⟩) N sc) := b9.cell 2 rfl
              have v2 := b9.frozen 2
              have HO9 := Lib.hid ho9
              have HG9 := Lib.hid hg9
              have HA9 := Lib.hid ha9
              clear ho9 hg9 ha9 b9
              refine hK _ _ ⟨fun hlast => ?_, ?_⟩
              · exact absurd (Eq.trans (Eq.symm hlast) (by kernel_rfl)) (by decide : ¬ false = true)
              clear hK K
              try simp only [Act.put, List.setIfInBounds_toArray, List.set_cons_zero, List.set_cons_succ]
              refine Ways.only (i := 25) (by kernel_rfl) (wpOp_step (o := { dst := some 81, op := Op.nilCheck (Operand.tmp 56), type := 0, pos := "tok.go:54", after := #[{ on := 0, ground := Ground.data }, { on := 0, ground := Ground.phase }, { on := 1, ground := Ground.phase }, { on := 2, ground := Ground.phase }, { on := 3, ground := Ground.phase }, { on := 4, ground := Ground.phase }, { on := 5, ground := Ground.phase }, { on := 6, ground := Ground.phase }, { on := 7, ground := Ground.phase }, { on := 8, ground := Ground.phase }, { on := 9, ground := Ground.phase }, { on := 10, ground := Ground.phase }, { on := 11, ground := Ground.phase }, { on := 12, ground := Ground.phase }, { on := 13, ground := Ground.phase }, { on := 14, ground := Ground.phase }, { on := 15, ground := Ground.phase }, { on := 16, ground := Ground.phase }, { on := 17, ground := Ground.phase }, { on := 18, ground := Ground.phase }, { on := 19, ground := Ground.phase }, { on := 20, ground := Ground.phase }, { on := 21, ground := Ground.phase }, { on := 22, ground := Ground.phase }, { on := 23, ground := Ground.phase }, { on := 24, ground := Ground.phase }], guard := none }) rfl (fun K hK => ?_))
              go_simp
              refine hK _ _ ⟨fun hlast => ?_, ?_⟩
              · exact absurd (Eq.trans (Eq.symm hlast) (by kernel_rfl)) (by decide : ¬ false = true)
              clear hK K
              try simp only [Act.put, List.setIfInBounds_toArray, List.set_cons_zero, List.set_cons_succ]
              refine Ways.only (i := 26) (by kernel_rfl) (wpOp_step (o := { dst := some 82, op := Op.fieldAddr 63 (Operand.tmp 81) 2, type := 0, pos := "tok.go:54", after := #[{ on := 25, ground := Ground.data }, { on := 0, ground := Ground.phase }, { on := 1, ground := Ground.phase }, { on := 2, ground := Ground.phase }, { on := 3, ground := Ground.phase }, { on := 4, ground := Ground.phase }, { on := 5, ground := Ground.phase }, { on := 6, ground := Ground.phase }, { on := 7, ground := Ground.phase }, { on := 8, ground := Ground.phase }, { on := 9, ground := Ground.phase }, { on := 10, ground := Ground.phase }, { on := 11, ground := Ground.phase }, { on := 12, ground := Ground.phase }, { on := 13, ground := Ground.phase }, { on := 14, ground := Ground.phase }, { on := 15, ground := Ground.phase }, { on := 16, ground := Ground.phase }, { on := 17, ground := Ground.phase }, { on := 18, ground := Ground.phase }, { on := 19, ground := Ground.phase }, { on := 20, ground := Ground.phase }, { on := 21, ground := Ground.phase }, { on := 22, ground := Ground.phase }, { on := 23, ground := Ground.phase }, { on := 24, ground := Ground.phase }], guard := none }) rfl (fun K hK => ?_))
              go_simp
              refine hK _ _ ⟨fun hlast => ?_, ?_⟩
              · exact absurd (Eq.trans (Eq.symm hlast) (by kernel_rfl)) (by decide : ¬ false = true)
              clear hK K
              try simp only [Act.put, List.setIfInBounds_toArray, List.set_cons_zero, List.set_cons_succ]
              refine Ways.only (i := 27) (by kernel_rfl) (wpOp_step (o := { dst := none, op := Op.store 24 (Operand.tmp 82) (Operand.tmp 80), type := 0, pos := "tok.go:54", after := #[{ on := 26, ground := Ground.data }, { on := 24, ground := Ground.data }, { on := 24, ground := Ground.chain }, { on := 0, ground := Ground.phase }, { on := 1, ground := Ground.phase }, { on := 2, ground := Ground.phase }, { on := 3, ground := Ground.phase }, { on := 4, ground := Ground.phase }, { on := 5, ground := Ground.phase }, { on := 6, ground := Ground.phase }, { on := 7, ground := Ground.phase }, { on := 8, ground := Ground.phase }, { on := 9, ground := Ground.phase }, { on := 10, ground := Ground.phase }, { on := 11, ground := Ground.phase }, { on := 12, ground := Ground.phase }, { on := 13, ground := Ground.phase }, { on := 14, ground := Ground.phase }, { on := 15, ground := Ground.phase }, { on := 16, ground := Ground.phase }, { on := 17, ground := Ground.phase }, { on := 18, ground := Ground.phase }, { on := 19, ground := Ground.phase }, { on := 20, ground := Ground.phase }, { on := 21, ground := Ground.phase }, { on := 22, ground := Ground.phase }, { on := 23, ground := Ground.phase }, { on := 24, ground := Ground.phase }], guard := none }) rfl (fun K hK => ?_))
              go_simp
              refine hK _ _ ⟨fun hlast => ?_, ?_⟩
              · exact absurd (Eq.trans (Eq.symm hlast) (by kernel_rfl)) (by decide : ¬ false = true)
              clear hK K
              try simp only [Act.put, List.setIfInBounds_toArray, List.set_cons_zero, List.set_cons_succ]
              refine Ways.done (by kernel_rfl) ?_ _
              all_goals
                go_wp2
                go_ret
                exact FIN.out _ _ _ HO9.out HG9.out HA9.out
end
end Go.Proofs.Ytlndhmkkffcbnaa.TkA
