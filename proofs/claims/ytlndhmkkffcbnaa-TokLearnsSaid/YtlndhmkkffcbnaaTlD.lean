/-
  The document's times, best.
-/
import Derived.Test.YtlndhmkkffcbnaaTlC
import Derived.Test.YtlndhmkkffcbnaaTkV
namespace Go.Proofs.Ytlndhmkkffcbnaa.TlD
open Go.RowKit Go.Proofs.Ytlndhmkkffcbnaa.Kit Go.Proofs.Ytlndhmkkffcbnaa.TkM Go.Proofs.Ytlndhmkkffcbnaa.TkP Go.Proofs.Ytlndhmkkffcbnaa.TkQ Go.Proofs.Ytlndhmkkffcbnaa.TkW Go.Proofs.Ytlndhmkkffcbnaa.TkE Go.Proofs.Ytlndhmkkffcbnaa.TkA Go.Proofs.Ytlndhmkkffcbnaa.TkN Go.Proofs.Ytlndhmkkffcbnaa.TkG Go.Proofs.Ytlndhmkkffcbnaa.TkV Go.Proofs.Ytlndhmkkffcbnaa.TlP Go.Proofs.Ytlndhmkkffcbnaa.TlM Go.Proofs.Ytlndhmkkffcbnaa.TlC
attribute [local go_sem high] max_imax min_imin
attribute [local go_sem ↓] Go.wp_at_zero Go.wp_at_succ
set_option linter.unusedVariables false
section
variable {w : World}
theorem below_two2 {w w1 w2 : World} (h : Below w.heap.size w w1) (k : Below w1.heap.size w1 w2) : Below w.heap.size w w2 := h.trans (k.mono h.size)
def TimesR (w : World) (X : List (List Int)) (p : Pr) (e : Ending) (w' : World) : Prop := e = .returned (.int .i64 (cntX X p)) ∧ Below w.heap.size w w'
set_option maxHeartbeats 4000000 in
theorem times_any {al : Option Addr} {cl : Nat} {X : List (List Int)} (h : LsR w al cl X) (ht : tot X ≤ 100000) (px py : Int) : Calls Try.prog 38 #[.slice al X.length cl, .agg #[.int .i64 px, .int .i64 py]] w (TimesR w X (px, py)) := by
  have hlim := h.lim
  have bz := Blk.new w #[.int .i64 px, .int .i64 py] 49
  have HL0 : Hid (Below w.heap.size w (w.alloc (.cells #[.int .i64 px, .int .i64 py] 49))) := Lib.hid ((Below.refl _ _).alloc (Nat.le_refl _) _)
  have HR := Lib.hid (h.on HL0.out)
  have HTT := Lib.hid ht
  have FIN : Hid (∀ q wr, Below w.heap.size w wr → cntX (X.take X.length) (px, py) = q → TimesR w X (px, py) (.returned (.int .i64 q)) wr) := Lib.hid (fun q wr hb hq => ⟨by rw [← hq, List.take_length], hb⟩)
  obtain ⟨n, HN⟩ : ∃ n, Hid (X.length = n) := ⟨_, Lib.hid rfl⟩
  rw [HN.out] at hlim FIN ⊢
  obtain ⟨wo, HWO⟩ : ∃ ww, Hid (w.alloc (.cells #[.int .i64 px, .int .i64 py] 49) = ww) := ⟨_, Lib.hid rfl⟩
  obtain ⟨gp, HGP⟩ : ∃ gg, Hid (w.heap.size = gg) := ⟨_, Lib.hid rfl⟩
  rw [HWO.out, HGP.out] at bz
  rw [HWO.out] at HL0 HR
  have p0 : wo.cell? ⟨gp, 0, none⟩ = some (.int .i64 px) := bz.cell 0 rfl
  have p1 : wo.cell? ⟨gp, 1, none⟩ = some (.int .i64 py) := bz.cell 1 rfl
  have hwo := HWO.out
  have hgp := HGP.out
  clear h ht bz
  go_enter Try.func38, Try.ntmps38
  go_wp2_with fail
  clear hwo hgp
  go_loopw [5, 6] (fun nv i wr => ∃ (k m : Nat) (q : Int), k ≤ n ∧ i = .int .i64 k ∧ nv = .int .i64 q ∧ wr = wo.drewN m ∧ Hid (cntX (X.take k) (px, py) = q)) (fun _ i _ => n - (intOf i).toNat)
  case atStart => exact ⟨0, 0, 0, by omega, rfl, rfl, rfl, Lib.hid rfl⟩
  case round =>
    obtain ⟨k, mm, q, hk, rfl, rfl, rfl, HQ⟩ := hrel
    by_cases hlt : k < n
    · obtain ⟨x, hx⟩ : ∃ x, X[k]? = some x := ⟨_, List.getElem?_eq_getElem (by rw [HN.out]; exact hlt)⟩
      obtain ⟨b0, o0, a, c, rfl, hc0, hrx⟩ := HR.out.get hx
      have k0 : (0 : Int) ≤ (k : Int) := by omega
      have k1 : (k : Int) < (n : Int) := by omega
      have HLT := Lib.hid hlt
      have HRX := Lib.hid hrx
      have HTM := Lib.hid (tot_mem hx)
      have HTL := Lib.hid (tot_take X (k + 1))
      have HTK : Hid (cntX (X.take (k + 1)) (px, py) = cntX (X.take k) (px, py) + cntL x (px, py)) := Lib.hid (by rw [List.take_add_one, hx]; exact cntX_snoc _ _ _)
      have HCI : Hid (∀ j, j ≤ x.length → 0 ≤ q + cntK x (px, py) j ∧ q + cntK x (px, py) j ≤ 100000) := Lib.hid (fun j hj => by
        have h1 := cntX_in (X.take k) (px, py)
        have h2 := cntK_in x (px, py) j
        have h3 := HTM.out
        have h4 := HTL.out
        have h5 := HTT.out
        have h6 := HQ.out
        omega)
      obtain ⟨m, HML⟩ : ∃ m, Hid (x.length = m) := ⟨_, Lib.hid rfl⟩
      rw [HML.out] at hc0 HRX HTM HCI
      have hmb : m ≤ 100000 := by have := HTM.out; have := HTL.out; have := HTT.out; omega
      clear hx hlt hrx
      go_wp2_with fail
      go_loopw [5, 7] (fun nv i wr => ∃ (j m2 : Nat) (v : Int), j ≤ m ∧ i = .int .i64 j ∧ nv = .int .i64 v ∧ wr = wo.drewN m2 ∧ Hid (v = q + cntK x (px, py) j) ∧ Hid (j ≤ m - 1)) (fun _ i _ => m - (intOf i).toNat)
      case atStart => exact ⟨0, mm, q, by omega, rfl, rfl, rfl, Lib.hid (by simp [cntK]), Lib.hid (by omega)⟩
      case round =>
        obtain ⟨j, m2, v, hj, rfl, rfl, rfl, HV, HJ⟩ := hrel
        by_cases hlt : j + 1 < m
        · obtain ⟨b1, o1, u, rfl, hu, hcu⟩ := HRX.out.get (k := j) (by omega)
          obtain ⟨b1', o1', u1, he, hu1, hcv⟩ := HRX.out.get (k := j + 1) hlt
          injection he with he
          injection he with e1 e2
          subst e1 e2
          obtain ⟨s, hs, rfl⟩ := ints_get hu
          obtain ⟨t, ht, rfl⟩ := ints_get hu1
          have HAT : Hid (cntK x (px, py) (j + 1) = cntK x (px, py) j + if s = px ∧ t = py then 1 else 0) := Lib.hid (by
            rw [show cntK x (px, py) (j + 1) = cntK x (px, py) j + (if at2 x j = (px, py) then 1 else 0) from rfl]
            unfold at2
            rw [List.getD_eq_getElem?_getD, List.getD_eq_getElem?_getD, hs, ht]
            simp)
          have hci := HCI.out j (by have := HML.out; omega)
          have v0 : 0 ≤ v := by have := HV.out; omega
          have v1 : v ≤ 100000 := by have := HV.out; omega
          have s1 : IntKind.i64.wrap ((j : Int) + 1) = (j : Int) + 1 := IntWalk.i64_in _ (by omega)
          have s2 : (0 : Int) ≤ (j : Int) + 1 := by omega
          have s3 : ((j : Int) + 1).toNat = j + 1 := by omega
          have j0 : (0 : Int) ≤ (j : Int) := by omega
          have j2 : (j : Int) < (m : Int) := by omega
          have j3 : (j : Int) + 1 < (m : Int) := by omega
          have HLJ := Lib.hid hlt
          clear hu hu1 hs ht hci hlt
          go_upto_region 8 with (fail)
          by_cases h1 : s = px
          · have hx2 : ((s : Int) == px) = true := by simp [h1]
            by_cases h2 : t = py
            · have hy2 : ((t : Int) == py) = true := by simp [h2]
              have HV2 : Hid (v + 1 = q + cntK x (px, py) (j + 1)) := Lib.hid (by rw [HAT.out, if_pos ⟨h1, h2⟩, HV.out]; omega)
              clear h1 h2
              go_big_quiet (fail)
              clear s1 s2 s3 hcu hcv
              go_wp2_with fail
              go_roundw
              case rel => exact ⟨j + 1, _, v + 1, by have := HLJ.out; omega, by go_num, rfl, rfl, HV2, Lib.hid (by have := HLJ.out; omega)⟩
              case measure => have := HLJ.out; simp [intOf]; omega
            · have hy2 : ((t : Int) == py) = false := by simp [h2]
              have HV2 : Hid (v = q + cntK x (px, py) (j + 1)) := Lib.hid (by rw [HAT.out, if_neg (fun h => h2 h.2), HV.out]; omega)
              clear h1 h2
              go_big_quiet (fail)
              clear s1 s2 s3 hcu hcv
              go_wp2_with fail
              go_roundw
              case rel => exact ⟨j + 1, _, v, by have := HLJ.out; omega, by go_num, rfl, rfl, HV2, Lib.hid (by have := HLJ.out; omega)⟩
              case measure => have := HLJ.out; simp [intOf]; omega
          · have hx2 : ((s : Int) == px) = false := by simp [h1]
            have HV2 : Hid (v = q + cntK x (px, py) (j + 1)) := Lib.hid (by rw [HAT.out, if_neg (fun h => h1 h.1), HV.out]; omega)
            clear h1
            go_big_quiet (fail)
            clear s1 s2 s3 hcu hcv
            go_wp2_with fail
            go_roundw
            case rel => exact ⟨j + 1, _, v, by have := HLJ.out; omega, by go_num, rfl, rfl, HV2, Lib.hid (by have := HLJ.out; omega)⟩
            case measure => have := HLJ.out; simp [intOf]; omega
        · have hge : (m : Int) ≤ (j : Int) + 1 := by omega
          have HQ2 : Hid (cntX (X.take (k + 1)) (px, py) = v) := Lib.hid (by
            rw [HTK.out, HQ.out, HV.out]
            unfold cntL
            have h1 := HML.out
            have h2 := HJ.out
            have h3 : x.length - 1 = j := by omega
            rw [h3])
          clear hlt
          go_wp2_with fail
          go_roundw
          case rel => exact ⟨k + 1, _, v, HLT.out, by go_num, rfl, rfl, HQ2⟩
          case measure => have := HLT.out; simp [intOf]; omega
    · obtain rfl : k = n := by omega
      have HF := Lib.hid (FIN.out q (wo.drewN mm) (below_drewN HL0.out mm) HQ.out)
      clear hlt
      go_wp2_with fail
      go_ret
      exact HF.out
/-- The pairs ahead of (a, b). -/
def Pre (a b : Int) (q : Pr) : Prop := q.1 < a ∨ (q.1 = a ∧ q.2 < b)
theorem pre_step (a b : Int) (q : Pr) : Pre a (b + 1) q ↔ Pre a b q ∨ q = (a, b) := by
  obtain ⟨x, y⟩ := q
  unfold Pre
  dsimp only
  rw [Prod.mk.injEq]
  omega
theorem pre_lex {a b : Int} {q : Pr} (h : Pre a b q) : lex q (a, b) := h
structure Bd (w W : World) (L : List Pr) (g0 g1 : Nat) (sa : Option Addr) (V sc : Nat) (bp : Pr) : Prop where
  k0 : Blk W g0 49 #[.int .i64 0, .int .i64 0]
  k1 : Blk W g1 49 #[.int .i64 bp.1, .int .i64 bp.2]
  sz : Own W w.heap.size 3 1 sa V sc (ints (szs L))
  low : Below w.heap.size w W
theorem Bd.on {w W W' : World} {L : List Pr} {g0 g1 : Nat} {sa : Option Addr} {V sc : Nat} {bp : Pr} (h : Bd w W L g0 g1 sa V sc bp) (hb : Below W.heap.size W W') : Bd w W' L g0 g1 sa V sc bp := by
  have hc := Chg.of_below hb (fun _ => False)
  exact ⟨hc.blk h.k0 id, hc.blk h.k1 id, h.sz.chg hc (fun _ _ => id), below_two2 h.low hb⟩
theorem Bd.set {w W : World} {L : List Pr} {g0 g1 : Nat} {sa : Option Addr} {V sc : Nat} {bp : Pr} (h : Bd w W L g0 g1 sa V sc bp) (p : Pr) (h0 : g0 ≠ g1) (hw : w.heap.size ≤ g1) :
    Bd w ((W.setCell ⟨g1, 0, none⟩ (.int .i64 p.1)).setCell ⟨g1, 1, none⟩ (.int .i64 p.2)) L g0 g1 sa V sc p := by
  have hc : Chg (fun k => k = g1) W ((W.setCell ⟨g1, 0, none⟩ (.int .i64 p.1)).setCell ⟨g1, 1, none⟩ (.int .i64 p.2)) :=
    ((Chg.refl (fun k => k = g1) W).set (p := ⟨g1, 0, none⟩) (.inl rfl) _).set (p := ⟨g1, 1, none⟩) (.inl rfl) _
  exact ⟨hc.blk h.k0 h0, (h.k1.set 0 _).set 1 _, h.sz.chg hc (fun k hk e => h.sz.ne h.k1 (by decide) (by rw [hk, e])), hc.below h.low h.low.size (fun k hk => by omega)⟩
def DBestR (w : World) (X : List (List Int)) (L : List Pr) (e : Ending) (w' : World) : Prop :=
  Below w.heap.size w w' ∧ ∃ (p : Pr) (v : Bool), e = .returned (.tuple #[.agg #[.int .i64 p.1, .int .i64 p.2], .bool v]) ∧ ((v = true ∧ IsBest X L p) ∨ (v = false ∧ NoBest X L))
set_option maxHeartbeats 4000000 in
theorem dbest_any {L : List Pr} {X : List (List Int)} {al d : Option Addr} {cl e : Nat} (hp : Rd w 2 d L.length e (prs L)) (hg : TkP.Good L) (hL : L.length ≤ 1000) (h : LsR w al cl X) (htt : tot X ≤ 100000) :
    Calls Try.prog 32 #[.slice al X.length cl, .slice d L.length e] w (DBestR w X L) := by
  have HLS := Lib.hid h
  have HTT := Lib.hid htt
  have HC0 : Hid (Below w.heap.size w (w.alloc (.cells #[.int .i64 0, .int .i64 0] 49))) := Lib.hid ((Below.refl _ _).alloc (Nat.le_refl _) _)
  have HSZ := Lib.hid (sizes_any (rd_on (by omega) hp HC0.out) hg hL)
  have bz0 := Blk.new w #[.int .i64 0, .int .i64 0] 49
  have HTI : Hid (∀ W x y, Below w.heap.size w W → Calls Try.prog 38 #[.slice al X.length cl, .agg #[.int .i64 x, .int .i64 y]] W (TimesR W X (x, y))) := Lib.hid (fun W x y hb => times_any (h.on hb) htt x y)
  obtain ⟨n, HN⟩ : ∃ n, Hid (X.length = n) := ⟨_, Lib.hid rfl⟩
  obtain ⟨M, HM⟩ : ∃ M, Hid (L.length = M) := ⟨_, Lib.hid rfl⟩
  obtain ⟨V, HVN⟩ : ∃ V, Hid (17 + L.length = V) := ⟨_, Lib.hid rfl⟩
  have hVb : V ≤ 2000 := by have := HVN.out; omega
  rw [HM.out] at HSZ
  rw [HN.out] at HTI
  rw [HN.out, HM.out]
  obtain ⟨g0, HG0⟩ : ∃ g0, Hid (w.heap.size = g0) := ⟨_, Lib.hid rfl⟩
  have BZ0 := Lib.hid bz0
  clear hp hg hL h htt bz0
  go_enter Try.func32, Try.ntmps32
  go_wp2_with fail
  with_reducible refine HSZ.out.mono ?_
  rintro e0 w1 ⟨sa, sc, he, ho1, hb1⟩
  rw [HVN.out] at he ho1
  subst he
  have HW1 : Hid (Below w.heap.size w w1) := Lib.hid (HC0.out.trans (hb1.mono HC0.out.size))
  obtain ⟨g1, HG1⟩ : ∃ g1, Hid (w1.heap.size = g1) := ⟨_, Lib.hid rfl⟩
  have HBD : Hid (Bd w (w1.alloc (.cells #[.int .i64 0, .int .i64 0] 49)) L g0 g1 sa V sc (0, 0)) := Lib.hid (by
    have hc : Chg (fun _ => False) w1 (w1.alloc (.cells #[.int .i64 0, .int .i64 0] 49)) := (Chg.refl _ _).alloc _
    refine ⟨?_, ?_, (ho1.lower HC0.out.size).chg hc (fun _ _ => id), below_two2 HW1.out hc.none⟩
    · rw [← HG0.out]
      exact hc.blk ((hb1.block _ (by simp)).trans BZ0.out) id
    · rw [← HG1.out]
      exact Blk.new w1 #[.int .i64 0, .int .i64 0] 49)
  have HGE : Hid (g0 ≠ g1 ∧ w.heap.size ≤ g1 ∧ w.heap.size ≤ g0) := Lib.hid (by
    have h1 := HG0.out
    have h2 := HG1.out
    have h3 := hb1.size
    simp at h3
    omega)
  have HBS : Hid (Bs X L (Pre 1 1) (0, 0) 1) := Lib.hid (.inl ⟨rfl, fun q hq h => by unfold cand at hq; unfold Pre at h; omega⟩)
  rw [HG0.out]
  clear ho1 hb1
  go_wp2_with fail
  rw [HG1.out]
  obtain ⟨wo, HWO⟩ : ∃ ww, Hid (w1.alloc (.cells #[.int .i64 0, .int .i64 0] 49) = ww) := ⟨_, Lib.hid rfl⟩
  rw [HWO.out] at HBD ⊢
  go_loopw [8, 9] (fun mv i wr => ∃ (a : Nat) (m : Int) (bp : Pr), a ≤ V ∧ 1 ≤ a ∧ i = .int .i64 a ∧ mv = .int .i64 m ∧ Hid (Bd w wr L g0 g1 sa V sc bp) ∧ Hid (Bs X L (Pre a 1) bp m)) (fun _ i _ => V - (intOf i).toNat)
  case atStart => exact ⟨1, 1, (0, 0), by have := HVN.out; omega, by omega, rfl, rfl, HBD, HBS⟩
  case round =>
    obtain ⟨a, m, bp, ha, ha1, rfl, rfl, HB, HS⟩ := hrel
    by_cases hlt : a < V
    · have a0 : (0 : Int) ≤ (a : Int) := by omega
      have a1 : (a : Int) < (V : Int) := by omega
      have HLT := Lib.hid hlt
      obtain ⟨wo2, HWO2⟩ : ∃ ww, Hid (wr = ww) := ⟨_, Lib.hid rfl⟩
      rw [HWO2.out] at HB ⊢
      clear hlt HWO2
      go_wp2_with fail
      go_loopw [8, 10] (fun mv i wr => ∃ (b : Nat) (m : Int) (bp : Pr), b ≤ V ∧ 1 ≤ b ∧ i = .int .i64 b ∧ mv = .int .i64 m ∧ Hid (Bd w wr L g0 g1 sa V sc bp) ∧ Hid (Bs X L (Pre a b) bp m)) (fun _ i _ => V - (intOf i).toNat)
      case atStart => exact ⟨1, m, bp, by have := HVN.out; omega, by omega, rfl, rfl, HB, HS⟩
      case round =>
        obtain ⟨b, m, bp, hb, hb1, rfl, rfl, HB, HS⟩ := hrel
        by_cases hlt : b < V
        · obtain ⟨b1, o1, hb1', e1, l1, cx⟩ := size_at HB.out.sz.rd (t := (a : Int)) (by omega) (by have := HVN.out; omega)
          obtain ⟨b2, o2, hb2', e2, l2, cy⟩ := size_at HB.out.sz.rd (t := (b : Int)) (by omega) (by have := HVN.out; omega)
          subst hb1'
          injection hb2' with hb2'
          injection hb2' with e3 e4
          subst e3 e4
          rw [Int.toNat_natCast] at cx cy
          obtain ⟨sx, HSX⟩ : ∃ s, Hid (szG (szs L) (a : Int) = s) := ⟨_, Lib.hid rfl⟩
          obtain ⟨sy, HSY⟩ : ∃ s, Hid (szG (szs L) (b : Int) = s) := ⟨_, Lib.hid rfl⟩
          have hsx := szG_in L (a : Int)
          have hsy := szG_in L (b : Int)
          rw [HSX.out] at cx hsx
          rw [HSY.out] at cy hsy
          have hsx0 := hsx.1
          have hsx1 := hsx.2
          have hsy0 := hsy.1
          have hsy1 := hsy.2
          have HCD : Hid (cand L ((a : Int), (b : Int)) ↔ sx + sy ≤ 64) := Lib.hid (by
            unfold cand
            dsimp only
            rw [HSX.out, HSY.out]
            have h1 := HVN.out
            exact ⟨fun h => h.2.2.2.2, fun h => ⟨by omega, by omega, by omega, by omega, h⟩⟩)
          have hsum : IntKind.i64.wrap (sx + sy) = sx + sy := IntWalk.i64_in _ (by omega)
          have b0 : (0 : Int) ≤ (b : Int) := by omega
          have b3 : (b : Int) < (V : Int) := by omega
          have HLB := Lib.hid hlt
          have HMG := Lib.hid HS.out.ge
          have HST : Hid (∀ q, Pre a ((b : Int) + 1) q ↔ Pre a b q ∨ q = ((a : Int), (b : Int))) := Lib.hid (pre_step a b)
          clear e1 e2 hsx hsy hlt
          go_upto_region 10 with (fail)
          go_big_quiet (fail)
          clear cx cy hsum
          have HBQ := Lib.hid (HB.out.on (W' := wr.drewN nq) (below_drewN (Below.refl _ _) nq))
          obtain ⟨wq, HWQ⟩ : ∃ ww, Hid (wr.drewN nq = ww) := ⟨_, Lib.hid rfl⟩
          rw [HWQ.out] at HBQ ⊢
          clear HWQ
          by_cases hbig : 64 < sx + sy
          · have hdc : decide (64 < sx + sy) = true := by simp; exact hbig
            have HS2 := Lib.hid (HS.out.pass HST.out (fun h => absurd (HCD.out.1 h) (by omega)))
            go_wp2_with fail
            go_roundw
            case rel => exact ⟨b + 1, m, bp, HLB.out, by omega, by go_num, rfl, HBQ, by rw [show ((b + 1 : Nat) : Int) = (b : Int) + 1 by omega]; exact HS2⟩
            case measure => have := HLB.out; simp [intOf]; omega
          · have hdc : decide (64 < sx + sy) = false := by simp; omega
            have HCA := Lib.hid (HCD.out.2 (by omega))
            have hle : sx + sy ≤ 64 := by omega
            have HTI2 := Lib.hid (HTI.out wq a b HBQ.out.low)
            clear hbig
            go_wp2_with fail
            with_reducible refine HTI2.out.mono ?_
            rintro e0 w5 ⟨rfl, hb5⟩
            have hci := cntX_in X ((a : Int), (b : Int))
            obtain ⟨v, HVV⟩ : ∃ v, Hid (cntX X ((a : Int), (b : Int)) = v) := ⟨_, Lib.hid rfl⟩
            rw [HVV.out] at hci
            have hv0 := hci.1
            have hv1 : v ≤ 100000 := by have := HTT.out; omega
            have HB5 := Lib.hid (HBQ.out.on hb5)
            rw [HVV.out]
            clear hb5 hci
            by_cases h1 : m < v
            · have hd1 : decide (m < v) = true := by simp; exact h1
              have HS2 := Lib.hid (HS.out.take_ HCA.out HST.out (.inl (by rw [HVV.out]; exact h1)))
              rw [HVV.out] at HS2
              have HF := Lib.hid (HB5.out.set ((a : Int), (b : Int)) HGE.out.1 HGE.out.2.1)
              dsimp only at HF
              have q0 : w5.cell? ⟨g1, 0, none⟩ = some (.int .i64 bp.1) := HB5.out.k1.cell 0 rfl
              have q1 : w5.cell? ⟨g1, 1, none⟩ = some (.int .i64 bp.2) := HB5.out.k1.cell 1 rfl
              have f0 := HB5.out.k1.frozen 0
              have f1 := HB5.out.k1.frozen 1
              go_wp2_with fail
              obtain ⟨W9, HW9⟩ : ∃ ww, Hid ((w5.setCell ⟨g1, 0, none⟩ (.int .i64 (a : Int))).setCell ⟨g1, 1, none⟩ (.int .i64 (b : Int)) = ww) := ⟨_, Lib.hid rfl⟩
              rw [HW9.out] at HF ⊢
              clear q0 q1 f0 f1 hd1 hdc h1
              go_roundw
              case rel => exact ⟨b + 1, v, _, HLB.out, by omega, by go_num, rfl, HF, by rw [show ((b + 1 : Nat) : Int) = (b : Int) + 1 by omega]; exact HS2⟩
              case measure => have := HLB.out; simp [intOf]; omega
            · have hd1 : decide (m < v) = false := by simp; omega
              have hl1 : v ≤ m := by omega
              have HS2 := Lib.hid (HS.out.pass HST.out (fun _ => by
                rw [HVV.out]
                by_cases h2 : v = m
                · refine .inr ⟨h2, ?_⟩
                  rcases HS.out with ⟨h3, _⟩ | ⟨_, _, h3, _⟩
                  · exact .inl h3
                  · exact .inr (pre_lex h3)
                · exact .inl (by omega)))
              clear h1
              go_wp2_with fail
              clear hd1 hdc
              go_roundw
              case rel => exact ⟨b + 1, m, bp, HLB.out, by omega, by go_num, rfl, HB5, by rw [show ((b + 1 : Nat) : Int) = (b : Int) + 1 by omega]; exact HS2⟩
              case measure => have := HLB.out; simp [intOf]; omega
        · obtain rfl : b = V := by omega
          have HS2 : Hid (Bs X L (Pre ((a + 1 : Nat) : Int) 1) bp m) := Lib.hid (HS.out.congr (fun q hq => by
            unfold cand at hq
            have := HVN.out
            unfold Pre
            omega) (fun _ h => by unfold Pre at h ⊢; omega))
          clear hlt
          go_wp2_with fail
          go_roundw
          case rel => exact ⟨a + 1, m, bp, HLT.out, by omega, by go_num, rfl, HB, HS2⟩
          case measure => have := HLT.out; simp [intOf]; omega
    · obtain rfl : a = V := by omega
      have HLAST := Lib.hid (HS.out.last (fun q hq => by
        left
        unfold cand at hq
        have := HVN.out
        unfold Pre
        omega))
      have q0 : wr.cell? ⟨g1, 0, none⟩ = some (.int .i64 bp.1) := HB.out.k1.cell 0 rfl
      have q1 : wr.cell? ⟨g1, 1, none⟩ = some (.int .i64 bp.2) := HB.out.k1.cell 1 rfl
      have z0 : wr.cell? ⟨g0, 0, none⟩ = some (.int .i64 0) := HB.out.k0.cell 0 rfl
      have z1 : wr.cell? ⟨g0, 1, none⟩ = some (.int .i64 0) := HB.out.k0.cell 1 rfl
      have f0 := HB.out.k0.frozen 0
      have f1 := HB.out.k0.frozen 1
      have HK9 := Lib.hid ((HB.out.k0.set 0 (.int .i64 bp.1)).set 1 (.int .i64 bp.2))
      have HB9 : Hid (Below w.heap.size w ((wr.setCell ⟨g0, 0, none⟩ (.int .i64 bp.1)).setCell ⟨g0, 1, none⟩ (.int .i64 bp.2))) := Lib.hid ((HB.out.low.setCell (by show w.heap.size ≤ g0; exact HGE.out.2.2) _).setCell (by show w.heap.size ≤ g0; exact HGE.out.2.2) _)
      clear hlt
      go_wp2_with fail
      obtain ⟨W9, HW9⟩ : ∃ ww, Hid ((wr.setCell ⟨g0, 0, none⟩ (.int .i64 bp.1)).setCell ⟨g0, 1, none⟩ (.int .i64 bp.2) = ww) := ⟨_, Lib.hid rfl⟩
      rw [HW9.out] at HK9 HB9 ⊢
      clear q0 q1 z0 z1 f0 f1
      have r0 : W9.cell? ⟨g0, 0, none⟩ = some (.int .i64 bp.1) := HK9.out.cell 0 rfl
      have r1 : W9.cell? ⟨g0, 1, none⟩ = some (.int .i64 bp.2) := HK9.out.cell 1 rfl
      refine bodyPost_ret (v := .tuple #[.agg #[.int .i64 bp.1, .int .i64 bp.2], .bool (decide (1 < m))]) (by simp [results, Try.results32, go_sem, r0, r1]) rfl ⟨HB9.out, bp, _, rfl, ?_⟩
      rcases HLAST.out with ⟨h1, h2⟩ | ⟨h1, h2⟩
      · exact .inr ⟨by simp; omega, h2⟩
      · exact .inl ⟨by simp; omega, h2⟩
end
end Go.Proofs.Ytlndhmkkffcbnaa.TlD
