/-
  Decode.
-/
import Derived.Test.YtlndhmkkffcbnaaTkU
namespace Go.Proofs.Ytlndhmkkffcbnaa.TkD
open Go.RowKit Go.Proofs.Ytlndhmkkffcbnaa.Kit Go.Proofs.Ytlndhmkkffcbnaa.TkM Go.Proofs.Ytlndhmkkffcbnaa.TkP Go.Proofs.Ytlndhmkkffcbnaa.TkQ Go.Proofs.Ytlndhmkkffcbnaa.TkW Go.Proofs.Ytlndhmkkffcbnaa.TkA Go.Proofs.Ytlndhmkkffcbnaa.TkN Go.Proofs.Ytlndhmkkffcbnaa.TkO Go.Proofs.Ytlndhmkkffcbnaa.TkL Go.Proofs.Ytlndhmkkffcbnaa.TkR Go.Proofs.Ytlndhmkkffcbnaa.TkS Go.Proofs.Ytlndhmkkffcbnaa.TkT Go.Proofs.Ytlndhmkkffcbnaa.TkU
attribute [local go_sem high] max_imax min_imin
attribute [local go_sem ↓] Go.wp_at_zero Go.wp_at_succ
set_option linter.unusedVariables false
/-- The bytes of a list of halves. -/
def byt : List Int → List Int
  | u :: v :: r => ((u - 1) * 16 + (v - 1)) :: byt r
  | _ => []
theorem byt_app : ∀ {x y : List Int}, x.length % 2 = 0 → byt (x ++ y) = byt x ++ byt y
  | [], y, _ => rfl
  | [a], y, h => by simp at h
  | a :: b :: r, y, h => by
    show _ :: byt (r ++ y) = _ :: byt r ++ byt y
    rw [byt_app (x := r) (by simp at h; omega)]
    rfl
theorem byt_len : ∀ (x : List Int), (byt x).length = x.length / 2
  | [] => rfl
  | [a] => by simp [byt]
  | a :: b :: r => by
    show (byt r).length + 1 = _
    rw [byt_len r]
    simp
    omega
theorem byt_hv : ∀ (b : List Int), okB b → byt (hv b) = b
  | [], _ => rfl
  | x :: b, h => by
    show ((x / 16 + 1 - 1) * 16 + (x % 16 + 1 - 1)) :: byt (hv b) = x :: b
    rw [byt_hv b (fun y hy => h y (List.mem_cons_of_mem _ hy))]
    congr 1
    omega
theorem byt_snoc {x : List Int} {k : Nat} {u v : Int} (h0 : x[2 * k]? = some u) (h1 : x[2 * k + 1]? = some v) : byt (x.take (2 * (k + 1))) = byt (x.take (2 * k)) ++ [(u - 1) * 16 + (v - 1)] := by
  have hl := (List.getElem?_eq_some_iff.1 h1).1
  rw [show 2 * (k + 1) = 2 * k + 1 + 1 by omega, List.take_add_one, List.take_add_one, h0, h1, List.append_assoc, byt_app (by simp; omega)]
  rfl
theorem byt_in {x : List Int} (h : ∀ u ∈ x, 1 ≤ u ∧ u < 17) : okB (byt x) := by
  have : ∀ n (x : List Int), x.length ≤ n → (∀ u ∈ x, 1 ≤ u ∧ u < 17) → okB (byt x) := by
    intro n
    induction n with
    | zero => intro x hx _; have : x = [] := List.eq_nil_of_length_eq_zero (by omega); subst this; intro y hy; simp [byt] at hy
    | succ n ih =>
      intro x hx h
      match x, hx, h with
      | [], _, _ => intro y hy; simp [byt] at hy
      | [a], _, _ => intro y hy; simp [byt] at hy
      | a :: b :: r, hx, h =>
        intro y hy
        rcases List.mem_cons.1 hy with rfl | hy
        · have h1 := h a (by simp)
          have h2 := h b (by simp)
          omega
        · exact ih r (by simp at hx; omega) (fun u hu => h u (by simp [hu])) y hy
  exact this _ x (Nat.le_refl _) h
def DecA (L : List Pr) (ts bs : List Int) (f : Int) : Prop :=
  (¬ (∀ t ∈ ts, 1 ≤ t ∧ t < 17 + (L.length : Int)) ∧ bs = [] ∧ f = 1) ∨ ∃ x, Xps L ts x ∧ ((4096 < x.length ∧ bs = [] ∧ f = 5) ∨ (x.length ≤ 4096 ∧ x.length % 2 = 1 ∧ bs = [] ∧ f = 3) ∨ (x.length ≤ 4096 ∧ x.length % 2 = 0 ∧ bs = byt x ∧ f = 0))
theorem DecA.one {L : List Pr} {ts bs bs' : List Int} {f f' : Int} (h : DecA L ts bs f) (h' : DecA L ts bs' f') : bs = bs' ∧ f = f' := by
  rcases h with ⟨h0, rfl, rfl⟩ | ⟨x, hx, h⟩
  · rcases h' with ⟨_, rfl, rfl⟩ | ⟨x, hx, h'⟩
    · exact ⟨rfl, rfl⟩
    · exact absurd hx.range h0
  · rcases h' with ⟨h0, rfl, rfl⟩ | ⟨x', hx', h'⟩
    · exact absurd hx.range h0
    · obtain rfl := hx.one hx'
      rcases h with ⟨h1, rfl, rfl⟩ | ⟨h1, h2, rfl, rfl⟩ | ⟨h1, h2, rfl, rfl⟩ <;> rcases h' with ⟨h1', rfl, rfl⟩ | ⟨h1', h2', rfl, rfl⟩ | ⟨h1', h2', rfl, rfl⟩ <;> first | exact ⟨rfl, rfl⟩ | omega
def DecR (w : World) (L : List Pr) (ts : List Int) (e : Ending) (w' : World) : Prop :=
  Below w.heap.size w w' ∧ ∃ bs a c f, e = .returned (.tuple #[.slice a bs.length c, .int .i64 f]) ∧ Own w' w.heap.size 5 1 a bs.length c (bys bs) ∧ DecA L ts bs f
theorem Xps.snoc {L : List Pr} {l x z : List Int} {t : Int} (h : Xps L l x) (k : Xp L t z) : Xps L (l ++ [t]) (x ++ z) := by
  have := h.app (Xps.cons k .nil)
  rwa [List.append_nil] at this
theorem or_all : ∀ a b : Fin 16, bits .or .u8 (IntKind.u8.wrap (IntKind.u8.wrap (a.val : Int) * 16)) (IntKind.u8.wrap (b.val : Int)) = (a.val : Int) * 16 + (b.val : Int) := by decide +kernel
theorem or_in {x y : Int} (hx : 1 ≤ x ∧ x < 17) (hy : 1 ≤ y ∧ y < 17) : bits .or .u8 (IntKind.u8.wrap (IntKind.u8.wrap (x - 1) * 16)) (IntKind.u8.wrap (y - 1)) = (x - 1) * 16 + (y - 1) := by
  obtain ⟨a, rfl⟩ : ∃ a : Nat, x = a + 1 := ⟨(x - 1).toNat, by omega⟩
  obtain ⟨b, rfl⟩ : ∃ b : Nat, y = b + 1 := ⟨(y - 1).toNat, by omega⟩
  have := or_all ⟨a, by omega⟩ ⟨b, by omega⟩
  rw [show (a : Int) + 1 - 1 = a by omega, show (b : Int) + 1 - 1 = b by omega]
  exact this
theorem el23 : ElemT Try.prog 23 5 1 1 := by
  refine ⟨Try.underlying23, ?_⟩
  have h : (Try.prog.info? 5).map (fun i => (i.zero, i.size, i.bytes)) = some (some (.int .u8 0), 1, 1) := by kernel_rfl
  cases hi : Try.prog.info? 5 with
  | none => rw [hi] at h; simp at h
  | some i =>
    rw [hi] at h
    simp at h
    exact ⟨i, _, rfl, h.1, h.2.1, h.2.2, rfl⟩
section
variable {w : World}
set_option maxHeartbeats 2000000 in
theorem dec_any {B g : Nat} {L : List Pr} (ht : Tab w B g L) (hg : TkP.Good L) (hL : L.length ≤ 1000) {a : Option Addr} {c : Nat} {ts : List Int} (h : Rd w 1 a ts.length c (ints ts)) (hok : ∀ t ∈ ts, okT t) (hts : ts.length ≤ 100000) :
    Calls Try.prog 14 #[.pointer (some ⟨g, 0, none⟩), .slice a ts.length c] w (DecR w L ts) := by
  have HOK := Lib.hid (ok_any ht)
  have HV := Lib.hid (vocab_any ht)
  have HT := Lib.hid ht
  have HG := Lib.hid hg
  have HLL := Lib.hid hL
  have HR := Lib.hid h
  have HTO := Lib.hid hok
  have hmax := Nat.le_trans h.cap h.max
  unfold maxLen at hmax
  have BAD : Hid (∀ f, DecA L ts [] f → DecR w L ts (.returned (.tuple #[.slice none 0 0, .int .i64 f])) w) := Lib.hid (fun f hf => ⟨Below.refl _ _, [], none, 0, f, rfl, Own.none_ _ _ _ _, hf⟩)
  obtain ⟨am, cm, sa, sc, bm, htb⟩ := ht
  have c2 : w.cell? ⟨g, 2, none⟩ = some (.slice sa (17 + L.length) sc) := htb.blk.cell 2 rfl
  have HSR := Lib.hid htb.sz.rd
  obtain ⟨V, HVN⟩ : ∃ V, Hid (17 + L.length = V) := ⟨_, Lib.hid rfl⟩
  obtain ⟨n, HN⟩ : ∃ n, Hid (ts.length = n) := ⟨_, Lib.hid rfl⟩
  rw [HVN.out] at HV c2 HSR
  rw [HN.out] at hmax HR hts ⊢
  have hVb : V ≤ 2000 := by have := HVN.out; omega
  clear htb h hok hg hL
  go_enter Try.func14, Try.ntmps14
  go_wp2_with fail
  with_reducible refine HOK.out.mono ?_
  rintro e w1 ⟨rfl, rfl⟩
  go_wp2_with fail
  go_loop [6, 8, 19] (fun nv xv i => ∃ (k : Nat) (m : Int) (y : List Int), k ≤ n ∧ i = .int .i64 k ∧ nv = .int .i64 m ∧ 0 ≤ m ∧ m ≤ 1048576 ∧ Hid (m = imin y.length 1048576) ∧ Hid (Xps L (ts.take k) y)) (fun _ _ i => n - (intOf i).toNat)
  case atStart => exact ⟨0, 0, [], by omega, rfl, rfl, by omega, by omega, Lib.hid rfl, Lib.hid .nil⟩
  case round =>
    obtain ⟨k, m, y, hk, rfl, rfl, hm0, hm1, HM, HX⟩ := hrel
    by_cases hlt : k < n
    · obtain ⟨b0, off, u, rfl, hu, hcell⟩ := HR.out.get hlt
      obtain ⟨t, htk, rfl⟩ := ints_get hu
      have k0 : (0 : Int) ≤ (k : Int) := by omega
      have k1 : (k : Int) < (n : Int) := by omega
      have HLT := Lib.hid hlt
      have HTK := Lib.hid htk
      clear hu htk hlt
      by_cases hr : 1 ≤ t ∧ t < (V : Int)
      · obtain ⟨z, hz⟩ := xp_ex HG.out _ t rfl hr.1 (by have := HVN.out; omega)
        have hzs := hz.size HG.out
        obtain ⟨tn, rfl⟩ : ∃ tn : Nat, t = tn := ⟨t.toNat, by omega⟩
        obtain ⟨b1, o1, us, rfl, hus, hcs⟩ := HSR.out.get (k := tn) (by omega)
        obtain ⟨s, hs, rfl⟩ := ints_get hus
        have hse : s = imin z.length 1048576 := by
          rw [← hzs]
          unfold szG
          rw [List.getD_eq_getElem?_getD, Int.toNat_natCast, hs]
          rfl
        have hs0 : 0 ≤ s := by rw [hse]; unfold imin; split <;> omega
        have hs1 : s ≤ 1048576 := by rw [hse]; unfold imin; split <;> omega
        have t0 : (0 : Int) ≤ (tn : Int) := by omega
        have t1 : (1 : Int) ≤ (tn : Int) := hr.1
        have t2 : (tn : Int) < (V : Int) := hr.2
        have HNM : Hid (imin (m + s) 1048576 = imin (y ++ z).length 1048576 ∧ 0 ≤ imin (m + s) 1048576 ∧ imin (m + s) 1048576 ≤ 1048576) := Lib.hid (by
          rw [HM.out, hse, List.length_append]
          unfold imin
          refine ⟨?_, ?_, ?_⟩ <;> (repeat' split) <;> omega)
        have HX2 : Hid (Xps L (ts.take (k + 1)) (y ++ z)) := Lib.hid (by
          rw [List.take_add_one, HTK.out]
          exact Xps.snoc HX.out hz)
        clear hz hzs hse hs hus hr
        go_wp2_with fail
        with_reducible refine HV.out.mono ?_
        rintro e w1 ⟨rfl, rfl⟩
        go_wp2_with fail
        go_round
        case rel => exact ⟨k + 1, _, _, HLT.out, by go_num, rfl, HNM.out.2.1, HNM.out.2.2, Lib.hid HNM.out.1, HX2⟩
        case measure => have := HLT.out; simp [intOf]; omega
      · have HB := Lib.hid (BAD.out 1 (.inl ⟨fun h => hr (by have h1 := h t (List.mem_of_getElem? HTK.out); have := HVN.out; omega), rfl, rfl⟩))
        by_cases h1 : t < 1
        · clear hr
          go_wp2_with fail
          go_ret2
          exact HB.out
        · have h2 : (V : Int) ≤ t := by omega
          clear hr
          go_wp2_with fail
          with_reducible refine HV.out.mono ?_
          rintro e w1 ⟨rfl, rfl⟩
          go_wp2_with fail
          go_ret2
          exact HB.out
    · obtain rfl : k = n := by omega
      have hxx := HX.out
      rw [List.take_of_length_le (by have := HN.out; omega)] at hxx
      have HXX := Lib.hid hxx
      clear hlt hxx
      have hmy : m = imin y.length 1048576 := HM.out
      by_cases hb : 4096 < y.length
      · have HB := Lib.hid (BAD.out 5 (.inr ⟨y, HXX.out, .inl ⟨hb, rfl, rfl⟩⟩))
        have hm2 : 4096 < m := by rw [hmy]; unfold imin; split <;> omega
        clear hmy
        go_wp2_with fail
        go_ret2
        exact HB.out
      · have hm2 : m = y.length := by rw [hmy]; unfold imin; split <;> omega
        have hm3 : m ≤ 4096 := by omega
        clear hmy
        by_cases hp : y.length % 2 = 1
        · have HB := Lib.hid (BAD.out 3 (.inr ⟨y, HXX.out, .inr (.inl ⟨by omega, hp, rfl, rfl⟩)⟩))
          have hm4 : ((m % 2) == 0) = false := by simp; omega
          have hm5 : ((m % 2) != 0) = true := by simp; omega
          clear hm2
          go_wp2_with fail
          go_ret2
          exact HB.out
        · have hm4 : ((m % 2) == 0) = true := by simp; omega
          have hm5 : ((m % 2) != 0) = false := by simp; omega
          have HP : Hid (y.length % 2 = 0) := Lib.hid (by omega)
          have HY : Hid (y.length ≤ 4096) := Lib.hid (by omega)
          have hm6 : decide ((4096 : Int) < m) = false := by simp; omega
          obtain ⟨N, HKN⟩ : ∃ N, Hid (k = N) := ⟨_, Lib.hid rfl⟩
          rw [HKN.out] at HR HN hmax hts ⊢
          clear hm2 hp hb hk
          go_wp2_with fail
          go_loopw [9, 51] (fun lv i wr => ∃ (j : Nat) (z : List Int) (a1 : Option Addr) (c1 : Nat), j ≤ N ∧ i = .int .i64 j ∧ lv = .slice a1 z.length c1 ∧ Hid (Own wr w.heap.size 3 1 a1 z.length c1 (ints z)) ∧ Hid (Below w.heap.size w wr) ∧ Hid (Xps L (ts.take j) z)) (fun _ i _ => N - (intOf i).toNat)
          case atStart => exact ⟨0, [], none, 0, by omega, rfl, rfl, Lib.hid (Own.none_ _ _ _ _), Lib.hid (Below.refl _ _), Lib.hid .nil⟩
          case round =>
            obtain ⟨j, z, a1, c1, hj, rfl, rfl, HO, HB, HX⟩ := hrel
            by_cases hlt : j < N
            · obtain ⟨b0, off, u, rfl, hu, hcell⟩ := (rd_on (by omega) HR.out HB.out).get hlt
              obtain ⟨t, htk, rfl⟩ := ints_get hu
              have HTK := Lib.hid htk
              obtain ⟨v, hv⟩ : ∃ v, Xp L t v := by
                have := HXX.out.range t (List.mem_of_getElem? htk)
                exact xp_ex HG.out _ t rfl this.1 this.2
              have HX2 : Hid (Xps L (ts.take (j + 1)) (z ++ v)) := Lib.hid (by
                rw [List.take_add_one, HTK.out]
                exact Xps.snoc HX.out hv)
              have hzl : z.length + v.length ≤ 4096 := by
                have h1 := HX2.out
                have h2 : Xps L (ts.take (j + 1) ++ ts.drop (j + 1)) y := by rw [List.take_append_drop]; exact HXX.out
                obtain ⟨p, q, e, hp, hq⟩ := h2.split
                have e2 := h1.one hp
                have e3 := HY.out
                rw [e, ← e2, List.length_append, List.length_append] at e3
                omega
              have HSP := Lib.hid (spell_any (B := w.heap.size) (B0 := B) (g := g) HG.out HLL.out hv (w := wr) (l := z) (a := a1) (c := c1) ⟨fun w' hc => HT.out.on (hc.below HB.out HB.out.size (fun k hk => (HO.out.lt k hk).1)), HO.out, HB.out.size⟩ (by omega))
              have HFIN : Hid (∀ e w', SpellR wr w.heap.size z v a1 e w' → ∃ a2 c2, e = .returned (.slice a2 (z ++ v).length c2) ∧ Own w' w.heap.size 3 1 a2 (z ++ v).length c2 (ints (z ++ v)) ∧ Below w.heap.size w w') := Lib.hid (by
                rintro e w' ⟨a', c', rfl, h⟩
                exact ⟨a', c', rfl, h.own, h.chg.below HB.out HB.out.size (fun k hk => (HO.out.lt k hk).1)⟩)
              have k0 : (0 : Int) ≤ (j : Int) := by omega
              have k1 : (j : Int) < (N : Int) := by omega
              have HLT := Lib.hid hlt
              clear hu htk hlt hv hzl
              go_wp2_with fail
              with_reducible refine HSP.out.mono ?_
              intro e w1 hs
              obtain ⟨a2, c2, rfl, ho2, hb2⟩ := HFIN.out e w1 hs
              have HO2 := Lib.hid ho2
              have HB2 := Lib.hid hb2
              clear hs ho2 hb2
              obtain ⟨zl, HZL⟩ : ∃ zl, Hid ((z ++ v).length = zl) := ⟨_, Lib.hid rfl⟩
              rw [HZL.out]
              go_wp2_with fail
              go_roundw
              case rel => exact ⟨j + 1, z ++ v, a2, c2, HLT.out, by go_num, by rw [HZL.out], HO2, HB2, HX2⟩
              case measure => have := HLT.out; simp [intOf]; omega
            · obtain rfl : j = N := by omega
              have hzy : z = y := by
                have h1 := HX.out
                rw [List.take_of_length_le (by have := HN.out; omega)] at h1
                exact h1.one HXX.out
              subst hzy
              have HLOW := Lib.hid HXX.out.low
              have HO5 : Hid (∀ w', Chg (fun _ => False) wr w' → Own w' w.heap.size 3 1 a1 z.length c1 (ints z)) := Lib.hid (fun w' hc => HO.out.chg hc (fun _ _ => id))
              have HFIN : Hid (∀ a2 c2 r w', Own w' w.heap.size 5 1 a2 r c2 (bys (byt (z.take (2 * r)))) → 2 * r = z.length → Below w.heap.size w w' → DecR w L ts (.returned (.tuple #[.slice a2 r c2, .int .i64 0])) w') := Lib.hid (by
                intro a2 c2 r w' ho hr hb
                have e : r = (byt z).length := by rw [byt_len]; omega
                rw [hr, List.take_length] at ho
                exact ⟨hb, byt z, a2, c2, 0, by rw [← e], by rw [← e]; exact ho, .inr ⟨z, HXX.out, .inr (.inr ⟨HY.out, HP.out, rfl, rfl⟩)⟩⟩)
              obtain ⟨Z, HZ⟩ : ∃ Z, Hid (z.length = Z) := ⟨_, Lib.hid rfl⟩
              rw [HZ.out] at HO HY HP HO5 HFIN ⊢
              have hZ : Z ≤ 4096 := HY.out
              clear hlt hj
              go_wp2_with fail
              go_loopw [12, 13] (fun bv i wq => ∃ (r q : Nat) (a2 : Option Addr) (c2 : Nat), q ≤ Z ∧ i = .int .i64 q ∧ bv = .slice a2 r c2 ∧ Hid (q = 2 * r) ∧ Hid (Own wq w.heap.size 5 1 a2 r c2 (bys (byt (z.take q)))) ∧ Hid (Own wq w.heap.size 3 1 a1 Z c1 (ints z)) ∧ Hid (Below w.heap.size w wq)) (fun _ i _ => Z - (intOf i).toNat)
              case atStart => exact ⟨0, 0, none, 0, by omega, rfl, rfl, Lib.hid rfl, Lib.hid (Own.none_ _ _ _ _), HO, HB⟩
              case round =>
                obtain ⟨r, q, a2, c2, hq, rfl, rfl, HQR, HO2, HO3, HB2⟩ := hrel
                by_cases hlt : q < Z
                · have hq1 : q + 1 < Z := by have := HQR.out; have := HP.out; omega
                  obtain ⟨b0, o0, u, rfl, hu, hcu⟩ := HO3.out.rd.get hlt
                  obtain ⟨x, hx, rfl⟩ := ints_get hu
                  obtain ⟨b0', o0', u, he, hu1, hcv⟩ := HO3.out.rd.get hq1
                  injection he with he
                  injection he with e1 e2
                  subst e1 e2
                  obtain ⟨y, hy, rfl⟩ := ints_get hu1
                  have hlx := HLOW.out x (List.mem_of_getElem? hx)
                  have hly := HLOW.out y (List.mem_of_getElem? hy)
                  have x0 := hlx.1
                  have x1 := hlx.2
                  have y0 := hly.1
                  have y1 := hly.2
                  have q0 : (0 : Int) ≤ (q : Int) := by omega
                  have q1 : (q : Int) < (Z : Int) := by omega
                  have q2 : (q : Int) + 1 < (Z : Int) := by omega
                  have HLT := Lib.hid hq1
                  have s1 : IntKind.i64.wrap ((q : Int) + 1) = (q : Int) + 1 := IntWalk.i64_in _ (by omega)
                  have s2 : (0 : Int) ≤ (q : Int) + 1 := by omega
                  have s3 : ((q : Int) + 1).toNat = q + 1 := by omega
                  have s4 : IntKind.i64.wrap (x - 1) = x - 1 := IntWalk.i64_in _ (by omega)
                  have s5 : IntKind.i64.wrap (y - 1) = y - 1 := IntWalk.i64_in _ (by omega)
                  clear hu hu1 hlx hly hlt hq1
                  have hor := or_in (x := x) (y := y) ⟨x0, x1⟩ ⟨y0, y1⟩
                  obtain ⟨bt, HBT⟩ : ∃ bt, Hid ((x - 1) * 16 + (y - 1) = bt) := ⟨_, Lib.hid rfl⟩
                  rw [HBT.out] at hor
                  have HZO := Lib.hid (HO2.out.chg ((Chg.refl (fun _ => False) wr).drew.alloc (.cells #[.int .u8 bt] 5)) (fun _ _ => id))
                  have HZR := Lib.hid (Own.made (B := wr.drew.heap.size) (size := 1) wr.drew #[.int .u8 bt] 5 1 (Nat.le_refl _) (by unfold maxLen; omega) rfl).rd
                  have H1C : Hid (∀ u ∈ [Value.int .u8 bt], u.oneCell' = true) := Lib.hid (by simp [Value.oneCell'])
                  have HSZ : Hid (w.heap.size ≤ (wr.drew.alloc (.cells #[.int .u8 bt] 5)).heap.size) := Lib.hid (by have := HB2.out.size; show _ ≤ (wr.drew.alloc (.cells #[.int .u8 bt] 5)).heap.size; simp; omega)
                  have HRB : Hid (r ≤ 4096) := Lib.hid (by have := HQR.out; omega)
                  have HGO : Hid (∀ a3 c3 w3, Own w3 w.heap.size 5 1 a3 (r + 1) c3 (bys (byt (z.take q)) ++ [.int .u8 bt]) → (wr.drew.alloc (.cells #[.int .u8 bt] 5)).grownBy w3 (ob a2) → Own w3 w.heap.size 5 1 a3 (r + 1) c3 (bys (byt (z.take (q + 2)))) ∧ Own w3 w.heap.size 3 1 (some ⟨b0, o0, none⟩) Z c1 (ints z) ∧ Below w.heap.size w w3) := Lib.hid (by
                    intro a3 c3 w3 h3 hg3
                    have hc3 := Chg.of_grown' hg3
                    have ho3 := HO3.out.chg ((Chg.refl (fun _ => False) wr).drew.alloc (.cells #[.int .u8 bt] 5)) (fun _ _ => id)
                    refine ⟨?_, ho3.chg hc3 (fun k hk => own_ob ho3 HZO.out (by decide) k hk), hc3.below ((below_drew HB2.out).alloc HB2.out.size _) HSZ.out (fun k hk => (HZO.out.lt k hk).1)⟩
                    have e := byt_snoc (x := z) (k := r) (by rw [← HQR.out]; exact hx) (by rw [← HQR.out]; exact hy)
                    rw [show 2 * (r + 1) = q + 2 by have := HQR.out; omega, ← HQR.out, HBT.out] at e
                    rw [e]
                    unfold bys at h3 ⊢
                    rw [List.map_append]
                    exact h3)
                  clear hx hy x0 x1 y0 y1
                  go_upto_region 25 with (fail)
                  go_region_law (refine step_app el23 (by omega) (by rfl) (.tmp 66) (.tmp 82) (by rfl) (by rfl) HZO.out (by rfl) HZR.out H1C.out (by have := HRB.out; omega) (by have := HRB.out; omega) HSZ.out ?_; intro a3 c3 w3 ho3 hg3 ha3; have HG3 := Lib.hid (HGO.out a3 c3 w3 ho3 hg3); clear ho3 hg3 ha3)
                  all_goals
                    clear s1 s2 s3 s4 s5 hor
                    go_wp2_with fail
                    go_roundw
                    case rel => exact ⟨r + 1, q + 2, a3, c3, HLT.out, by go_num, rfl, Lib.hid (by have := HQR.out; omega), Lib.hid HG3.out.1, Lib.hid HG3.out.2.1, Lib.hid HG3.out.2.2⟩
                    case measure => have := HLT.out; simp [intOf]; omega
                · obtain rfl : q = Z := by omega
                  have HF : Hid (DecR w L ts (.returned (.tuple #[.slice a2 r c2, .int .i64 0])) wr) := Lib.hid (HFIN.out a2 c2 r wr (by rw [← HQR.out]; exact HO2.out) HQR.out.symm HB2.out)
                  clear hlt
                  go_wp2_with fail
                  go_ret2
                  exact HF.out
end
end Go.Proofs.Ytlndhmkkffcbnaa.TkD
