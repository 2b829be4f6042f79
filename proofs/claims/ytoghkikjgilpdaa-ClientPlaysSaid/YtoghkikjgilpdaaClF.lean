/-
  ClientRef: if each Tokens that comes tells a text, from its place on, the tokens are its beginning.
-/
import Derived.Test.YtoghkikjgilpdaaClA
import Derived.Test.YtoghkikjgilpdaaSlices
namespace Go.Proofs.Ytoghkikjgilpdaa.ClF
open Go.RowKit Go.Proofs.Ytoghkikjgilpdaa.Kit Go.Proofs.Ytoghkikjgilpdaa.ClW Go.Proofs.Ytoghkikjgilpdaa.ClV Go.Proofs.Ytoghkikjgilpdaa.ClS Go.Proofs.Ytoghkikjgilpdaa.ClQ Go.Proofs.Ytoghkikjgilpdaa.ClA
attribute [local go_sem high] max_imax min_imin
set_option linter.unusedVariables false

theorem take_len {tl text : List Int} (hp : tl <+: text) : tl = text.take tl.length := by
  obtain ⟨r, rfl⟩ := hp
  simp
theorem ref_step {text tl : List Int} (hp : tl <+: text) {a e : Nat} (ha : a ≤ e) (he : e ≤ text.length) :
    takeN tl ((text.take e).drop a) a <+: text ∧ ¬ (a ≤ (takeN tl ((text.take e).drop a) a).length ∧ (takeN tl ((text.take e).drop a) a).length < e) := by
  have hl : ((text.take e).drop a).length = e - a := by simp; omega
  have hpl := hp.length_le
  unfold takeN
  split
  · rename_i hc
    rw [hl] at hc
    have e1 : ((tl.length : Int) - (a : Int)).toNat = tl.length - a := by omega
    rw [e1, List.drop_drop, show a + (tl.length - a) = tl.length by omega]
    have e2 : tl ++ (text.take e).drop tl.length = text.take e := by
      obtain ⟨r, rfl⟩ := hp
      rw [List.take_append, List.take_of_length_le (by omega)]
      simp
    rw [e2]
    exact ⟨List.take_prefix _ _, by simp; omega⟩
  · rename_i hc
    rw [hl] at hc
    exact ⟨hp, by omega⟩

/-- The cells of a step. -/
def xc (x0 x1 : Int) (b : Bool) (m : M) : List Value := [.int .u8 x0, .int .i64 x1, .bool b, .int .i64 m.kind, .int .u64 m.stream, .int .u64 m.session, .int .u64 m.attempt, .int .u64 m.inc, .int .u64 m.n, .int .u64 m.count, .int .i64 m.why, .int .u64 m.js, .slice m.ja m.jn m.jc, .int .i64 m.jm, .slice m.la m.ln m.lc]
/-- A step, as it came in. -/
def IsStep (w : World) (row : List Value) : Prop := ∃ (x0 x1 : Int) (b : Bool) (m : M) (jl ll : List Int), row = xc x0 x1 b m ∧ 0 ≤ x0 ∧ x0 ≤ 255 ∧ -9223372036854775808 ≤ x1 ∧ x1 ≤ 9223372036854775807 ∧ 0 ≤ m.n ∧ m.n ≤ 18446744073709551615 ∧ 0 ≤ m.count ∧ m.count ≤ 18446744073709551615 ∧
  Rd w 1 m.ja m.jn m.jc (ints jl) ∧ Rd w 1 m.la m.ln m.lc (ints ll)

section
variable {w : World} {tx : List Int}
theorem ob_add (a : Option Addr) (k : Nat) : ob (a.map (fun x => x.add k)) = ob a := by
  cases a with
  | none => rfl
  | some ad =>
    simp only [ob, Option.map_some]
    unfold Addr.add
    split <;> rfl
theorem arrive_list {B g : Nat} {k : Ck} {pl tl ll : List Int} (h : Cl w B g k pl tl) (t : Int) (h0 : k.en = 0) (n : Int) (hn : 0 ≤ n) {la : Option Addr} {ln lc : Nat} (hr : Rd w 1 la ln lc (ints ll)) (hfar : 0 < ln → ∀ x, ob la = some x → x ≠ g) (hl : ln ≤ 549755813888) (ht : k.tn ≤ 549755813888) :
    Calls Try.prog 10 #[.pointer (some ⟨g, 0, none⟩), .int .i64 t, .agg #[.int .i64 4, .int .u64 3, .int .u64 0, .int .u64 0, .int .u64 0, .int .u64 n, .int .u64 0, .int .i64 0, .int .u64 0, .slice none 0 0, .int .i64 0, .slice la ln lc]] w (Arrived w B g k t pl (takeN tl ll n) k.en) :=
  arrive_tok (m := ⟨4, 3, 0, 0, 0, n, 0, 0, 0, none, 0, 0, 0, la, ln, lc⟩) h t h0 rfl rfl hn hr hfar hl ht
set_option maxRecDepth 100000 in
set_option maxHeartbeats 1000000 in
theorem law_any {a : Option Addr} {n c : Nat} (ht : Rd w 1 a n c (ints tx)) (v : Value) (xs : List (List Value)) (hx : RowsAt w 15 v xs) (hs : ∀ row ∈ xs, IsStep w row) :
    Calls Try.prog 3 #[.slice a n c, v] w fun e w' => e = .returned (.bool true) ∧ Below w.heap.size w w' := by
  have hu := Try.underlying24
  obtain ⟨sa, sc, rfl⟩ := hx.slice
  have HX := Lib.hid hx
  have HT := Lib.hid ht
  have hn := Nat.le_trans ht.cap ht.max
  unfold maxLen at hn
  have HTL := Lib.hid (rd_len ht)
  clear hx ht
  go_enter Try.func3, Try.ntmps3
  go_wp2_with fail
  refine (new_yes (js := 0) (jm := 0) (ev := 5) (pl := []) (Rd.none_ w 1) (by omega) (by omega) (by omega)).mono ?_
  rintro e w1 ⟨g, ja, jc, rfl, hg, h1, hb1⟩
  have H1 := Lib.hid h1
  have HB1 := Lib.hid hb1
  have HG := Lib.hid hg
  clear h1 hb1 hg
  by_cases hbig : 300 < n
  · go_wp2_with fail
    refine alive_any.mono ?_
    rintro e w2 ⟨rfl, hb2⟩
    go_wp2
    go_ret
    exact ⟨rfl, HB1.out.trans (hb2.mono HB1.out.size)⟩
  · go_wp2_with fail
    have hl := HX.out.1
    have hcap : xs.length ≤ sc := by
      rcases HX.out.2 with ⟨h0, _⟩ | ⟨_, _, _, hv, hl2, _⟩
      · rw [h0]; simp
      · injection hv with _ _ hc; rw [hc]; exact hl2
    refine (short_any sa xs.length sc hl hcap).mono ?_
    rintro e w2 ⟨rfl, nd, rfl⟩
    have hX2 := HX.out.take_ (min xs.length 150) (Nat.min_le_left _ _)
    obtain ⟨ys, HY⟩ : ∃ ys, Hid (xs.take (min xs.length 150) = ys) := ⟨_, rfl⟩
    have hyl : min xs.length 150 = ys.length := by rw [← HY.out, List.length_take]; omega
    have hy3 : ys.length ≤ 150 := by omega
    have hys : ∀ row ∈ ys, IsStep w row := fun row hr => hs row (by rw [← HY.out] at hr; exact List.mem_of_mem_take hr)
    rw [HY.out, hyl] at hX2
    rw [hyl]
    have HY2 := Lib.hid hX2
    have HYS := Lib.hid hys
    clear hX2 hys hyl HY hl hcap HX hs
    go_wp2_with fail
    go_loopw [40] (fun i wr => ∃ (k : Nat) (s : Ck) (tl : List Int), k ≤ ys.length ∧ i = .int .i64 k ∧ Hid (s.en = 0) ∧ Hid (tl <+: tx) ∧ Hid (Cl wr w.heap.size g s [] tl) ∧ Hid (Below w.heap.size w wr)) (fun i _ => ys.length - (intOf i).toNat)
    case atStart => exact ⟨0, _, [], Nat.zero_le _, rfl, Lib.hid rfl, Lib.hid (List.nil_prefix), Lib.hid (H1.out.drewN nd), Lib.hid (below_drewN HB1.out nd)⟩
    case round =>
      obtain ⟨k, s, tl, hk, rfl, HEN, HP, HC, HBe⟩ := hrel
      by_cases hlt : k < ys.length
      · obtain ⟨b, off, c', hv, hc1, hc2, hcell⟩ := HY2.out.at_ (by omega)
        injection hv with hv1 _ hv3
        subst hv1 hv3
        obtain ⟨row, hrow⟩ : ∃ row, ys[k]? = some row := ⟨ys[k], List.getElem?_eq_getElem hlt⟩
        obtain ⟨x0, x1, xb, m, jl, ll, rfl, k0, k1, l1, l2, n0, n1, ct0, ct1, hjl, hll⟩ := HYS.out row (List.mem_of_getElem? hrow)
        obtain ⟨kind, stream, session, attempt, inc, mn, count, why, js, mja, mjn, mjc, mjm, la, ln, lc⟩ := m
        simp only at n0 n1 ct0 ct1
        have hce := hcell k _ hrow
        have hbe : ∀ j u, (xc x0 x1 xb ⟨kind, stream, session, attempt, inc, mn, count, why, js, mja, mjn, mjc, mjm, la, ln, lc⟩)[j]? = some u → wr.cell? ⟨b, off + k * 15 + j, none⟩ = some u := fun j u hu => by
          have h1 := hce j u hu
          rw [← Nat.add_assoc] at h1
          have h2 : b < w.heap.size := World.block_lt_of_cell? w _ h1
          exact (HBe.out.cell (p := ⟨b, off + k * 15 + j, none⟩) h2).trans h1
        have r0 : wr.cell? ⟨b, off + k * 15, none⟩ = some (.int .u8 x0) := hbe 0 _ rfl
        have r1 : wr.cell? ⟨b, off + k * 15 + 1, none⟩ = some (.int .i64 x1) := hbe 1 _ rfl
        have r2 : wr.cell? ⟨b, off + k * 15 + 2, none⟩ = some (.bool xb) := hbe 2 _ rfl
        have r3 : wr.cell? ⟨b, off + k * 15 + 3, none⟩ = some (.int .i64 kind) := hbe 3 _ rfl
        have r4 : wr.cell? ⟨b, off + k * 15 + 4, none⟩ = some (.int .u64 stream) := hbe 4 _ rfl
        have r5 : wr.cell? ⟨b, off + k * 15 + 5, none⟩ = some (.int .u64 session) := hbe 5 _ rfl
        have r6 : wr.cell? ⟨b, off + k * 15 + 6, none⟩ = some (.int .u64 attempt) := hbe 6 _ rfl
        have r7 : wr.cell? ⟨b, off + k * 15 + 7, none⟩ = some (.int .u64 inc) := hbe 7 _ rfl
        have r8 : wr.cell? ⟨b, off + k * 15 + 8, none⟩ = some (.int .u64 mn) := hbe 8 _ rfl
        have r9 : wr.cell? ⟨b, off + k * 15 + 9, none⟩ = some (.int .u64 count) := hbe 9 _ rfl
        have r10 : wr.cell? ⟨b, off + k * 15 + 10, none⟩ = some (.int .i64 why) := hbe 10 _ rfl
        have r11 : wr.cell? ⟨b, off + k * 15 + 11, none⟩ = some (.int .u64 js) := hbe 11 _ rfl
        have r12 : wr.cell? ⟨b, off + k * 15 + 12, none⟩ = some (.slice mja mjn mjc) := hbe 12 _ rfl
        have r13 : wr.cell? ⟨b, off + k * 15 + 13, none⟩ = some (.int .i64 mjm) := hbe 13 _ rfl
        have r14 : wr.cell? ⟨b, off + k * 15 + 14, none⟩ = some (.slice la ln lc) := hbe 14 _ rfl
        have i0 : (0 : Int) ≤ (k : Int) := by omega
        have i1 : (k : Int) < (ys.length : Int) := by omega
        clear hce hbe hcell hrow hjl hll
        go_upto_region 7 with (fail)
        have bx := Blk.new wr (xc x0 x1 xb ⟨kind, stream, session, attempt, inc, mn, count, why, js, mja, mjn, mjc, mjm, la, ln, lc⟩).toArray 36
        have HC2 := Lib.hid (HC.out.alloc (.cells (xc x0 x1 xb ⟨kind, stream, session, attempt, inc, mn, count, why, js, mja, mjn, mjc, mjm, la, ln, lc⟩).toArray 36))
        have hsw : w.heap.size ≤ wr.heap.size := HBe.out.size
        have HBe2 := Lib.hid (HBe.out.alloc hsw (.cells (xc x0 x1 xb ⟨kind, stream, session, attempt, inc, mn, count, why, js, mja, mjn, mjc, mjm, la, ln, lc⟩).toArray 36))
        obtain ⟨W2, HW2⟩ : ∃ W2, Hid (wr.alloc (.cells (xc x0 x1 xb ⟨kind, stream, session, attempt, inc, mn, count, why, js, mja, mjn, mjc, mjm, la, ln, lc⟩).toArray 36) = W2) := ⟨_, rfl⟩
        have HW2' := HW2.out
        unfold xc at HW2'
        simp only at HW2'
        rw [HW2'] at ⊢
        rw [HW2.out] at bx HC2 HBe2
        clear HW2 HW2'
        have hgx : g < wr.heap.size := HC.out.blk.lt
        obtain ⟨gx, HGX, hgx⟩ : ∃ gx, Hid (wr.heap.size = gx) ∧ g < gx := ⟨_, rfl, hgx⟩
        rw [HGX.out] at bx ⊢
        clear r0 r1 r2 r3 r4 r5 r6 r7 r8 r9 r10 r11 r12 r13 r14 hsw
        have q8 : W2.cell? ⟨gx, 8, none⟩ = some (.int .u64 mn) := bx.cell 8 rfl
        have q9 : W2.cell? ⟨gx, 9, none⟩ = some (.int .u64 count) := bx.cell 9 rfl
        clear bx
        have p0 : 0 ≤ mn % ((n : Int) + 1) := Int.emod_nonneg _ (by omega)
        have p1 : mn % ((n : Int) + 1) < (n : Int) + 1 := Int.emod_lt_of_pos _ (by omega)
        go_upto_region 8 with (fail)
        obtain ⟨at_, HAT⟩ : ∃ q : Nat, Hid (mn % ((n : Int) + 1) = q) := ⟨(mn % ((n : Int) + 1)).toNat, Lib.hid (by omega)⟩
        rw [HAT.out] at p0 p1 ⊢
        have p2 : 0 ≤ count % ((n : Int) - at_ + 1) := Int.emod_nonneg _ (by omega)
        have p3 : count % ((n : Int) - at_ + 1) < (n : Int) - at_ + 1 := Int.emod_lt_of_pos _ (by omega)
        go_upto_region 9 with (fail)
        obtain ⟨en, HEND⟩ : ∃ q : Nat, Hid ((at_ : Int) + count % ((n : Int) - at_ + 1) = q) := ⟨((at_ : Int) + count % ((n : Int) - at_ + 1)).toNat, Lib.hid (by omega)⟩
        rw [HEND.out]
        have hae : at_ ≤ en := by have := HEND.out; omega
        have hen : en ≤ n := by have := HEND.out; omega
        have j0 : (at_ : Int) ≤ (en : Int) := by omega
        have j1 : (en : Int) ≤ (n : Int) := by omega
        clear p2 p3
        have hncap := HT.out.cap
        have j2 : (en : Int) ≤ (c : Int) := by omega
        have HTB : ∀ x, ob a = some x → 0 < n → x < w.heap.size := fun x hx hn0 => HT.out.lt (by omega) hn0 x hx
        have HR2 : Hid (Rd W2 1 a n c (ints tx)) := Lib.hid (HT.out.below HBe2.out (fun h0 x hx => HTB x hx h0))
        have HR3 := Lib.hid ((HR2.out.take_ en hen).drop_ at_ hae)
        rw [Nat.mul_one, Nat.mul_one] at HR3
        have hints : ((ints tx).take en).drop at_ = ints ((tx.take en).drop at_) := by simp [ints]
        rw [hints] at HR3
        have htn := Cl.tn HC2.out
        have hpl := HP.out.length_le
        have htx := HTL.out
        have HTN := Lib.hid (show s.tn ≤ 549755813888 by omega)
        clear hints htn hpl htx q8 q9
        go_cut [] from 66 to 74 (fun wx => ∃ s' : Ck, Hid (s'.en = 0) ∧ Hid (Cl wx w.heap.size g s' [] (takeN tl ((tx.take en).drop at_) at_)) ∧ Hid (Below w.heap.size w wx))
        case first =>
          by_cases hcat : c = at_
          · subst hcat
            obtain rfl : en = c := by omega
            rw [if_pos rfl, Nat.sub_self] at HR3
            go_wp2_with fail
            with_reducible refine (arrive_list HC2.out 0 HEN.out _ (Int.natCast_nonneg _) HR3.out (fun hm x hx e => ?_) (by omega) HTN.out).mono ?_
            · exact absurd hm (by omega)
            rintro e w4 ⟨ta, tn, tc, gm, rfl, htn, hgm, hbm, h4, hc4, ha4⟩
            go_wp2
            go_meet
            exact ⟨{ s with now := nowOf s.now 0, heard := true, ta := ta, tn := tn, tc := tc }, Lib.hid HEN.out, Lib.hid h4, Lib.hid (hc4.below HBe2.out HBe2.out.size (fun x hx => hx.elim (fun h => by have := HC2.out.base; omega) (fun h => (HC2.out.toks.lt x h).1)))⟩
          · rw [if_neg hcat] at HR3
            go_wp2_with fail
            with_reducible refine (arrive_list HC2.out 0 HEN.out _ (Int.natCast_nonneg _) HR3.out (fun hm x hx e => ?_) (by omega) HTN.out).mono ?_
            · have : ob a = some x := by rw [← hx, ob_add]
              have := HTB x this (by have : 0 < en - at_ := hm; omega)
              have := HC2.out.base
              omega
            rintro e w4 ⟨ta, tn, tc, gm, rfl, htn, hgm, hbm, h4, hc4, ha4⟩
            go_wp2
            go_meet
            exact ⟨{ s with now := nowOf s.now 0, heard := true, ta := ta, tn := tn, tc := tc }, Lib.hid HEN.out, Lib.hid h4, Lib.hid (hc4.below HBe2.out HBe2.out.size (fun x hx => hx.elim (fun h => by have := HC2.out.base; omega) (fun h => (HC2.out.toks.lt x h).1)))⟩
        case rest =>
          obtain ⟨s', HEN', HC4, HBe4⟩ := hcut
          have hst := ref_step HP.out hae (show en ≤ tx.length by have := HTL.out; omega)
          obtain ⟨tl', HTL'⟩ : ∃ t, Hid (takeN tl ((tx.take en).drop at_) at_ = t) := ⟨_, rfl⟩
          rw [HTL'.out] at hst HC4
          have HP' := Lib.hid hst.1
          have hst2 := hst.2
          have hpl := hst.1.length_le
          have htl := Lib.hid (take_len hst.1)
          have htx := HTL.out
          have htn := Cl.tn HC4.out
          obtain ⟨q, HQ⟩ : ∃ q, Hid (s'.tn = q) := ⟨_, rfl⟩
          have hq : q = tl'.length := by rw [← HQ.out]; exact htn
          rw [← hq] at hst2 hpl htl
          have HQL := Lib.hid hq
          have hqn : q ≤ n := by omega
          clear hst htx htn hq
          go_wp2_with fail
          refine (ClV.tokens HC4.out).mono ?_
          rintro e w5 ⟨a5, c5, rfl, ho5, hb5⟩
          rw [HQ.out] at ho5 ⊢
          have HR5 := Lib.hid ho5.rd
          have HC5 := Lib.hid (HC4.out.below hb5)
          have HBe5 := Lib.hid (HBe4.out.trans (hb5.mono HBe4.out.size))
          have HT5 : Hid (Rd w5 1 a q c (ints (tx.take q))) := by
            have h1 := (HT.out.below HBe5.out (fun h0 x hx => HTB x hx h0)).take_ q hqn
            rw [Nat.mul_one] at h1
            have h2 : (ints tx).take q = ints (tx.take q) := by simp [ints]
            rw [h2] at h1
            exact Lib.hid h1
          clear ho5 hb5
          have q0 : (q : Int) ≤ (n : Int) := by omega
          have q1 : (q : Int) ≤ (c : Int) := by omega
          by_cases hat : at_ ≤ q
          · have hq2 : en ≤ q := by omega
            clear hst2 hpl
            go_wp2_with fail
            refine (same_any HR5.out HT5.out).mono ?_
            rintro e w6 ⟨rfl, n6, rfl⟩
            rw [decide_eq_true htl.out]
            go_wp2
            go_roundw
            case rel => exact ⟨k + 1, s', tl', by omega, by go_num, HEN', HP', Lib.hid (HC5.out.drewN n6), Lib.hid (below_drewN HBe5.out n6)⟩
            case measure => simp [intOf]; omega
          · clear hst2 hpl
            go_wp2_with fail
            refine (same_any HR5.out HT5.out).mono ?_
            rintro e w6 ⟨rfl, n6, rfl⟩
            rw [decide_eq_true htl.out]
            go_wp2
            go_roundw
            case rel => exact ⟨k + 1, s', tl', by omega, by go_num, HEN', HP', Lib.hid (HC5.out.drewN n6), Lib.hid (below_drewN HBe5.out n6)⟩
            case measure => simp [intOf]; omega
      · go_wp2_with fail
        refine alive_any.mono ?_
        rintro e w7 ⟨rfl, hb7⟩
        go_wp2
        go_ret
        exact ⟨rfl, HBe.out.trans (hb7.mono HBe.out.size)⟩

/-- The shape of a step. -/
def stepSh : Sh := (.struct (.cons (.int .u8) (.cons (.int .i64) (.cons .bool (.cons (.struct (.cons (.int .i64) (.cons (.int .u64) (.cons (.int .u64) (.cons (.int .u64) (.cons (.int .u64) (.cons (.int .u64) (.cons (.int .u64) (.cons (.int .i64) (.cons (.struct (.cons (.int .u64) (.cons (.slice (.int .i64)) (.cons (.int .i64) .none)))) (.cons (.slice (.int .i64)) .none))))))))))) .none)))))
theorem isStep (W : World) (row : List Value) (h1 : row.length = stepSh.size) (h2 : Reads W stepSh row) : IsStep W row := by
  match row, h1, h2 with
  | [c0, c1, c2, c3, c4, c5, c6, c7, c8, c9, c10, c11, c12, c13, c14], _, hr =>
    simp only [stepSh, reads_int, reads_bool, reads_struct, reads_none, reads_cons, Sh.size, List.take_succ_cons, List.take_zero, List.drop_succ_cons, List.drop_zero, List.cons.injEq, and_true, Nat.reduceAdd] at hr
    obtain ⟨_, ⟨x0, rfl, l0⟩, ⟨x1, rfl, l1⟩, ⟨b, rfl⟩, _, ⟨m0, rfl, _⟩, ⟨m1, rfl, _⟩, ⟨m2, rfl, _⟩, ⟨m3, rfl, _⟩, ⟨m4, rfl, _⟩, ⟨m5, rfl, l5⟩, ⟨m6, rfl, l6⟩, ⟨m7, rfl, _⟩, ⟨_, ⟨m8, rfl, _⟩, hj, ⟨m9, rfl, _⟩⟩, hl⟩ := hr
    obtain ⟨jl, ja, jc, rfl, hj, _⟩ := rd_ints hj
    obtain ⟨ll, la, lc, rfl, hl, _⟩ := rd_ints hl
    simp [Lit.wf, IntKind.min, IntKind.max, IntKind.signed, IntKind.bits] at l0 l1 l5 l6
    exact ⟨x0, x1, b, ⟨m0, m1, m2, m3, m4, m5, m6, m7, m8, ja, jl.length, jc, m9, la, ll.length, lc⟩, jl, ll, rfl, by omega, by omega, by omega, by omega, by show 0 ≤ m5; omega, by show m5 ≤ _; omega, by show 0 ≤ m6; omega, by show m6 ≤ _; omega, hj, hl⟩

theorem entry (W : World) (v0 v1 : Value) (g0 : Arg W (.slice (.int .i64)) v0) (g1 : Arg W (.slice stepSh) v1) :
    Calls Try.prog 3 #[v0, v1] W fun e w' => e = .returned (.bool true) ∧ Below W.heap.size W w' := by
  obtain ⟨tx, a, c, rfl, ht, _⟩ := rd_ints g0
  obtain ⟨xs, hx, hs⟩ := rows_of (by simp [Sh.size, stepSh]) g1
  exact law_any ht v1 xs hx (fun row hr => isStep W row (hs row hr).1 (hs row hr).2)
end
end Go.Proofs.Ytoghkikjgilpdaa.ClF
