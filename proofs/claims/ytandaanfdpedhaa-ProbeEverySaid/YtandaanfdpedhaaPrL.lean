/-
  ProbePlays: the prober and the document's answer every call alike.
-/
import Derived.Test.YtandaanfdpedhaaPrS
import Derived.Test.YtandaanfdpedhaaPrM
import Derived.Test.YtandaanfdpedhaaPrA
import Derived.Test.YtandaanfdpedhaaSlices
import Derived.Deep.RegionHeld3
import Derived.Deep.CutBlock
namespace Go.Proofs.Ytandaanfdpedhaa.PrL
open Go.RowKit Go.Proofs.Ytandaanfdpedhaa.Kit Go.Proofs.Ytandaanfdpedhaa.PrP Go.Proofs.Ytandaanfdpedhaa.PrN
open Go.Proofs.Ytandaanfdpedhaa.PrW (pc)
open Go.Proofs.Ytandaanfdpedhaa.PrR (rc)
attribute [local go_sem high] max_imax min_imin
set_option linter.unusedVariables false

/-- What both answer to Tick, and to Pong; what becomes of the prober. -/
def tkN (ms : Int) (p : Pb) (t : Int) : Int := if (later ms p t).now < (later ms p t).next then 0 else p.asked + 1
def tkB (ms : Int) (p : Pb) (t : Int) : Bool := if (later ms p t).now < (later ms p t).next then false else true
def tkP (ev wt ms : Int) (p : Pb) (t : Int) : Pb := if (later ms p t).now < (later ms p t).next then later ms p t else PrP.ask ev wt ms (later ms p t)
def tkA (ms : Int) (p : Pb) (a t : Int) : Int := if (later ms p t).now < (later ms p t).next then a else (later ms p t).now
def pgB (ms : Int) (p : Pb) (t n : Int) : Bool := decide (0 ≤ (later ms p t).ends ∧ n = (later ms p t).asked)
def pgP (ms ht : Int) (p : Pb) (t n : Int) : Pb := if 0 ≤ (later ms p t).ends ∧ n = (later ms p t).asked then came ht (later ms p t) else later ms p t

/-- What holds of a prober and of the time of its last question, behind at most k calls. -/
structure Good (wt ms ht a : Int) (k : Nat) (p : Pb) : Prop where
  inv : Inv ms ht p
  at_ : 0 ≤ p.ends → a + wt = p.ends
  few : p.asked ≤ (k : Int)

section
variable {g : Nat} {ev wt ms ht a : Int} {p : Pb} {k : Nat} {w : World}

theorem ask_asked (ev wt ms : Int) (p : Pb) : (PrP.ask ev wt ms p).asked = p.asked + 1 := by
  unfold PrP.ask missed
  (repeat' split) <;> rfl
theorem came_asked (ht : Int) (p : Pb) : (came ht p).asked = p.asked := by
  unfold came
  (repeat' split) <;> rfl
theorem came_ends (ht : Int) (p : Pb) : (came ht p).ends = -1 := by
  unfold came
  (repeat' split) <;> rfl
theorem ask_ends (ev wt ms : Int) (p : Pb) : (PrP.ask ev wt ms p).ends = p.now + wt := by
  unfold PrP.ask missed
  (repeat' split) <;> rfl

theorem Good.tick (h : Good wt ms ht a k p) (hM : May ev wt ms ht) (t : Int) : Good wt ms ht (tkA ms p a t) (k + 1) (tkP ev wt ms p t) := by
  obtain ⟨⟨e0, e1⟩, ⟨w0, w1⟩, ⟨m0, m1⟩, ⟨h0, h1⟩⟩ := hM
  obtain ⟨hi, ha, hf⟩ := h
  have hl := hi.later m0 h0 t
  have ha2 := PrS.later_asked ms p t
  unfold tkA tkP
  split
  · exact ⟨hl, fun he => by rw [PrS.later_ends ms p t he]; exact ha (by rw [← PrS.later_ends ms p t he]; exact he), by omega⟩
  · exact ⟨hl.ask m0 h0 e0 e1 w0 w1, fun _ => by rw [ask_ends], by rw [ask_asked]; omega⟩
theorem Good.pong (h : Good wt ms ht a k p) (hM : May ev wt ms ht) (t n : Int) : Good wt ms ht a (k + 1) (pgP ms ht p t n) := by
  obtain ⟨⟨e0, e1⟩, ⟨w0, w1⟩, ⟨m0, m1⟩, ⟨h0, h1⟩⟩ := hM
  obtain ⟨hi, ha, hf⟩ := h
  have hl := hi.later m0 h0 t
  have ha2 := PrS.later_asked ms p t
  unfold pgP
  split
  · exact ⟨hl.came m0 h0, fun he => by rw [came_ends] at he; omega, by rw [came_asked]; omega⟩
  · exact ⟨hl, fun he => by rw [PrS.later_ends ms p t he]; exact ha (by rw [← PrS.later_ends ms p t he]; exact he), by omega⟩

theorem tick (hb : Blk w g 48 (pc ev wt ms ht p)) (hM : May ev wt ms ht) (h : Good wt ms ht a k p) (hk : k ≤ 1000) (t : Int) :
    Calls Try.prog 11 #[.pointer (some ⟨g, 0, none⟩), .int .i64 t] w fun e w' =>
      e = .returned (.tuple #[.int .u64 (tkN ms p t), .bool (tkB ms p t)]) ∧ Blk w' g 48 (pc ev wt ms ht (tkP ev wt ms p t)) ∧ Chg (fun k => k = g) w w' := by
  obtain ⟨⟨e0, e1⟩, ⟨w0, w1⟩, ⟨m0, m1⟩, ⟨h0, h1⟩⟩ := hM
  have hf := h.few
  unfold tkN tkB tkP
  by_cases hlt : (later ms p t).now < (later ms p t).next
  · simp only [if_pos hlt]
    exact PrT.tick_no hb h.inv e0 e1 w0 w1 m0 m1 h0 (by omega) t hlt
  · simp only [if_neg hlt]
    exact PrT.tick_yes hb h.inv e0 e1 w0 w1 m0 m1 h0 (by omega) t (by omega)
theorem rtick (hb : Blk w g 45 (rc ev wt ms ht p a)) (hM : May ev wt ms ht) (h : Good wt ms ht a k p) (hk : k ≤ 1000) (t : Int) :
    Calls Try.prog 16 #[.pointer (some ⟨g, 0, none⟩), .int .i64 t] w fun e w' =>
      e = .returned (.tuple #[.int .u64 (tkN ms p t), .bool (tkB ms p t)]) ∧ Blk w' g 45 (rc ev wt ms ht (tkP ev wt ms p t) (tkA ms p a t)) ∧ Chg (fun k => k = g) w w' := by
  obtain ⟨⟨e0, e1⟩, ⟨w0, w1⟩, ⟨m0, m1⟩, ⟨h0, h1⟩⟩ := hM
  have hf := h.few
  unfold tkN tkB tkP tkA
  by_cases hlt : (later ms p t).now < (later ms p t).next
  · simp only [if_pos hlt]
    exact PrS.tick_no hb h.inv h.at_ e0 e1 w0 w1 m0 m1 h0 t hlt
  · simp only [if_neg hlt]
    have := PrS.tick_yes hb h.inv h.at_ e0 e1 w0 w1 m0 m1 h0 (by omega) t (by omega)
    rw [PrS.later_asked] at this
    exact this
theorem pong (hb : Blk w g 48 (pc ev wt ms ht p)) (hM : May ev wt ms ht) (h : Good wt ms ht a k p) (t n : Int) :
    Calls Try.prog 12 #[.pointer (some ⟨g, 0, none⟩), .int .i64 t, .int .u64 n] w fun e w' =>
      e = .returned (.bool (pgB ms p t n)) ∧ Blk w' g 48 (pc ev wt ms ht (pgP ms ht p t n)) ∧ Chg (fun k => k = g) w w' := by
  obtain ⟨⟨e0, e1⟩, ⟨w0, w1⟩, ⟨m0, m1⟩, ⟨h0, h1⟩⟩ := hM
  unfold pgB pgP
  by_cases hlt : 0 ≤ (later ms p t).ends ∧ n = (later ms p t).asked
  · rw [decide_eq_true hlt, if_pos hlt]
    exact PrT.pong_yes hb h.inv e0 m0 m1 h0 h1 t n hlt
  · rw [decide_eq_false hlt, if_neg hlt]
    exact PrT.pong_no hb h.inv e0 m0 m1 h0 h1 t n (by omega)
theorem rpong (hb : Blk w g 45 (rc ev wt ms ht p a)) (hM : May ev wt ms ht) (h : Good wt ms ht a k p) (t n : Int) :
    Calls Try.prog 17 #[.pointer (some ⟨g, 0, none⟩), .int .i64 t, .int .u64 n] w fun e w' =>
      e = .returned (.bool (pgB ms p t n)) ∧ Blk w' g 45 (rc ev wt ms ht (pgP ms ht p t n) a) ∧ Chg (fun k => k = g) w w' := by
  obtain ⟨⟨e0, e1⟩, ⟨w0, w1⟩, ⟨m0, m1⟩, ⟨h0, h1⟩⟩ := hM
  unfold pgB pgP
  by_cases hlt : 0 ≤ (later ms p t).ends ∧ n = (later ms p t).asked
  · rw [decide_eq_true hlt, if_pos hlt]
    exact PrS.pong_yes hb h.inv h.at_ e0 e1 w0 w1 m0 m1 h0 h1 t n hlt
  · rw [decide_eq_false hlt, if_neg hlt]
    exact PrS.pong_no hb h.inv h.at_ e0 e1 w0 w1 m0 m1 h0 t n (by omega)

theorem short_any (a : Option Addr) (n c : Nat) (hn : n ≤ maxLen) (hc : n ≤ c) : Calls Try.prog 10 #[.slice a n c] w fun e w' =>
    e = .returned (.slice a (min n 400) c) ∧ ∃ m, w' = w.drewN m := by
  unfold maxLen at hn
  have h0 : 0 ≤ imin (n : Int) 400 := by unfold imin; split <;> omega
  have h1 : imin (n : Int) 400 ≤ (c : Int) := by unfold imin; split <;> omega
  have H2 : Hid ((imin (n : Int) 400).toNat = min n 400) := by show _ = _; unfold imin; split <;> omega
  go_enter Try.func10, Try.ntmps10
  go_wp2
  go_ret
  exact ⟨by rw [← H2.out]; rfl, 0, rfl⟩

/-- The cells of a step. -/
def xc (x0 x1 x2 : Int) : List Value := [.int .u8 x0, .int .i64 x1, .int .u64 x2]
def IsStep (row : List Value) : Prop := ∃ x0 x1 x2, row = xc x0 x1 x2 ∧ 0 ≤ x0 ∧ x0 ≤ 255 ∧ -9223372036854775808 ≤ x1 ∧ x1 ≤ 9223372036854775807

theorem isStep (row : List Value) (h1 : row.length = (Sh.struct (.cons (.int .u8) (.cons (.int .i64) (.cons (.int .u64) .none)))).size) (h2 : Reads w (.struct (.cons (.int .u8) (.cons (.int .i64) (.cons (.int .u64) .none)))) row) : IsStep row := by
  match row, h1, h2 with
  | [c0, c1, c2], _, hr =>
    replace hr := hr.2
    simp only [Reads, Sh.size, List.take_succ_cons, List.take_zero, List.drop_succ_cons, List.drop_zero, List.cons.injEq, and_true] at hr
    obtain ⟨⟨y0, rfl, l0⟩, ⟨y1, rfl, l1⟩, ⟨y2, rfl, _⟩⟩ := hr
    have l2 : -9223372036854775808 ≤ y1 ∧ y1 ≤ 9223372036854775807 := by
      simp [Lit.wf, IntKind.min, IntKind.max, IntKind.signed, IntKind.bits] at l1
      omega
    have l3 : 0 ≤ y0 ∧ y0 ≤ 255 := by
      simp [Lit.wf, IntKind.min, IntKind.max, IntKind.signed, IntKind.bits] at l0
      omega
    exact ⟨y0, y1, y2, rfl, l3.1, l3.2, l2.1, l2.2⟩

theorem law_no (h : ¬ May ev wt ms ht) (v : Value) :
    Calls Try.prog 5 #[.agg #[.int .i64 ev, .int .i64 wt, .int .i64 ms, .int .i64 ht], v] w fun e w' => e = .returned (.bool true) ∧ Below w.heap.size w w' := by
  have HN := Lib.hid h
  clear h
  have hu := Try.underlying25
  have hbe : Below w.heap.size w (w.alloc (.cells (st ev wt ms ht) 23)) := (Below.refl _ w).alloc (Nat.le_refl _) _
  go_enter Try.func5, Try.ntmps5
  go_wp2_with fail
  have b0 := Blk.new w (st ev wt ms ht) 23
  obtain ⟨W, HW⟩ : ∃ W, Hid (w.alloc (.cells (st ev wt ms ht) 23) = W) := ⟨_, rfl⟩
  have HW' := HW.out
  unfold st at HW'
  rw [HW'] at ⊢
  rw [HW.out] at b0 hbe
  clear HW HW'
  obtain ⟨B, HB⟩ : ∃ B, Hid (w.heap.size = B) := ⟨_, rfl⟩
  rw [HB.out] at b0 hbe ⊢
  have B0 := Lib.hid b0
  have HBe := Lib.hid hbe
  clear hbe
  refine theirs_any.mono ?_
  rintro e w1 ⟨rfl, hb1⟩
  have HB1 := Lib.hid hb1
  clear hb1
  go_wp2_with fail
  refine (new_no HN.out).mono ?_
  rintro e w2 ⟨rfl, hb2⟩
  have HB2 := Lib.hid hb2
  clear hb2
  have hbb : Blk w2 B 23 (st ev wt ms ht) := by
    have h1 : Blk w1 B 23 (st ev wt ms ht) := (HB1.out.block B B0.out.lt).trans B0.out
    exact (HB2.out.block B h1.lt).trans h1
  have hsz : B ≤ w2.heap.size := by have := hbb.lt; omega
  have HBe2 := Lib.hid ((HBe.out.trans (HB1.out.mono (by have := B0.out.lt; omega))).trans (HB2.out.mono (by have := HB1.out.size; have := B0.out.lt; omega)))
  have c0 : w2.cell? ⟨B, 0, none⟩ = some (.int .i64 ev) := hbb.cell 0 rfl
  have c1 : w2.cell? ⟨B, 1, none⟩ = some (.int .i64 wt) := hbb.cell 1 rfl
  have c2 : w2.cell? ⟨B, 2, none⟩ = some (.int .i64 ms) := hbb.cell 2 rfl
  have c3 : w2.cell? ⟨B, 3, none⟩ = some (.int .i64 ht) := hbb.cell 3 rfl
  have B2 := Lib.hid hbb
  clear hbb
  go_wp2_with fail
  refine (PrM.may_no HN.out).mono ?_
  rintro e w3 ⟨rfl, hb3⟩
  have hbb : Blk w3 B 23 (st ev wt ms ht) := (hb3.block B B2.out.lt).trans B2.out
  have HBe3 := Lib.hid (HBe2.out.trans (hb3.mono hsz))
  have hsz3 : B ≤ w3.heap.size := by have := hbb.lt; omega
  clear c0 c1 c2 c3 hb3
  have c0 : w3.cell? ⟨B, 0, none⟩ = some (.int .i64 ev) := hbb.cell 0 rfl
  have c1 : w3.cell? ⟨B, 1, none⟩ = some (.int .i64 wt) := hbb.cell 1 rfl
  have c2 : w3.cell? ⟨B, 2, none⟩ = some (.int .i64 ms) := hbb.cell 2 rfl
  have c3 : w3.cell? ⟨B, 3, none⟩ = some (.int .i64 ht) := hbb.cell 3 rfl
  clear hbb
  go_wp2_with fail
  refine (PrM.may_no HN.out).mono ?_
  rintro e w4 ⟨rfl, hb4⟩
  have HBe4 := Lib.hid (HBe3.out.trans (hb4.mono hsz3))
  have hsz4 : B ≤ w4.heap.size := by have := hb4.size; omega
  clear hb4
  go_wp2_with fail
  refine PrA.alive_any.mono ?_
  rintro e w5 ⟨rfl, hb5⟩
  go_wp2
  go_ret
  exact ⟨rfl, by rw [HB.out]; exact HBe4.out.trans (hb5.mono hsz4)⟩

set_option maxRecDepth 100000 in
set_option maxHeartbeats 8000000 in
theorem law_yes (h : May ev wt ms ht) (v : Value) (xs : List (List Value)) (hx : RowsAt w 3 v xs) (hs : ∀ row ∈ xs, IsStep row) :
    Calls Try.prog 5 #[.agg #[.int .i64 ev, .int .i64 wt, .int .i64 ms, .int .i64 ht], v] w fun e w' => e = .returned (.bool true) ∧ Below w.heap.size w w' := by
  have HM := Lib.hid h
  clear h
  have hu := Try.underlying25
  have hbe : Below w.heap.size w (w.alloc (.cells (st ev wt ms ht) 23)) := (Below.refl _ w).alloc (Nat.le_refl _) _
  obtain ⟨a, c, rfl⟩ := hx.slice
  have HX := Lib.hid hx
  clear hx
  go_enter Try.func5, Try.ntmps5
  go_wp2_with fail
  have b0 := Blk.new w (st ev wt ms ht) 23
  obtain ⟨W, HW⟩ : ∃ W, Hid (w.alloc (.cells (st ev wt ms ht) 23) = W) := ⟨_, rfl⟩
  have HW' := HW.out
  unfold st at HW'
  rw [HW'] at ⊢
  rw [HW.out] at b0 hbe
  clear HW HW'
  obtain ⟨B, HB⟩ : ∃ B, Hid (w.heap.size = B) := ⟨_, rfl⟩
  rw [HB.out] at b0 hbe ⊢
  have B0 := Lib.hid b0
  have HBe := Lib.hid hbe
  clear hbe
  refine theirs_any.mono ?_
  rintro e w1 ⟨rfl, hb1⟩
  have HB1 := Lib.hid hb1
  clear hb1
  go_wp2_with fail
  refine (new_yes HM.out).mono ?_
  rintro e w2 ⟨g, rfl, hg, hbg, hb2⟩
  have HB2 := Lib.hid hb2
  clear hb2
  have hbb : Blk w2 B 23 (st ev wt ms ht) := by
    have h1 : Blk w1 B 23 (st ev wt ms ht) := (HB1.out.block B B0.out.lt).trans B0.out
    exact (HB2.out.block B h1.lt).trans h1
  have hsz : B ≤ w2.heap.size := by have := hbb.lt; omega
  have HBe2 := Lib.hid ((HBe.out.trans (HB1.out.mono (by have := B0.out.lt; omega))).trans (HB2.out.mono (by have := HB1.out.size; have := B0.out.lt; omega)))
  have hgB : B ≤ g := by have := HB1.out.size; have := B0.out.lt; omega
  have HG := Lib.hid hbg
  clear hbg hg
  have c0 : w2.cell? ⟨B, 0, none⟩ = some (.int .i64 ev) := hbb.cell 0 rfl
  have c1 : w2.cell? ⟨B, 1, none⟩ = some (.int .i64 wt) := hbb.cell 1 rfl
  have c2 : w2.cell? ⟨B, 2, none⟩ = some (.int .i64 ms) := hbb.cell 2 rfl
  have c3 : w2.cell? ⟨B, 3, none⟩ = some (.int .i64 ht) := hbb.cell 3 rfl
  have B2 := Lib.hid hbb
  clear hbb
  go_wp2_with fail
  refine (PrM.may_yes HM.out).mono ?_
  rintro e w3 ⟨rfl, hb3⟩
  have hbb : Blk w3 B 23 (st ev wt ms ht) := (hb3.block B B2.out.lt).trans B2.out
  have HG3 := Lib.hid (show Blk w3 g 48 (pc ev wt ms ht p0) from (hb3.block g HG.out.lt).trans HG.out)
  have HBe3 := Lib.hid (HBe2.out.trans (hb3.mono hsz))
  have hsz3 : B ≤ w3.heap.size := by have := hbb.lt; omega
  clear c0 c1 c2 c3 hb3
  have c0 : w3.cell? ⟨B, 0, none⟩ = some (.int .i64 ev) := hbb.cell 0 rfl
  have c1 : w3.cell? ⟨B, 1, none⟩ = some (.int .i64 wt) := hbb.cell 1 rfl
  have c2 : w3.cell? ⟨B, 2, none⟩ = some (.int .i64 ms) := hbb.cell 2 rfl
  have c3 : w3.cell? ⟨B, 3, none⟩ = some (.int .i64 ht) := hbb.cell 3 rfl
  clear hbb
  go_wp2_with fail
  have b5 := Blk.new w3 (rc ev wt ms ht p0 0) 45
  have HG5 := Lib.hid (HG3.out.alloc (.cells (rc ev wt ms ht p0 0) 45))
  have HBe5 := Lib.hid (HBe3.out.alloc hsz3 (.cells (rc ev wt ms ht p0 0) 45))
  have hgg : g < w3.heap.size := HG3.out.lt
  obtain ⟨W5, HW⟩ : ∃ W, Hid (w3.alloc (.cells (rc ev wt ms ht p0 0) 45) = W) := ⟨_, rfl⟩
  have HW' := HW.out
  unfold rc p0 at HW'
  simp only [show decide ((0 : Int) ≤ -1) = false from rfl] at HW'
  rw [HW'] at ⊢
  rw [HW.out] at b5 HG5 HBe5
  clear HW HW'
  obtain ⟨gr, HGR, hgr⟩ : ∃ gr, Hid (w3.heap.size = gr) ∧ g < gr := ⟨_, rfl, hgg⟩
  rw [HGR.out] at b5 hsz3 ⊢
  have HR5 := Lib.hid b5
  have hl := HX.out.1
  have hcap : xs.length ≤ c := by
    rcases HX.out.2 with ⟨h0, _⟩ | ⟨_, _, _, hv, hl2, _⟩
    · rw [h0]; simp
    · injection hv with _ _ hc; rw [hc]; exact hl2
  clear b5 hgg HG3 HBe3 HBe2 HG B0 B2 HB1 HB2 HBe c0 c1 c2 c3
  refine (short_any a xs.length c hl hcap).mono ?_
  rintro e w6 ⟨rfl, nd, rfl⟩
  have hX2 := HX.out.take_ (min xs.length 400) (Nat.min_le_left _ _)
  obtain ⟨ys, HY⟩ : ∃ ys, Hid (xs.take (min xs.length 400) = ys) := ⟨_, rfl⟩
  have hyl : min xs.length 400 = ys.length := by rw [← HY.out, List.length_take]; omega
  have hy3 : ys.length ≤ 400 := by omega
  have hys : ∀ row ∈ ys, IsStep row := fun row hr => hs row (by rw [← HY.out] at hr; exact List.mem_of_mem_take hr)
  rw [HY.out, hyl] at hX2
  rw [hyl]
  have HY2 := Lib.hid hX2
  have HYS := Lib.hid hys
  have HF : Hid (Good wt ms ht 0 0 p0) := by
    obtain ⟨⟨e0, e1⟩, ⟨w0, w1⟩, ⟨m0, m1⟩, ⟨h0, h1⟩⟩ := HM.out
    exact ⟨by constructor <;> simp only [p0] <;> omega, fun h => by simp only [p0] at h; omega, by simp [p0]⟩
  clear hX2 hys hyl HY hl hcap HX hs hsz hsz3
  go_wp2_with fail
  go_loopw [48] (fun i wr => ∃ (k : Nat) (p : Pb) (a : Int), k ≤ ys.length ∧ i = .int .i64 k ∧ Hid (Good wt ms ht a k p) ∧ Hid (Blk wr g 48 (pc ev wt ms ht p)) ∧ Hid (Blk wr gr 45 (rc ev wt ms ht p a)) ∧ Hid (Below B w wr)) (fun i _ => ys.length - (intOf i).toNat)
  case atStart => exact ⟨0, p0, 0, Nat.zero_le _, rfl, HF, HG5, HR5, below_drewN HBe5.out nd⟩
  case round =>
    obtain ⟨k, p, at_, hk, rfl, HF, HG, HR, HBe⟩ := hrel
    by_cases hlt : k < ys.length
    · obtain ⟨b, off, c', hv, hc1, hc2, hcell⟩ := HY2.out.at_ (by omega)
      injection hv with hv1 _ hv3
      subst hv1 hv3
      obtain ⟨row, hrow⟩ : ∃ row, ys[k]? = some row := ⟨ys[k], List.getElem?_eq_getElem hlt⟩
      obtain ⟨x0, x1, x2, rfl, k0, k1, l1, l2⟩ := HYS.out row (List.mem_of_getElem? hrow)
      have hce := hcell k _ hrow
      have hbe : ∀ j u, (xc x0 x1 x2)[j]? = some u → wr.cell? ⟨b, off + k * 3 + j, none⟩ = some u := fun j u hu => by
        have h1 := hce j u hu
        rw [← Nat.add_assoc] at h1
        have h2 : b < w.heap.size := World.block_lt_of_cell? w _ h1
        exact (HBe.out.cell (p := ⟨b, off + k * 3 + j, none⟩) (by rw [← HB.out]; exact h2)).trans h1
      have r0 : wr.cell? ⟨b, off + k * 3, none⟩ = some (.int .u8 x0) := hbe 0 _ rfl
      have r1 : wr.cell? ⟨b, off + k * 3 + 1, none⟩ = some (.int .i64 x1) := hbe 1 _ rfl
      have r2 : wr.cell? ⟨b, off + k * 3 + 2, none⟩ = some (.int .u64 x2) := hbe 2 _ rfl
      have i0 : (0 : Int) ≤ (k : Int) := by omega
      have i1 : (k : Int) < (ys.length : Int) := by omega
      clear hce hbe hcell hrow
      go_upto_region 8 with (fail)
      have bx := Blk.new wr (xc x0 x1 x2).toArray 36
      have HG2 := Lib.hid (HG.out.alloc (.cells (xc x0 x1 x2).toArray 36))
      have HR2 := Lib.hid (HR.out.alloc (.cells (xc x0 x1 x2).toArray 36))
      have hsw : B ≤ wr.heap.size := by have := HG.out.lt; omega
      have HBe2 := Lib.hid (HBe.out.alloc hsw (.cells (xc x0 x1 x2).toArray 36))
      have hgx : gr < wr.heap.size := HR.out.lt
      obtain ⟨W2, HW2⟩ : ∃ W2, Hid (wr.alloc (.cells (xc x0 x1 x2).toArray 36) = W2) := ⟨_, rfl⟩
      have HW2' := HW2.out
      unfold xc at HW2'
      rw [HW2'] at ⊢
      rw [HW2.out] at bx HG2 HR2 HBe2
      clear HW2 HW2'
      obtain ⟨gx, HGX, hgx⟩ : ∃ gx, Hid (wr.heap.size = gx) ∧ gr < gx := ⟨_, rfl, hgx⟩
      rw [HGX.out] at bx ⊢
      clear r0 r1 r2 hsw
      have q0 : W2.cell? ⟨gx, 0, none⟩ = some (.int .u8 x0) := bx.cell 0 rfl
      have q1 : W2.cell? ⟨gx, 1, none⟩ = some (.int .i64 x1) := bx.cell 1 rfl
      have q2 : W2.cell? ⟨gx, 2, none⟩ = some (.int .u64 x2) := bx.cell 2 rfl
      clear bx
      have s1 : W2.cell? ⟨gr, 4, none⟩ = some (.int .i64 p.now) := HR2.out.cell 4 rfl
      have n0 := HF.out.inv.now0
      have n1 := HF.out.inv.now1
      obtain ⟨now, HNOW⟩ : ∃ n, Hid (p.now = n) := ⟨_, rfl⟩
      rw [HNOW.out] at s1 n0 n1
      go_upto_region 9 with (fail)
      go_cut [61] (fun v wx => v = .bool (decide (-100000 < x1) && decide (x1 < 1125899906842624)) ∧ wx = W2)
      case first =>
        by_cases a1 : -100000 < x1
        · by_cases a2 : x1 < 1125899906842624
          · go_wp2
            go_meet
            exact ⟨by simp [a1, a2], rfl⟩
          · go_wp2
            go_meet
            exact ⟨by simp [a1]; omega, rfl⟩
        · go_wp2
          go_meet
          exact ⟨by simp; omega, rfl⟩
      case rest =>
        obtain ⟨rfl, rfl⟩ := hcut
        obtain ⟨tb, HTB⟩ : ∃ tb, Hid ((decide (-100000 < x1) && decide (x1 < 1125899906842624)) = tb) := ⟨_, rfl⟩
        rw [HTB.out]
        go_upto_if 61 with (fail)
        go_cut [10] (fun v wx => (∃ T : Int, v = .int .i64 T) ∧ wx = wc)
        case first =>
          cases tb with
          | true =>
            have e := HTB.out
            simp only [Bool.and_eq_true, decide_eq_true_eq] at e
            obtain ⟨e1, e2⟩ := e
            go_wp2
            go_meet
            exact ⟨⟨_, rfl⟩, rfl⟩
          | false =>
            go_wp2
            go_meet
            exact ⟨⟨_, rfl⟩, rfl⟩
        case rest =>
          obtain ⟨⟨T, rfl⟩, rfl⟩ := hcut
          clear q1 s1 n0 n1
          have K0 : 0 ≤ x0 % 3 := by omega
          have K1 : x0 % 3 < 3 := by omega
          obtain ⟨q, HQ⟩ : ∃ q, Hid (p.asked = q) := ⟨_, rfl⟩
          have s6 : wc.cell? ⟨gr, 6, none⟩ = some (.int .u64 q) := by rw [← HQ.out]; exact HR2.out.cell 6 rfl
          have HK : Hid (k ≤ 1000) := Lib.hid (by omega)
          go_upto_block 2 with fail
          go_cut [11, 12, 13, 14, 15] from 69 to 111 (fun v _ _ _ _ wx => v = .bool true ∧ ∃ p a, Hid (Good wt ms ht a (k + 1) p) ∧ Hid (Blk wx g 48 (pc ev wt ms ht p)) ∧ Hid (Blk wx gr 45 (rc ev wt ms ht p a)) ∧ Hid (Chg (fun k => k = g ∨ k = gr) wc wx))
          case first =>
            by_cases e0 : x0 % 3 = 0
            · have b0 : (x0 % 3 == 0) = true := by simpa using e0
              clear q0 e0
              go_wp2_with fail
              refine (tick (by exact HG2.out) HM.out HF.out HK.out T).mono ?_
              rintro e w8 ⟨rfl, hb8, hc8⟩
              have HR8 := Lib.hid (hc8.blk HR2.out (by show ¬ gr = g; omega))
              have HB8 := Lib.hid hb8
              have HC8 := Lib.hid hc8
              clear hb8 hc8
              go_wp2_with fail
              refine (rtick (by exact HR8.out) HM.out HF.out HK.out T).mono ?_
              rintro e w9 ⟨rfl, hb9, hc9⟩
              have HB9 := Lib.hid hb9
              have HC9 := Lib.hid hc9
              clear hb9 hc9
              go_wp2
              go_meet
              exact ⟨rfl, tkP ev wt ms p T, tkA ms p at_ T, Lib.hid (HF.out.tick HM.out T), Lib.hid (HC9.out.blk HB8.out (by show ¬ g = gr; omega)), Lib.hid HB9.out, Lib.hid (((Chg.refl (fun k => k = g ∨ k = gr) wc).then HC8.out (fun i _ hi => .inl hi)).then HC9.out (fun i _ hi => .inr hi))⟩
            · by_cases e1 : x0 % 3 = 1
              · have b0 : (x0 % 3 == 0) = false := by simp [e1]
                have b1 : (x0 % 3 == 1) = true := by simpa using e1
                clear q0 e0 e1
                go_upto_region 19 with (fail)
                go_region_held3 (fun w' => w'.cell? ⟨gx, 2, none⟩ = some (.int .u64 x2)) (first | go_keep | assumption) (first | (go_at_call 12; refine (pong (by exact HG2.out) HM.out HF.out T x2).mono ?_; rintro e w8 ⟨rfl, hb8, hc8⟩; have p2 := hc8.cell (p := ⟨gx, 2, none⟩) (v := .int .u64 x2) (by first | exact q2 | simpa using q2) (by show ¬ gx = g; omega); have HR8 := Lib.hid (hc8.blk HR2.out (by show ¬ gr = g; omega)); have HB8 := Lib.hid hb8; have HC8 := Lib.hid hc8; clear hb8 hc8) | (go_at_call 17; refine (rpong (by exact HR8.out) HM.out HF.out T x2).mono ?_; rintro e w9 ⟨rfl, hb9, hc9⟩; have o2 := hc9.cell (p := ⟨gx, 2, none⟩) (v := .int .u64 x2) (by first | exact p2 | simpa using p2) (by show ¬ gx = gr; omega); have HB9 := Lib.hid hb9; have HC9 := Lib.hid hc9; clear hb9 hc9))
                go_wp2
                go_meet
                exact ⟨rfl, pgP ms ht p T x2, at_, Lib.hid (HF.out.pong HM.out T x2), Lib.hid (HC9.out.blk HB8.out (by show ¬ g = gr; omega)), Lib.hid HB9.out, Lib.hid (((Chg.refl (fun k => k = g ∨ k = gr) wc).drew.then HC8.out (fun i _ hi => .inl hi)).then HC9.out (fun i _ hi => .inr hi))⟩
              · have b0 : (x0 % 3 == 0) = false := by simpa using e0
                have b1 : (x0 % 3 == 1) = false := by simpa using e1
                clear q0 e0 e1
                have HPA : ∀ n, Hid ((pgP ms ht p T n).asked = q) := fun n => by
                  have h1 := PrS.later_asked ms p T
                  show _ = q
                  rw [← HQ.out]
                  unfold pgP
                  split
                  · rw [came_asked, h1]
                  · exact h1
                go_upto_region 13 with (fail)
                go_region_held3 (fun w' => w'.cell? ⟨gr, 6, none⟩ = some (.int .u64 q)) (first | go_keep | assumption) (first | (go_at_call 12; refine (pong (by exact HG2.out) HM.out HF.out T q).mono ?_; rintro e w8 ⟨rfl, hb8, hc8⟩; have p2 := hc8.cell (p := ⟨gr, 6, none⟩) (v := .int .u64 q) (by first | exact s6 | simpa using s6) (by show ¬ gr = g; omega); have HR8 := Lib.hid (hc8.blk HR2.out (by show ¬ gr = g; omega)); have HB8 := Lib.hid hb8; have HC8 := Lib.hid hc8; clear hb8 hc8) | (go_at_call 17; refine (rpong (by exact HR8.out) HM.out HF.out T q).mono ?_; rintro e w9 ⟨rfl, hb9, hc9⟩; have o2 : w9.cell? ⟨gr, 6, none⟩ = some (.int .u64 q) := (by rw [← (HPA q).out]; exact hb9.cell 6 rfl); have HB9 := Lib.hid hb9; have HC9 := Lib.hid hc9; clear hb9 hc9))
                go_wp2
                go_meet
                exact ⟨rfl, pgP ms ht p T q, at_, Lib.hid (HF.out.pong HM.out T q), Lib.hid (HC9.out.blk HB8.out (by show ¬ g = gr; omega)), Lib.hid HB9.out, Lib.hid (((Chg.refl (fun k => k = g ∨ k = gr) wc).drew.then HC8.out (fun i _ hi => .inl hi)).then HC9.out (fun i _ hi => .inr hi))⟩
          case rest =>
            obtain ⟨rfl, p, at_, HF3, HG3, HR3, HC3⟩ := hcut
            have ev0 := HM.out.1.1
            have s4 : wc.cell? ⟨gr, 4, none⟩ = some (.int .i64 p.now) := HR3.out.cell 4 rfl
            have s6 : wc.cell? ⟨gr, 6, none⟩ = some (.int .u64 p.asked) := HR3.out.cell 6 rfl
            have s11 : wc.cell? ⟨gr, 11, none⟩ = some (.bool p.up) := HR3.out.cell 11 rfl
            have HBe3 := Lib.hid (HC3.out.below HBe2.out (by have := HG2.out.lt; omega) (fun k hk => by rcases hk with rfl | rfl <;> omega))
            obtain ⟨pn, HPN⟩ : ∃ x, Hid (p.now = x) := ⟨_, rfl⟩
            obtain ⟨pa, HPA⟩ : ∃ x, Hid (p.asked = x) := ⟨_, rfl⟩
            obtain ⟨pu, HPU⟩ : ∃ x, Hid (p.up = x) := ⟨_, rfl⟩
            obtain ⟨pd, HPD⟩ : ∃ x, Hid ((if 0 ≤ p.ends then imin p.next p.ends else p.next) = x) := ⟨_, rfl⟩
            rw [HPN.out] at s4
            rw [HPA.out] at s6
            rw [HPU.out] at s11
            have u1 : ∀ w', Hid (Blk w' g 48 (pc ev wt ms ht p)) → Calls Try.prog 13 #[.pointer (some ⟨g, 0, none⟩)] w' fun e w'' => e = .returned (.bool pu) ∧ ∃ m, w'' = w'.drewN m := fun w' h => by
              have := PrW.up_any h.out (show 0 < ev by omega)
              rw [HPU.out] at this
              exact this
            have u2 : ∀ w', Hid (Blk w' g 48 (pc ev wt ms ht p)) → Calls Try.prog 18 #[.pointer (some ⟨g, 0, none⟩)] w' fun e w'' => e = .returned (.int .i64 pd) ∧ ∃ m, w'' = w'.drewN m := fun w' h => by
              have := PrW.due_any h.out (show 0 < ev by omega)
              rw [HPD.out] at this
              exact this
            have u3 : ∀ w', Hid (Blk w' g 48 (pc ev wt ms ht p)) → Calls Try.prog 20 #[.pointer (some ⟨g, 0, none⟩)] w' fun e w'' => e = .returned (.int .i64 pn) ∧ ∃ m, w'' = w'.drewN m := fun w' h => by
              have := PrW.now_any h.out (show 0 < ev by omega)
              rw [HPN.out] at this
              exact this
            have u4 : ∀ w', Hid (Blk w' g 48 (pc ev wt ms ht p)) → Calls Try.prog 14 #[.pointer (some ⟨g, 0, none⟩)] w' fun e w'' => e = .returned (.int .u64 pa) ∧ ∃ m, w'' = w'.drewN m := fun w' h => by
              have := PrW.asked_any h.out (show 0 < ev by omega)
              rw [HPA.out] at this
              exact this
            have u5 : ∀ w', Hid (Blk w' gr 45 (rc ev wt ms ht p at_)) → Calls Try.prog 19 #[.pointer (some ⟨gr, 0, none⟩)] w' fun e w'' => e = .returned (.int .i64 pd) ∧ ∃ m, w'' = w'.drewN m := fun w' h => by
              have := PrR.due_any h.out HF3.out.at_ HF3.out.inv.ends1
              rw [HPD.out] at this
              exact this
            have U1 := Lib.hid u1
            have U2 := Lib.hid u2
            have U3 := Lib.hid u3
            have U4 := Lib.hid u4
            have U5 := Lib.hid u5
            clear u1 u2 u3 u4 u5 q0 q2
            go_upto_region 20 with (fail)
            go_big_quiet ((first | (go_at_call 13; first | exact Calls.quiet_of (U1.out _ (by exact HG3)) | exact quiet_add (U1.out _ (by exact HG3))) | (go_at_call 18; first | exact Calls.quiet_of (U2.out _ (by exact HG3)) | exact quiet_add (U2.out _ (by exact HG3))) | (go_at_call 20; first | exact Calls.quiet_of (U3.out _ (by exact HG3)) | exact quiet_add (U3.out _ (by exact HG3))) | (go_at_call 14; first | exact Calls.quiet_of (U4.out _ (by exact HG3)) | exact quiet_add (U4.out _ (by exact HG3))) | (go_at_call 19; first | exact Calls.quiet_of (U5.out _ (by exact HR3)) | exact quiet_add (U5.out _ (by exact HR3)))))
            clear s4 s6 s11
            go_wp2
            go_roundw
            case rel => exact ⟨k + 1, p, at_, by omega, by go_num, HF3, Lib.hid (HG3.out.drewN _), Lib.hid (HR3.out.drewN _), Lib.hid (below_drewN HBe3.out _)⟩
            case measure => simp [intOf]; omega
    · go_wp2_with fail
      refine PrA.alive_any.mono ?_
      rintro e w7 ⟨rfl, hb7⟩
      go_wp2
      go_ret
      refine ⟨rfl, ?_⟩
      rw [HB.out]
      exact HBe.out.trans (hb7.mono (by have := HG.out.lt; omega))

theorem entry (W : World) (v0 : Value) (v1 : Value) (g0 : Arg W (.struct (.cons (.int .i64) (.cons (.int .i64) (.cons (.int .i64) (.cons (.int .i64) .none))))) v0)
    (g1 : Arg W (.slice (.struct (.cons (.int .u8) (.cons (.int .i64) (.cons (.int .u64) .none))))) v1) :
    Calls Try.prog 5 #[v0, v1] W fun e w' => e = .returned (.bool true) ∧ Below W.heap.size W w' := by
  obtain ⟨cs, rfl, hl, hr⟩ := g0
  simp only [Sh.size] at hl
  match cs, hl, hr with
  | [c0, c1, c2, c3], _, hr =>
    simp only [Reads, Sh.size, List.take_succ_cons, List.take_zero, List.drop_succ_cons, List.drop_zero, List.cons.injEq, and_true] at hr
    obtain ⟨⟨x0, rfl, _⟩, ⟨x1, rfl, _⟩, ⟨x2, rfl, _⟩, ⟨x3, rfl, _⟩⟩ := hr
    by_cases hM : May x0 x1 x2 x3
    · obtain ⟨xs, hx, hs⟩ := rows_of (by simp [Sh.size]) g1
      refine law_yes hM v1 xs hx (fun row hr => isStep (w := W) row (hs row hr).1 (hs row hr).2)
    · exact law_no hM v1
end
end Go.Proofs.Ytandaanfdpedhaa.PrL
