/-
  Walks over the client's small functions.
-/
import Derived.Test.YtoghkikjgilpdaaProg
import Derived.Test.YtoghkikjgilpdaaLists
import Derived.Deep.QuietTactic
import Derived.BigQuiet
import Derived.Deep.DeepCutAuto
import Derived.Deep.CutBlock
import Derived.Deep.RegionHeld3
import Derived.Outline
import Derived.KernelRfl
import Derived.IntWalk
import Derived.Lib.LazyBuf
namespace Go.Proofs.Ytoghkikjgilpdaa.ClW
open Go.RowKit Go.Proofs.Ytoghkikjgilpdaa.Kit
attribute [local go_sem high] max_imax min_imin
set_option linter.unusedVariables false

theorem int_info : (Try.prog.info? 3).map (fun i => (i.zero, i.size, i.bytes)) = some (some (.int .i64 0), 1, 8) := by kernel_rfl
theorem ints22 : ElemT Try.prog 22 3 1 8 := by
  refine ⟨Try.underlying22, ?_⟩
  have h := int_info
  cases hi : Try.prog.info? 3 with
  | none => rw [hi] at h; simp at h
  | some i =>
    rw [hi] at h
    simp at h
    exact ⟨i, _, rfl, h.1, h.2.1, h.2.2, rfl⟩

/-- What a client keeps. -/
structure Ck where
  js : Int
  ja : Option Addr
  jn : Nat
  jc : Nat
  jm : Int
  ev : Int
  ta : Option Addr
  tn : Nat
  tc : Nat
  en : Int
  heard : Bool
  stopped : Bool
  now : Int
  next : Int
def cc (k : Ck) : Array Value := #[.int .u64 3, .int .u64 4, .int .u64 k.js, .slice k.ja k.jn k.jc, .int .i64 k.jm, .int .i64 k.ev, .slice k.ta k.tn k.tc, .int .i64 k.en, .bool k.heard, .bool k.stopped, .int .i64 k.now, .int .i64 k.next]

/-- The time behind a call. -/
def nowOf (now t : Int) : Int := if t ≤ 1099511627776 then imax now t else now
theorem nowOf_lo (now t : Int) (h : 0 ≤ now) : 0 ≤ nowOf now t := by unfold nowOf imax; split <;> (try split) <;> omega
theorem nowOf_hi (now t : Int) (h : now ≤ 1099511627776) : nowOf now t ≤ 1099511627776 := by unfold nowOf imax; split <;> (try split) <;> omega

section
variable {g : Nat} {k : Ck} {w : World}

theorem ok_any (hb : Blk w g 58 (cc k)) (h : 0 < k.ev) : Calls Try.prog 26 #[.pointer (some ⟨g, 0, none⟩)] w fun e w' => e = .returned (.bool true) ∧ ∃ m, w' = w.drewN m := by
  have hu := Try.underlying24
  have c5 : w.cell? ⟨g, 5, none⟩ = some (.int .i64 k.ev) := hb.cell 5 rfl
  clear hb
  go_enter Try.func26, Try.ntmps26
  go_wp2
  go_ret
  exact ⟨rfl, 0, rfl⟩

theorem ok_nil : Calls Try.prog 26 #[.pointer none] w fun e w' => e = .returned (.bool false) ∧ ∃ m, w' = w.drewN m := by
  have hu := Try.underlying24
  go_enter Try.func26, Try.ntmps26
  go_wp2
  go_ret
  exact ⟨rfl, 0, rfl⟩

theorem later_any (hb : Blk w g 58 (cc k)) (t : Int) : Calls Try.prog 27 #[.pointer (some ⟨g, 0, none⟩), .int .i64 t] w fun e w' =>
    e = .returned (.tuple #[]) ∧ Blk w' g 58 (cc { k with now := nowOf k.now t }) ∧ Chg (fun i => i = g) w w' := by
  have HB := Lib.hid hb
  obtain ⟨n, HN⟩ : ∃ n, Hid (k.now = n) := ⟨_, rfl⟩
  have c10 : w.cell? ⟨g, 10, none⟩ = some (.int .i64 n) := by rw [← HN.out]; exact hb.cell 10 rfl
  have f10 := hb.frozen 10
  clear hb
  rw [HN.out]
  by_cases ht : t ≤ 1099511627776
  · have HT := Lib.hid (show nowOf n t = imax n t from if_pos ht)
    go_enter Try.func27, Try.ntmps27
    go_wp2
    exact bodyPost_end (v := .tuple #[]) (by simp [results, Try.results27, go_sem]) rfl ⟨rfl, by rw [HT.out]; exact HB.out.set 10 _, (Chg.refl (fun i => i = g) w).set (.inl rfl) _⟩
  · have HT := Lib.hid (show nowOf n t = n from if_neg ht)
    go_enter Try.func27, Try.ntmps27
    go_wp2
    exact bodyPost_end (v := .tuple #[]) (by simp [results, Try.results27, go_sem]) rfl ⟨rfl, by rw [HT.out, ← HN.out]; exact HB.out, Chg.refl _ _⟩

/-- A message. -/
structure M where
  kind : Int
  stream : Int
  session : Int
  attempt : Int
  inc : Int
  n : Int
  count : Int
  why : Int
  js : Int
  ja : Option Addr
  jn : Nat
  jc : Nat
  jm : Int
  la : Option Addr
  ln : Nat
  lc : Nat
def mc (m : M) : Array Value := #[.int .i64 m.kind, .int .u64 m.stream, .int .u64 m.session, .int .u64 m.attempt, .int .u64 m.inc, .int .u64 m.n, .int .u64 m.count, .int .i64 m.why, .int .u64 m.js, .slice m.ja m.jn m.jc, .int .i64 m.jm, .slice m.la m.ln m.lc]
def gotM (n : Int) : M := ⟨2, 3, 0, 0, 0, n, 0, 0, 0, none, 0, 0, 0, none, 0, 0⟩
def stopM : M := ⟨3, 3, 0, 0, 0, 0, 0, 0, 0, none, 0, 0, 0, none, 0, 0⟩
def askM (k : Ck) (a : Option Addr) (c : Nat) : M := ⟨1, 3, 4, 0, 0, 0, 0, 0, k.js, a, k.jn, c, k.jm, none, 0, 0⟩

theorem got_any (hb : Blk w g 58 (cc k)) (hn : k.tn ≤ 1099511627776) : Calls Try.prog 29 #[.pointer (some ⟨g, 0, none⟩)] w fun e w' =>
    e = .returned (.agg (mc (gotM k.tn))) ∧ Below w.heap.size w w' := by
  have c0 : w.cell? ⟨g, 0, none⟩ = some (.int .u64 3) := hb.cell 0 rfl
  have c6 : w.cell? ⟨g, 6, none⟩ = some (.slice k.ta k.tn k.tc) := hb.cell 6 rfl
  have hlt := hb.lt
  clear hb
  obtain ⟨ja, jn, jc, h1⟩ : ∃ a n c, k.ta = a ∧ k.tn = n ∧ k.tc = c := ⟨_, _, _, rfl, rfl, rfl⟩
  obtain ⟨e1, e2, e3⟩ := h1
  rw [e1, e2, e3] at c6
  rw [e2] at hn ⊢
  clear e1 e2 e3
  go_enter Try.func29, Try.ntmps29
  go_upto_region 1 with (fail)
  go_region
  go_wp2
  exact bodyPost_ret (v := .agg (mc (gotM jn))) (by simp [mc, gotM, results, Try.results29, go_sem]) rfl ⟨rfl, below_drew ((Below.refl _ w).alloc (Nat.le_refl _) _)⟩

theorem stop_any (hb : Blk w g 58 (cc k)) : Calls Try.prog 31 #[.pointer (some ⟨g, 0, none⟩)] w fun e w' =>
    e = .returned (.agg (mc stopM)) ∧ Below w.heap.size w w' := by
  have c0 : w.cell? ⟨g, 0, none⟩ = some (.int .u64 3) := hb.cell 0 rfl
  have hlt := hb.lt
  clear hb
  go_enter Try.func31, Try.ntmps31
  go_wp2
  exact bodyPost_ret (v := .agg (mc stopM)) (by simp [mc, stopM, results, Try.results31, go_sem]) rfl ⟨rfl, (Below.refl _ w).alloc (Nat.le_refl _) _⟩

theorem eql22 : ∀ w a n c, (binOp .eql 22 (.slice a n c) (.slice none 0 0)).run Try.prog w = .ok (.bool a.isNone) w := fun w a n c => run_eql_slice_nil w 22 3 a n c Try.underlying22
theorem clone_none : Calls Try.prog 25 #[.slice none 0 0] w fun e w' => e = .returned (.slice none 0 0) ∧ w' = w := by
  have hu := eql22
  go_enter Try.func25, Try.ntmps25
  go_wp2
  go_ret
  exact ⟨rfl, rfl⟩

def Cloned (w : World) (n : Nat) (l : List Int) (e : Ending) (w' : World) : Prop := ∃ a c, e = .returned (.slice a n c) ∧ Own w' w.heap.size 3 1 a n c (ints l) ∧ Below w.heap.size w w'
theorem clone_any {a : Option Addr} {n c : Nat} {l : List Int} (hr : Rd w 1 a n c (ints l)) (hn : n ≤ 17592186044416) : Calls Try.prog 25 #[.slice a n c] w (Cloned w n l) := by
  have hu := eql22
  rcases a with _ | ad
  · obtain rfl := hr.nil rfl
    obtain rfl : n = 0 := by have := hr.cap; omega
    have h0 := hr.zero
    refine clone_none.mono ?_
    rintro e w' ⟨rfl, rfl⟩
    exact ⟨none, 0, rfl, by rw [h0]; exact Own.none_ _ _ _ _, Below.refl _ _⟩
  · have HR := Lib.hid hr
    clear hr
    have HO : Hid (Own (w.alloc (.cells #[] 3)) w.heap.size 3 1 (some ⟨w.heap.size, 0, none⟩) 0 0 []) := Own.made w #[] 3 0 (Nat.le_refl _) (Nat.zero_le _) rfl
    have HR2 : Hid (Rd (w.alloc (.cells #[] 3)) 1 (some ad) n c (ints l)) := HR.out.chg ((Chg.refl (fun _ => False) w).alloc _) (fun _ _ _ => id)
    go_enter Try.func25, Try.ntmps25
    go_wp2_with (at_builtin; refine wpList_app ints22 (by omega) rfl (.tmp 5) (.tmp 6) rfl (B := w.heap.size) (by rfl) HO.out (by rfl) HR2.out (ints_one l) (by omega) (by omega) (by simp) ?_; intro a' c' w' hown hg hat)
    go_ret
    rw [Nat.zero_add, List.nil_append] at *
    refine ⟨a', c', rfl, hown, ?_⟩
    exact ((Below.refl _ w).alloc (Nat.le_refl _) _).grown hg (by simp) (fun k hk => by simp [ob] at hk; omega)
end
end Go.Proofs.Ytoghkikjgilpdaa.ClW
