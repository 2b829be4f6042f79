/-
  The configurations that come in, opened; ModelParts.
-/
import Derived.Test.YtpcanolanhdfeaaMdP
namespace Go.Proofs.Ytpcanolanhdfeaa.MdE
open Go.RowKit Go.Proofs.Ytpcanolanhdfeaa.Kit Go.Proofs.Ytpcanolanhdfeaa.Math Go.Proofs.Ytpcanolanhdfeaa.MdW
set_option linter.unusedVariables false

/-- The shape of a configuration. -/
def cfgSh : Sh := .struct (.cons (.int .u64) (.cons (.int .i64) (.cons (.int .i64) (.cons (.int .i64) (.cons (.int .i64) (.cons (.int .i64) .none))))))
theorem isCfg (W : World) (v : Value) (h : Arg W cfgSh v) : ∃ c : Cfg, v = .agg (cf c) := by
  obtain ⟨row, rfl, h1, h2⟩ := h
  match row, h1, h2 with
  | [c0, c1, c2, c3, c4, c5], _, hr =>
    simp only [reads_int, reads_none, reads_cons, Sh.size, List.take_succ_cons, List.take_zero, List.drop_succ_cons, List.drop_zero, List.cons.injEq, and_true] at hr
    obtain ⟨⟨x0, rfl, l0⟩, ⟨x1, rfl, _⟩, ⟨x2, rfl, _⟩, ⟨x3, rfl, _⟩, ⟨x4, rfl, _⟩, ⟨x5, rfl, _⟩⟩ := hr
    obtain ⟨s, rfl⟩ := of_wf l0
    exact ⟨⟨s, x1, x2, x3, x4, x5⟩, rfl⟩
theorem isTwo (W : World) (v : Value) (h : Arg W (.arr 2 (.int .i64)) v) : ∃ x y : Int, v = .agg #[.int .i64 x, .int .i64 y] := by
  obtain ⟨row, rfl, h1, h2⟩ := h
  match row, h1, h2 with
  | [c0, c1], _, hr =>
    have a0 := hr 0 (by omega)
    have a1 := hr 1 (by omega)
    simp only [reads_int, Sh.size, Nat.zero_mul, Nat.one_mul, List.drop_zero, List.take_succ_cons, List.take_zero, List.drop_succ_cons, List.cons.injEq, and_true] at a0 a1
    obtain ⟨x, rfl, _⟩ := a0
    obtain ⟨y, rfl, _⟩ := a1
    exact ⟨x, y, rfl⟩
theorem parts (W : World) (v0 v1 v2 : Value) (g0 : Arg W cfgSh v0) (g1 : Arg W cfgSh v1) (g2 : Arg W (.arr 2 (.int .i64)) v2) :
    Calls Try.prog 3 #[v0, v1, v2] W fun e w' => e = .returned (.bool true) ∧ Below W.heap.size W w' := by
  obtain ⟨c, rfl⟩ := isCfg W v0 g0
  obtain ⟨d, rfl⟩ := isCfg W v1 g1
  obtain ⟨x, y, rfl⟩ := isTwo W v2 g2
  exact MdP.law_any c d x y
end Go.Proofs.Ytpcanolanhdfeaa.MdE
