/- A text of this claim: walks, or plain law. -/
import Derived.Test.YtodcnfabnlojdaaFa
import Derived.Test.YtodcnfabnlojdaaAMLaw
set_option linter.unusedSimpArgs false
set_option linter.unusedVariables false
namespace Go.Proofs.Ytodcnfabnlojdaa
open Go.AM
theorem b49_T1 : type_of% (And.intro (@AM.bin_geq) (And.intro (@AM.bin_leq) (@AM.op_binOp))) := And.intro (@AM.bin_geq) (And.intro (@AM.bin_leq) (@AM.op_binOp))
theorem b48_T1 : type_of% (And.intro (@AM.op_call) (And.intro (@AM.op_unOp) (And.intro (@AM.un_neg) (@AM.un_not)))) := And.intro (@AM.op_call) (And.intro (@AM.op_unOp) (And.intro (@AM.un_neg) (@AM.un_not)))


noncomputable def prims : Prims := fun _ => none
theorem hp : PMono prims := fun g p e => by cases e
theorem primsOk : ∀ g p, prims g = some p → PrimOk Try.prog (fun _ => false) g p := by intro g p hp; cases hp
theorem primsKeep : PrimsKeep prims := by intro g p hp; cases hp
abbrev W (K : Nat) (args : List Value) (h : AHeap) (Q : VQ) : Prop := CallW Try.prog prims (.func (.func K) #[] #[]) args h Q

theorem may_w (p : Int) (h : AHeap) (Q : VQ) (hq : Q (.bool (decide (0 ≤ p ∧ p ≤ 15))) h) : W 49 [.int .i64 p] h Q := by
  refine AM.enter hp (fn := Try.f49) (rs := [.tmp 2]) (nt := 9) (by kernel_rfl) Try.func49 rfl rfl rfl (by kernel_rfl) ?_
  simp (disch := first | omega | (simp only [AM.DB, List.length_set, List.length_map]; done) | (simp only [AM.DB, List.length_set, List.length_map]; omega)) only [AM.RB, Nat.reduceAdd, Nat.reduceMul, Nat.reduceEqDiff, reduceCtorEq, b49_T1]
  refine AM.guard_split (fun h0 => ?_) (fun h0 => ?_)
  · simp (disch := first | omega | (simp only [AM.DB, List.length_set, List.length_map]; done) | (simp only [AM.DB, List.length_set, List.length_map]; omega)) only [AM.RB, Nat.reduceAdd, Nat.reduceMul, Nat.reduceEqDiff, reduceCtorEq, b49_T1, decide_eq_true h0]
    simpa [show 0 ≤ p from h0] using hq
  · simp (disch := first | omega | (simp only [AM.DB, List.length_set, List.length_map]; done) | (simp only [AM.DB, List.length_set, List.length_map]; omega)) only [AM.RB, Nat.reduceAdd, Nat.reduceMul, Nat.reduceEqDiff, reduceCtorEq, b49_T1, decide_eq_false h0]
    simpa [show ¬ 0 ≤ p from h0] using hq

theorem all1_w (p : Int) (h : AHeap) (Q : VQ) (hq : Q (.bool (!decide (0 ≤ p ∧ p ≤ 15))) h) : W 48 [.int .i64 p] h Q := by
  refine AM.enter hp (fn := Try.f48) (rs := [.tmp 2]) (nt := 6) (by kernel_rfl) Try.func48 rfl rfl rfl (by kernel_rfl) ?_
  simp (disch := first | omega | (simp only [AM.DB, List.length_set, List.length_map]; done) | (simp only [AM.DB, List.length_set, List.length_map]; omega)) only [AM.RB, Nat.reduceAdd, Nat.reduceMul, Nat.reduceEqDiff, reduceCtorEq, b48_T1]
  refine may_w p h _ ?_
  simp (disch := first | omega | (simp only [AM.DB, List.length_set, List.length_map]; done) | (simp only [AM.DB, List.length_set, List.length_map]; omega)) only [AM.RB, Nat.reduceAdd, Nat.reduceMul, Nat.reduceEqDiff, reduceCtorEq, b48_T1]
  exact hq

end Go.Proofs.Ytodcnfabnlojdaa
