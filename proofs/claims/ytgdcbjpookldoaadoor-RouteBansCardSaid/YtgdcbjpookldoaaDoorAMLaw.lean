/- AM: a law's run: what the abstract run says, the model's run does, and nothing that was there is written. -/
import Derived.Test.YtgdcbjpookldoaaDoorAMDraw5
import Derived.Below
set_option linter.unusedSimpArgs false
set_option linter.unusedVariables false
namespace Go.AM
open Go.RowKit
variable {P : Program}

/-- Is a function's body one that the machine may run? -/
def okF (P : Program) (G : Nat → Bool) (g : Nat) : Bool := match P.funcs[g]? with
  | some fn => (match fn.body with | some c => codeOk G c && !(fn.name == "runtime.NumGoroutine") | none => true)
  | none => true

theorem progOk_of {G : Nat → Bool} {prims : Prims} (hall : ((List.range P.funcs.size).all fun g => okF P G g) = true) : ProgOk P G prims := by
  intro g fn c _ hfn hb
  have hlt : g < P.funcs.size := (Array.getElem?_eq_some_iff.1 hfn).1
  have h := List.all_eq_true.1 hall g (List.mem_range.2 hlt)
  unfold okF at h
  simp only [hfn, hb, Bool.and_eq_true, Bool.not_eq_true'] at h
  exact h

theorem HR.blank (w : World) : HR P w.heap.size (fun _ => none) (AM.blank 0) w :=
  ⟨fun id loc e => (by cases e), fun id loc o e => (by cases e), fun id loc e => (by cases e), Nat.le_refl _, Nat.le_refl _⟩

theorem all_sound (hmix : P.follows .mixedOrders = true) {G : Nat → Bool} {prims : Prims} (hP : ProgOk P G prims) (hprims : ∀ g p, prims g = some p → PrimOk P G g p) (hkeep : PrimsKeep prims) (n : Nat) : CallSound P G (callE P prims n) :=
  callE_sound hP hprims (fun m hm => draw_sound hmix hm (callE_keeps hkeep m)) n

theorem law_sound (hmix : P.follows .mixedOrders = true) {G : Nat → Bool} {prims : Prims} (hP : ProgOk P G prims) (hprims : ∀ g p, prims g = some p → PrimOk P G g p) (hkeep : PrimsKeep prims) {n : Nat} {f : FuncId} {fn : Func} {c : Code}
    (hfn : P.funcs[f]? = some fn) (hb : fn.body = some c) (hname : (fn.name == "runtime.NumGoroutine") = false) {args : List Value} {h : AHeap} {r : Bool} {h' : AHeap}
    (hh : callE P prims n (.func (.func f) #[] #[]) args h = some (.bool r, h')) {μ : Map} {w : World} (hg : GOk G μ) (hr : HR P w.heap.size μ h w) (hlow : h.low = h.next) {args' : Array Value} (ha : VRs μ args args'.toList) :
    Calls P f args' w fun e w' => e = .returned (.bool r) ∧ Below w.heap.size w w' := by
  have hfv : VR μ (.func (.func f) #[] #[]) (.func (.func f) #[] #[]) := .func f _ _ _ _ rfl (fun i x x' a _ => by simp at a) rfl (fun i x x' a _ => by simp at a)
  obtain ⟨d, hd, hcase⟩ := all_sound hmix hP hprims hkeep n hh hg hr hfv ha
  have hent : entersV P (.func (.func f) #[] #[]) = true := by unfold entersV; simp only [hfn]; simp [hb]
  have hrun : (invoke d.target d.args).run P w = .ok (.enter f args') w := by
    have h1 := congrArg (fun s : Sem Deferred => (s >>= fun d => invoke d.target d.args).run P w) hd
    simp only [Sem.run_bind, Sem.run_pure, Result.andThen_ok] at h1
    rw [← h1]
    simp only [Deferred.ofValue, Sem.run_pure, Result.andThen_ok, Array.empty_append]
    show (callFunc f (args' ++ #[])).run P w = _
    simp only [callFunc, Sem.run_bind, run_program, Result.andThen_ok, hfn, hname, hb]
    simp
  rcases hcase with ⟨hm, _⟩ | ⟨f', as, w1, e1, hci⟩ | ⟨hm, _⟩
  · rw [hent] at hm; cases hm
  · rw [hrun] at e1
    cases e1
    refine (CallsIn.calls hci room_wide).mono ?_
    rintro e w' ⟨v, rfl, μ', g1, g2, g3⟩
    cases g1
    refine ⟨rfl, g2.env.1, g2.env.2.1, g2.env.2.2, g2.size, fun k hk => g2.frame k hk (not_mine_protect (fun id loc e => (hr.dom id loc e).1) hlow k)⟩
  · rw [hent] at hm; cases hm

end Go.AM
