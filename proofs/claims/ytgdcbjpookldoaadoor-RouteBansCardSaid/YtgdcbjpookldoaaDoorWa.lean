/- Walks of this claim's functions, and plain laws. -/
import Derived.Test.YtgdcbjpookldoaaDoorProg
import Derived.Test.YtgdcbjpookldoaaDoorAMRules
import Derived.Test.YtgdcbjpookldoaaDoorAMOps6
import Derived.KernelRfl
import Derived.Test.YtgdcbjpookldoaaDoorAMIter2
import Derived.Test.YtgdcbjpookldoaaDoorAMLaw
import Derived.Test.YtgdcbjpookldoaaDoorChecked
import Derived.Lib.UnsafeStr
import Derived.Lib.Builder
import Derived.Laws.StandIn
import Derived.Shelf.RegionOpenPlain
import Derived.WalkKit
import Derived.Tactics
import Derived.Tactics2
import Derived.Defers
import Derived.Laws.Pointers
import Derived.Laws.LoneSync
import Derived.RegionTactic
import Derived.RegionCalls
import Derived.ChangeAlike
import Derived.Test.YtgdcbjpookldoaaDoorAMGlob
set_option linter.unusedSimpArgs false
set_option linter.unusedVariables false
namespace Go.Proofs.YtgdcbjpookldoaaDoor
open Go.AM

theorem ul_3 : Tryd.prog.underlying 3 = some (.int .i64) := by kernel_rfl
theorem lk_3 : lkI Tryd.prog 3 = some none := by kernel_rfl
theorem sz_3 : szI Tryd.prog 3 = some 1 := by kernel_rfl
theorem al_3 : alI Tryd.prog 3 = some ([.int .i64 0]) := by kernel_rfl
theorem ul_5 : Tryd.prog.underlying 5 = some (.int .u8) := by kernel_rfl
theorem lk_5 : lkI Tryd.prog 5 = some none := by kernel_rfl
theorem sz_5 : szI Tryd.prog 5 = some 1 := by kernel_rfl
theorem al_5 : alI Tryd.prog 5 = some ([.int .u8 0]) := by kernel_rfl
theorem ul_9 : Tryd.prog.underlying 9 = some (.string) := by kernel_rfl
theorem lk_9 : lkI Tryd.prog 9 = some none := by kernel_rfl
theorem sz_9 : szI Tryd.prog 9 = some 1 := by kernel_rfl
theorem ul_22 : Tryd.prog.underlying 22 = some (.slice 3) := by kernel_rfl
theorem lk_22 : lkI Tryd.prog 22 = some none := by kernel_rfl
theorem sz_22 : szI Tryd.prog 22 = some 1 := by kernel_rfl
theorem el_22 : elI Tryd.prog 22 = some (3, 1) := by kernel_rfl
theorem ap_22 : apI Tryd.prog 22 = some (3, 1, 8) := by kernel_rfl
theorem bs_22 : bsI Tryd.prog 22 = some (3, 1) := by kernel_rfl
theorem ul_23 : Tryd.prog.underlying 23 = some (.pointer 84) := by kernel_rfl
theorem lk_23 : lkI Tryd.prog 23 = some none := by kernel_rfl
theorem sz_23 : szI Tryd.prog 23 = some 1 := by kernel_rfl
theorem al_23 : alI Tryd.prog 23 = some ([.pointer none]) := by kernel_rfl
theorem lk_24 : lkI Tryd.prog 24 = some none := by kernel_rfl
theorem sz_24 : szI Tryd.prog 24 = some 1 := by kernel_rfl
theorem al_24 : alI Tryd.prog 24 = some ([.int .i64 0]) := by kernel_rfl
theorem ul_52 : Tryd.prog.underlying 52 = some (.slice 5) := by kernel_rfl
theorem lk_52 : lkI Tryd.prog 52 = some none := by kernel_rfl
theorem sz_52 : szI Tryd.prog 52 = some 1 := by kernel_rfl
theorem el_52 : elI Tryd.prog 52 = some (5, 1) := by kernel_rfl
theorem ap_52 : apI Tryd.prog 52 = some (5, 1, 1) := by kernel_rfl
theorem lk_82 : lkI Tryd.prog 82 = some none := by kernel_rfl
theorem sz_82 : szI Tryd.prog 82 = some 1 := by kernel_rfl
theorem el_82 : elI Tryd.prog 82 = some (22, 1) := by kernel_rfl
theorem mk_82 : mkI Tryd.prog 82 = some (22, 24, [.slice none 0 0]) := by kernel_rfl
theorem bd_84 : bdI Tryd.prog 84 = some ([.int .i64 0, .int .i64 0, .slice none 0 0, .int .u32 0, .int .i32 0, .int .u32 0, .slice none 0 0, .slice none 0 0], [(0, 1), (1, 1), (2, 1), (3, 3), (6, 1), (7, 1)]) := by kernel_rfl
theorem fd_84_0 : fdI Tryd.prog 84 0 = some 0 := by kernel_rfl
theorem fd_84_1 : fdI Tryd.prog 84 1 = some 1 := by kernel_rfl
theorem fd_84_2 : fdI Tryd.prog 84 2 = some 2 := by kernel_rfl
theorem fd_84_3 : fdI Tryd.prog 84 3 = some 3 := by kernel_rfl
theorem fd_84_4 : fdI Tryd.prog 84 4 = some 6 := by kernel_rfl
theorem fd_84_5 : fdI Tryd.prog 84 5 = some 7 := by kernel_rfl
theorem lk_96 : lkI Tryd.prog 96 = some none := by kernel_rfl
theorem ul_98 : Tryd.prog.underlying 98 = some (.map 3 3) := by kernel_rfl
theorem lk_98 : lkI Tryd.prog 98 = some none := by kernel_rfl
theorem sz_98 : szI Tryd.prog 98 = some 1 := by kernel_rfl
theorem al_98 : alI Tryd.prog 98 = some ([.map none]) := by kernel_rfl
theorem mp_98 : mpI Tryd.prog 98 = some (.int .i64 0) := by kernel_rfl
theorem bd_100 : bdI Tryd.prog 100 = some ([.pointer none, .map none, .map none], [(0, 1), (1, 1), (2, 1)]) := by kernel_rfl
theorem fd_100_0 : fdI Tryd.prog 100 0 = some 0 := by kernel_rfl
theorem fd_100_1 : fdI Tryd.prog 100 1 = some 1 := by kernel_rfl
theorem fd_100_2 : fdI Tryd.prog 100 2 = some 2 := by kernel_rfl
theorem lk_123 : lkI Tryd.prog 123 = some (some 4) := by kernel_rfl
theorem sz_123 : szI Tryd.prog 123 = some 4 := by kernel_rfl
theorem al_123 : alI Tryd.prog 123 = some ([.int .u8 0, .int .u8 0, .int .i64 0, .int .i64 0]) := by kernel_rfl
theorem fd_123_0 : fdI Tryd.prog 123 0 = some 0 := by kernel_rfl
theorem fd_123_1 : fdI Tryd.prog 123 1 = some 1 := by kernel_rfl
theorem fd_123_2 : fdI Tryd.prog 123 2 = some 2 := by kernel_rfl
theorem fd_123_3 : fdI Tryd.prog 123 3 = some 3 := by kernel_rfl
theorem lk_127 : lkI Tryd.prog 127 = some none := by kernel_rfl
theorem sz_127 : szI Tryd.prog 127 = some 1 := by kernel_rfl
theorem al_127 : alI Tryd.prog 127 = some [.nilFunc] := by kernel_rfl
theorem ul_128 : Tryd.prog.underlying 128 = some (.slice 133) := by kernel_rfl
theorem lk_128 : lkI Tryd.prog 128 = some none := by kernel_rfl
theorem sz_128 : szI Tryd.prog 128 = some 1 := by kernel_rfl
theorem el_128 : elI Tryd.prog 128 = some (133, 3) := by kernel_rfl
theorem ap_128 : apI Tryd.prog 128 = some (133, 3, 24) := by kernel_rfl
theorem bs_128 : bsI Tryd.prog 128 = some (133, 3) := by kernel_rfl
theorem al_130 : alI Tryd.prog 130 = some ([.slice none 0 0]) := by kernel_rfl
theorem fd_130_0 : fdI Tryd.prog 130 0 = some 0 := by kernel_rfl
theorem lk_133 : lkI Tryd.prog 133 = some (some 3) := by kernel_rfl
theorem sz_133 : szI Tryd.prog 133 = some 3 := by kernel_rfl
theorem al_133 : alI Tryd.prog 133 = some ([.int .i64 0, .int .i64 0, .int .i64 0]) := by kernel_rfl
theorem bd_133 : bdI Tryd.prog 133 = some ([.int .i64 0, .int .i64 0, .int .i64 0], [(0, 1), (1, 1), (2, 1)]) := by kernel_rfl
theorem fd_133_0 : fdI Tryd.prog 133 0 = some 0 := by kernel_rfl
theorem fd_133_1 : fdI Tryd.prog 133 1 = some 1 := by kernel_rfl
theorem fd_133_2 : fdI Tryd.prog 133 2 = some 2 := by kernel_rfl
theorem lk_141 : lkI Tryd.prog 141 = some (some 16) := by kernel_rfl
theorem ul_142 : Tryd.prog.underlying 142 = some (.pointer 130) := by kernel_rfl
end Go.Proofs.YtgdcbjpookldoaaDoor

/- What stands for three of Go's library's functions (bytealg.IndexByteString, a Builder's copyCheck and String), and that they answer so. -/
namespace Go.AM
open Go.Proofs Go.RowKit Go.Lib

noncomputable def pIdxB : CallV → List Value → AHeap → R Value := fun _ all h => match all with
  | [.string s, .int .u8 c] => some (.int .i64 (firstIdx s c.toNat.toUInt8), h)
  | _ => none
theorem idxB_ok (G : Nat → Bool) : PrimOk Tryd.prog G 103 pIdxB := by
  intro call _ B μ h w all r h' hh hg hr all' ha
  unfold pIdxB at hh
  split at hh
  · rename_i s c
    cases hh
    obtain ⟨a, m, e1, v1, ha⟩ := ha.cons_inv
    obtain ⟨b, m2, rfl, v2, ha⟩ := ha.cons_inv
    obtain rfl := ha.nil_inv
    cases v1; cases v2
    have e2 : all' = #[.string s, .int .u8 c] := by
      apply Array.toList_inj.1; rw [e1]
    subst e2
    refine .inl ⟨by kernel_rfl, .int .i64 (firstIdx s c.toNat.toUInt8), w, ?_, μ, .int _ _, Post.refl hr, Keeps.refl h⟩
    rw [run_callFunc_indexByte Tryd.func103 (by kernel_rfl) (by kernel_rfl) (by kernel_rfl) (by kernel_rfl), run_indexByte_string]
    rfl
  · cases hh

end Go.AM

/- What stands for a Builder's copyCheck and String answers as they do. -/
namespace Go.AM
open Go.Proofs Go.RowKit Go.Lib

theorem enterG {g : FuncId} {fn : Func} {c : Code} (hfn : Tryd.prog.funcs[g]? = some fn) (hb : fn.body = some c) (hname : (fn.name == "runtime.NumGoroutine") = false) (xs : Array Value) (w : World) : (callFunc g xs).run Tryd.prog w = .ok (.enter g xs) w := by
  simp only [callFunc, Sem.run_bind, run_program, Result.andThen_ok, hfn, hname, hb]
  simp

theorem idxB_keeps {call : CallV} {all : List Value} {h : AHeap} {r : Value} {h' : AHeap} (hh : pIdxB call all h = some (r, h')) : Keeps h h' := by
  unfold pIdxB at hh
  split at hh
  · cases hh; exact Keeps.refl _
  · cases hh

end Go.AM

/- sync.Once's Do: its parts (after the kit's worked example 'lazy'). -/
namespace Go.AM
open Go.Proofs Go.RowKit

theorem disable (w : World) : (callFunc 114 #[]).run Tryd.prog w = .ok (.value (.tuple #[])) w := run_call_mark0 Tryd.func114 (by kernel_rfl) (by kernel_rfl) (by kernel_rfl) .disable (by kernel_rfl) w
theorem enable (w : World) : (callFunc 116 #[]).run Tryd.prog w = .ok (.value (.tuple #[])) w := run_call_mark0 Tryd.func116 (by kernel_rfl) (by kernel_rfl) (by kernel_rfl) .enable (by kernel_rfl) w
theorem acquire (a : Addr) (w : World) : (callFunc 117 #[.pointer (some a)]).run Tryd.prog w = .ok (.value (.tuple #[])) w := run_call_marked Tryd.func117 (by kernel_rfl) (by kernel_rfl) (by kernel_rfl) .acquire (by kernel_rfl) a w
theorem releaseMerge (a : Addr) (w : World) : (callFunc 119 #[.pointer (some a)]).run Tryd.prog w = .ok (.value (.tuple #[])) w := run_call_marked Tryd.func119 (by kernel_rfl) (by kernel_rfl) (by kernel_rfl) .releaseMerge (by kernel_rfl) a w

theorem store_deferred (a : Addr) (x : Value) (u : FrameMode) (w : World) (hc : w.cell? a = some x) (hz : w.frozen? a = false) :
    CallsD Tryd.prog 100 #[.pointer (some a), .bool true] u w fun e u' w' => u' = u ∧ (e = .returned (.tuple #[]) ∧ w' = w.drew.setCell a (.int .u32 1)) := by
  have hc' : w.drew.cell? a = some x := by go_simp
  have hz' : w.drew.frozen? a = false := by go_simp
  have hst := run_call_store (P := Tryd.prog) Tryd.func109 (by kernel_rfl) (by kernel_rfl) (by kernel_rfl) (by kernel_rfl) (k := .u32) (y := 1) hc' hz'
  go_enter_d Tryd.func100, Tryd.ntmps100
  go_wp2
  go_region_calls
  all_goals (go_end0; exact ⟨rfl, rfl⟩)

set_option maxRecDepth 100000 in
theorem unlock_deferred (a : Addr) (u : FrameMode) (w : World) (hc : w.cell? a = some (.int .i32 1)) (hz : w.frozen? a = false) :
    CallsD Tryd.prog 99 #[.pointer (some a)] u w fun e u' w' => u' = u ∧ (e = .returned (.tuple #[]) ∧ w' = w.setCell a (.int .i32 0)) := by
  have hd := disable
  have he := enable
  have hr := releaseMerge
  have hadd := run_call_add (P := Tryd.prog) Tryd.func120 (by kernel_rfl) (by kernel_rfl) (by kernel_rfl) .i32 (by kernel_rfl) (y := -1) (s := 0) hc hz (by simp [go_sem]; rfl)
  have hcv := run_convert_to_unsafe (P := Tryd.prog) (src := 148) (dst := 152) Tryd.underlying148 Tryd.underlying152 (by kernel_rfl) hc
  go_enter_d Tryd.func99, Tryd.ntmps99
  go_wp2
  go_end0
  go_wp2
  go_end0
  exact ⟨rfl, rfl⟩

set_option maxRecDepth 100000 in
theorem lock_free (a : Addr) (w : World) (hc : w.cell? a = some (.int .i32 0)) (hz : w.frozen? a = false) :
    Calls Tryd.prog 98 #[.pointer (some a)] w fun e w' => e = .returned (.tuple #[]) ∧ w' = w.setCell a (.int .i32 1) := by
  have hd := disable
  have he := enable
  have ha := acquire
  have hcas := run_call_cas_hit (P := Tryd.prog) Tryd.func115 (by kernel_rfl) (by kernel_rfl) (by kernel_rfl) .i32 (by kernel_rfl) (y := 1) hc hz
  have hc' : (w.setCell a (.int .i32 1)).cell? a = some (.int .i32 1) := World.cell?_setCell_same w a _ hc
  have hcv := run_convert_to_unsafe (P := Tryd.prog) (src := 148) (dst := 152) Tryd.underlying148 Tryd.underlying152 (by kernel_rfl) hc'
  go_enter Tryd.func98, Tryd.ntmps98
  go_wp2
  first | go_end0 | (simp only [Exit.inBlock, Exit.then]; refine bodyPost_ret (results_none rfl _ _ _) rfl ?_) | refine bodyPost_ret (results_none rfl _ _ _) rfl ?_
  go_wp2
  go_end0
  exact ⟨rfl, rfl⟩

set_option maxRecDepth 100000 in
theorem load_free (a : Addr) (d : Int) (w : World) (h0 : w.cell? a = some (.int .u32 d)) : Calls Tryd.prog 84 #[.pointer (some a)] w fun e w' => e = .returned (.bool (d != 0)) ∧ w' = w := by
  have hl := run_call_load (P := Tryd.prog) Tryd.func97 (by kernel_rfl) (by kernel_rfl) (by kernel_rfl) .u32 (by kernel_rfl) h0
  go_enter Tryd.func84, Tryd.ntmps84
  go_wp2
  go_ret
  exact ⟨rfl, rfl⟩

set_option maxRecDepth 100000 in
set_option maxHeartbeats 1600000 in
theorem slow_any (b off : Nat) (x : Value) (w : World) (R : Value → World → Prop)
    (h0 : w.cell? ⟨b, off, none⟩ = some (.int .u32 0)) (h1 : w.cell? ⟨b, off + 1, none⟩ = some (.int .i32 0)) (f0 : w.frozen? ⟨b, off, none⟩ = false) (f1 : w.frozen? ⟨b, off + 1, none⟩ = false)
    (hc : Calls Tryd.prog 69 #[x] (w.setCell ⟨b, off + 1, none⟩ (.int .i32 1)) fun e w' => ∃ v, e = .returned v ∧ R v w')
    (hR : ∀ v w', R v w' → w'.cell? ⟨b, off, none⟩ = some (.int .u32 0) ∧ w'.cell? ⟨b, off + 1, none⟩ = some (.int .i32 1) ∧ w'.frozen? ⟨b, off, none⟩ = false ∧ w'.frozen? ⟨b, off + 1, none⟩ = false) :
    Calls Tryd.prog 85 #[.pointer (some ⟨b, off, none⟩), .func (.func 69) #[x] #[]] w fun e w'' => e = .returned (.tuple #[]) ∧
      ∃ v w', R v w' ∧ w'' = (w'.drew.setCell ⟨b, off, none⟩ (.int .u32 1)).setCell ⟨b, off + 1, none⟩ (.int .i32 0) := by
  have hl := run_call_load (P := Tryd.prog) Tryd.func97 (by kernel_rfl) (by kernel_rfl) (by kernel_rfl) .u32 (by kernel_rfl) (w := w.setCell ⟨b, off + 1, none⟩ (.int .i32 1)) (a := ⟨b, off, none⟩) (x := 0) ((World.cell?_setCell_other _ ⟨b, off + 1, none⟩ ⟨b, off, none⟩ _ (by simp)).trans h0)
  have hnot : ∀ (x : Bool) (w : World), (Op.unary .not (.bool x)).run Tryd.prog w = .ok (.bool (!x)) w := fun _ _ => rfl
  go_enter_defers Tryd.func85, Tryd.ntmps85
  go_wp2_with (first | (go_at_call 98; refine (lock_free ⟨b, off + 1, none⟩ _ (by go_simp) (by go_simp)).mono ?_; rintro e w' ⟨rfl, rfl⟩) | (go_at_call 84; refine (load_free ⟨b, off, none⟩ 0 _ ((World.cell?_setCell_other _ ⟨b, off + 1, none⟩ ⟨b, off, none⟩ _ (by simp)).trans h0)).mono ?_; rintro e w' ⟨rfl, rfl⟩) | (go_at_call 69; refine hc.mono ?_; rintro e w' ⟨v, rfl, hRv⟩; obtain ⟨r0, r1, z0, z1⟩ := hR _ _ hRv))
  refine leaves_cons (f := 100) (args := #[.pointer (some ⟨b, off, none⟩), .bool true]) (by simp) (by simp [go_sem]) ?_
  refine (store_deferred ⟨b, off, none⟩ (.int .u32 0) .returning _ r0 z0).mono ?_
  rintro e u' w'' ⟨rfl, rfl, rfl⟩
  refine leaves_cons (f := 99) (args := #[.pointer (some ⟨b, off + 1, none⟩)]) (by simp [settle]) (by simp [go_sem]) ?_
  refine (unlock_deferred ⟨b, off + 1, none⟩ _ _ ?_ (by simp [z1])).mono ?_
  · refine (World.cell?_setCell_other _ ⟨b, off, none⟩ ⟨b, off + 1, none⟩ _ (by simp)).trans ?_
    rw [World.cell?_drew]
    exact r1
  rintro e u' w'' ⟨rfl, rfl, rfl⟩
  simp [Leaves, settle, results, Tryd.results85]
  exact ⟨_, _, hRv, rfl⟩

set_option maxRecDepth 100000 in
set_option maxHeartbeats 1600000 in
theorem do_first (b off : Nat) (x : Value) (w : World) (R : Value → World → Prop)
    (h0 : w.cell? ⟨b, off, none⟩ = some (.int .u32 0)) (h1 : w.cell? ⟨b, off + 1, none⟩ = some (.int .i32 0)) (f0 : w.frozen? ⟨b, off, none⟩ = false) (f1 : w.frozen? ⟨b, off + 1, none⟩ = false)
    (hc : Calls Tryd.prog 69 #[x] (w.setCell ⟨b, off + 1, none⟩ (.int .i32 1)) fun e w' => ∃ v, e = .returned v ∧ R v w')
    (hR : ∀ v w', R v w' → w'.cell? ⟨b, off, none⟩ = some (.int .u32 0) ∧ w'.cell? ⟨b, off + 1, none⟩ = some (.int .i32 1) ∧ w'.frozen? ⟨b, off, none⟩ = false ∧ w'.frozen? ⟨b, off + 1, none⟩ = false) :
    Calls Tryd.prog 68 #[.pointer (some ⟨b, off, none⟩), .func (.func 69) #[x] #[]] w fun e w'' => e = .returned (.tuple #[]) ∧
      ∃ v w', R v w' ∧ w'' = (w'.drew.setCell ⟨b, off, none⟩ (.int .u32 1)).setCell ⟨b, off + 1, none⟩ (.int .i32 0) := by
  have hnot : ∀ (x : Bool) (w : World), (Op.unary .not (.bool x)).run Tryd.prog w = .ok (.bool (!x)) w := fun _ _ => rfl
  go_enter Tryd.func68, Tryd.ntmps68
  go_wp2_with (first | (go_at_call 85; refine (slow_any b off x _ R h0 h1 f0 f1 hc hR).mono ?_; rintro e w' ⟨rfl, hw⟩) | (go_at_call 84; refine (load_free ⟨b, off, none⟩ 0 _ h0).mono ?_; rintro e w' ⟨rfl, rfl⟩))
  go_end0
  exact ⟨rfl, hw⟩
set_option maxRecDepth 100000 in
theorem do_done (a : Addr) (d : Int) (hd : ¬ d = 0) (fv : Value) (w : World) (h0 : w.cell? a = some (.int .u32 d)) :
    Calls Tryd.prog 68 #[.pointer (some a), fv] w fun e w' => e = .returned (.tuple #[]) ∧ w' = w := by
  have hnot : ∀ (x : Bool) (w : World), (Op.unary .not (.bool x)).run Tryd.prog w = .ok (.bool (!x)) w := fun _ _ => rfl
  have hd' : (d != 0) = true := by simp [hd]
  go_enter Tryd.func68, Tryd.ntmps68
  go_wp2_with (go_at_call 84; refine (load_free a d _ h0).mono ?_; rintro e w' ⟨rfl, rfl⟩)
  go_end0
  exact ⟨rfl, rfl⟩

end Go.AM

/- What stands for sync.Once's Do over grid.Map's tables, and that it answers so. -/
namespace Go.AM
open Go.Proofs Go.RowKit

noncomputable def pDoArg (all : List Value) (h : AHeap) : Option ((Value × AHeap) ⊕ (Value × AHeap × Nat × Nat)) := match all with
  | [.pointer (some ⟨id, off, none⟩), .func (.func f) first cap] =>
    match h.get id with
    | some (.cells c e o) =>
      match c[off]?, c[off + 1]? with
      | some (.int .u32 d), some (.int .i32 s) =>
        if h.low ≤ id ∧ o = false ∧ f = 69 ∧ first.size = 1 ∧ cap.size = 0 then
          if d ≠ 0 then some (.inl (.tuple #[], h))
          else if s = 0 then some (.inr (.func (.func f) first cap, h.put id (some (.cells (setRow c (off + 1) [.int .i32 1]) e o)), id, off))
          else none
        else none
      | _, _ => none
    | _ => none
  | _ => none
noncomputable def pDoEnd (id off : Nat) (h2 : AHeap) : R Value := match h2.get id with
  | some (.cells c2 e2 o2) =>
    match c2[off]?, c2[off + 1]? with
    | some (.int .u32 d2), some (.int .i32 s2) =>
      if d2 = 0 ∧ s2 = 1 ∧ o2 = false then some (.tuple #[], h2.put id (some (.cells (setRow c2 off [.int .u32 1, .int .i32 0]) e2 o2))) else none
    | _, _ => none
  | _ => none
noncomputable def pDo : CallV → List Value → AHeap → R Value := fun call all h => match pDoArg all h with
  | none => none
  | some (.inl r) => some r
  | some (.inr (fv, h1, id, off)) => (call fv [] h1).bind fun p => pDoEnd id off p.2

theorem cell_own {B : Nat} {μ : Map} {h : AHeap} {w : World} (hr : HR Tryd.prog B μ h w) {id off : Nat} {loc : Loc} {c : List Value} {e : TypeId} {b : Bool} {k : IntKind} {d : Int} (hl : μ id = some loc) (hg : h.get id = some (.cells c e b)) (hlow : h.low ≤ id)
    (hc : c[off]? = some (.int k d)) : w.cell? ⟨loc.blk, loc.base + off, none⟩ = some (.int k d) ∧ w.frozen? ⟨loc.blk, loc.base + off, none⟩ = false := by
  obtain ⟨C, fr, hb, hcl, ho, hes, hcs, hbs, hvv, hall, hfr0⟩ := hr.rowOwn hl hg hlow
  have hfr := hfr0.resolve_left (by rw [(hr.own id loc hl (by rw [hg]; simp) hlow).1]; simp)
  obtain ⟨v', k1, k2⟩ := hvv.get hc
  refine ⟨?_, ?_⟩
  · cases k2
    rw [cell_of_row w _ _ C _ fr hb]
    rw [List.getElem?_take] at k1
    split at k1
    · rw [List.getElem?_drop] at k1; simpa using k1
    · cases k1
  · simp only [World.frozen?, hb]
    have hoff : off < c.length := (List.getElem?_eq_some_iff.1 hc).1
    have := hfr.1 (loc.base + off) (by omega)
    simpa using this

theorem do_ok (G : Nat → Bool) : PrimOk Tryd.prog G 68 pDo := by
  intro call hsound B μ h w all r h' hh hg hr all' ha
  unfold pDo at hh
  split at hh
  · cases hh
  · rename_i p hp
    unfold pDoArg at hp
    split at hp
    · rename_i id off f first cap
      obtain ⟨a, m, e1, v1, ha⟩ := ha.cons_inv
      obtain ⟨fv, m2, rfl, v2, ha⟩ := ha.cons_inv
      obtain rfl := ha.nil_inv
      split at hp
      · rename_i c e o hgid
        split at hp
        · rename_i d s hc0 hc1
          split at hp
          · rename_i hcond
            obtain ⟨hlow, rfl, rfl, hf1, hc00⟩ := hcond
            split at hp
            · rename_i hd
              cases hp
              cases hh
              obtain ⟨k0, z0⟩ : _ := (show True ∧ True from ⟨trivial, trivial⟩)
              cases v1 with
              | ptr _ _ loc hl =>
              have e2 : all' = #[.pointer (some ⟨loc.blk, loc.base + off, none⟩), fv] := by
                apply Array.toList_inj.1; rw [e1]
              subst e2
              obtain ⟨k0, _⟩ := cell_own hr hl hgid hlow hc0
              refine .inr ⟨_, _, w, enterG Tryd.func68 rfl (by kernel_rfl) _ _, callsIn_wide.2 ?_⟩
              refine (do_done ⟨loc.blk, loc.base + off, none⟩ d hd _ w k0).mono ?_
              rintro x w' ⟨rfl, rfl⟩
              exact ⟨_, rfl, μ, VR.tuple' (VRs.nil μ), Post.refl hr, Keeps.refl _⟩
            · split at hp <;> cases hp
          · cases hp
        · cases hp
      · cases hp
    · cases hp
  · rename_i fv0 h1 id0 off0 hp
    obtain ⟨⟨rr, h2⟩, hcall, hend⟩ := Option.bind_eq_some_iff.1 hh
    unfold pDoArg at hp
    split at hp
    · rename_i id off f first cap
      obtain ⟨a, m, e1, v1, ha⟩ := ha.cons_inv
      obtain ⟨fv, m2, rfl, v2, ha⟩ := ha.cons_inv
      obtain rfl := ha.nil_inv
      split at hp
      · rename_i c e o hgid
        split at hp
        · rename_i d s hc0 hc1
          split at hp
          · rename_i hcond
            obtain ⟨hlow, rfl, rfl, hf1, hc00⟩ := hcond
            split at hp
            · cases hp
            · rename_i hd
              have hd0 : d = 0 := by omega
              subst hd0
              split at hp
              · rename_i hs0
                subst hs0
                cases hp
                unfold pDoEnd at hend
                split at hend
                · rename_i c2 e2 o2 hg2
                  split at hend
                  · rename_i d2 s2 q0 q1
                    split at hend
                    · rename_i hcond2
                      obtain ⟨rfl, rfl, rfl⟩ := hcond2
                      cases hend
                      have v2' := v2
                      cases v1 with
                      | ptr _ _ loc hl =>
                      cases v2 with
                      | func _ _ first' _ cap' hs1 hv1 hs2 hv2 =>
                      obtain ⟨x', rfl⟩ : ∃ x', first' = #[x'] := by
                        have h1 : first'.toList.length = 1 := by rw [Array.length_toList]; omega
                        obtain ⟨x', hx⟩ := List.length_eq_one_iff.1 h1
                        exact ⟨x', by apply Array.toList_inj.1; rw [hx]⟩
                      obtain rfl : cap' = #[] := Array.eq_empty_of_size_eq_zero (by omega)
                      have e2 : all' = #[.pointer (some ⟨loc.blk, loc.base + off0, none⟩), .func (.func 69) #[x'] #[]] := by
                        apply Array.toList_inj.1; rw [e1]
                      subst e2
                      obtain ⟨k0, z0⟩ := cell_own hr hl hgid hlow hc0
                      obtain ⟨k1, z1⟩ := cell_own hr hl hgid hlow hc1
                      have hlen : off0 + 1 < c.length := (List.getElem?_eq_some_iff.1 hc1).1
                      obtain ⟨_, p1, kp1⟩ := hr.write (off := off0 + 1) hl hgid hlow (vs := [.int .i32 1]) (vs' := [.int .i32 1]) (VRs.plain rfl) (by simp; omega) rfl
                      obtain ⟨dd, hdd, hcase⟩ := hsound hcall hg p1.hr v2' (VRs.nil _) (args' := #[])
                      have hent : entersV Tryd.prog (.func (.func 69) first cap) = true := by
                        unfold entersV
                        simp only [Tryd.func69]
                        kernel_rfl
                      have hrun : ∀ w1 : World, (invoke dd.target dd.args).run Tryd.prog w1 = .ok (.enter 69 #[x']) w1 := fun w1 => by
                        have h1 := congrArg (fun s : Sem Deferred => (s >>= fun d => invoke d.target d.args).run Tryd.prog w1) hdd
                        simp only [Sem.run_bind, Sem.run_pure, Result.andThen_ok] at h1
                        rw [← h1]
                        simp only [Deferred.ofValue, Sem.run_pure, Result.andThen_ok]
                        exact enterG Tryd.func69 rfl (by kernel_rfl) _ _
                      rcases hcase with ⟨hm, _⟩ | ⟨f', xs1, w1, e3, hci⟩ | ⟨hm, _⟩
                      · rw [hent] at hm; cases hm
                      · rw [hrun] at e3
                        cases e3
                        refine .inr ⟨_, _, w, enterG Tryd.func68 rfl (by kernel_rfl) _ _, callsIn_wide.2 ?_⟩
                        refine (do_first loc.blk (loc.base + off0) x' w _ k0 k1 z0 z1 (CallsIn.calls hci room_wide) ?_).mono ?_
                        · rintro v w' ⟨μ', _, p2, kp2⟩
                          have hl' := p2.le _ _ hl
                          have hlow' : h2.low ≤ id0 := by have := kp2.low; have := kp1.low; omega
                          obtain ⟨a1, a2⟩ := cell_own p2.hr hl' hg2 hlow' q0
                          obtain ⟨b1, b2⟩ := cell_own p2.hr hl' hg2 hlow' q1
                          exact ⟨a1, b1, a2, b2⟩
                        · rintro x w'' ⟨rfl, v, w', ⟨μ', _, p2, kp2⟩, rfl⟩
                          have hl' := p2.le _ _ hl
                          have hlow' : h2.low ≤ id0 := by have := kp2.low; have := kp1.low; omega
                          have hlen2 : off0 + 1 < c2.length := (List.getElem?_eq_some_iff.1 q1).1
                          have hr2 : HR Tryd.prog B μ' h2 w'.drew := p2.hr.congr rfl
                          obtain ⟨_, p3, kp3⟩ := hr2.write (off := off0) hl' hg2 hlow' (vs := [.int .u32 1, .int .i32 0]) (vs' := [.int .u32 1, .int .i32 0]) (VRs.plain rfl) (by simp; omega) rfl
                          have p2' := p2.congr (w2 := w'.drew) rfl ⟨rfl, rfl, rfl⟩
                          refine ⟨_, rfl, μ', VR.tuple' (VRs.nil μ'), ?_, (kp1.trans kp2).trans kp3⟩
                          exact Post.trans hr (kp1.trans kp2) (Post.trans hr kp1 p1 p2') p3
                      · rw [hent] at hm; cases hm
                    · cases hend
                  · cases hend
                · cases hend
              · cases hp
          · cases hp
        · cases hp
      · cases hp
    · cases hp

theorem do_keeps {call : CallV} (hk : CallKeeps call) {all : List Value} {h : AHeap} {r : Value} {h' : AHeap} (hlh : h.low ≤ h.next) (hh : pDo call all h = some (r, h')) : Keeps h h' := by
  unfold pDo at hh
  split at hh
  · cases hh
  · rename_i p hp
    unfold pDoArg at hp
    split at hp
    · split at hp
      · split at hp
        · split at hp
          · split at hp
            · cases hp; cases hh; exact Keeps.refl _
            · split at hp <;> cases hp
          · cases hp
        · cases hp
      · cases hp
    · cases hp
  · rename_i fv0 h1 id0 off0 hp
    obtain ⟨⟨rr, h2⟩, hcall, hend⟩ := Option.bind_eq_some_iff.1 hh
    unfold pDoArg at hp
    split at hp
    · split at hp
      · rename_i c e o hgid
        split at hp
        · split at hp
          · rename_i hcond
            split at hp
            · cases hp
            · split at hp
              · cases hp
                have kp1 := Keeps.ofPut (o' := .cells (setRow c (off0 + 1) [.int .i32 1]) e o) hgid hcond.1 (fun r e => by cases e)
                have kp2 := hk (by exact hlh) hcall
                unfold pDoEnd at hend
                split at hend
                · rename_i c2 e2 o2 hg2
                  split at hend
                  · split at hend
                    · cases hend
                      refine (kp1.trans kp2).trans (Keeps.ofPut hg2 ?_ (fun r e => by cases e))
                      have := kp2.low; have := kp1.low; have := hcond.1; simp only at hg2 ⊢; omega
                    · cases hend
                  · cases hend
                · cases hend
              · cases hp
          · cases hp
        · cases hp
      · cases hp
    · cases hp
theorem do_mono {c c' : CallV} (hc : CallLe c c') {all : List Value} {h : AHeap} {r : Value × AHeap} (hh : pDo c all h = some r) : pDo c' all h = some r := by
  unfold pDo at hh ⊢
  cases hp : pDoArg all h with
  | none => rw [hp] at hh; cases hh
  | some q =>
    rw [hp] at hh
    rcases q with q | ⟨fv, h1, id, off⟩
    · exact hh
    · simp only at hh ⊢
      obtain ⟨p, hcall, hend⟩ := Option.bind_eq_some_iff.1 hh
      rw [hc _ _ _ _ hcall]
      exact hend

end Go.AM

namespace Go.Proofs.YtgdcbjpookldoaaDoor
open Go.AM

/-- grid.ways. -/
abbrev GW : Nat := 0
noncomputable def prims : Prims := fun g => if g = 103 then some pIdxB else if g = 68 then some pDo else none
theorem hp : PMono prims := by
  intro g p e c c' hc all h r hh
  unfold prims at e
  split at e
  · cases e; exact hh
  · split at e
    · cases e; exact do_mono hc hh
    · cases e
theorem primsOk : ∀ g p, prims g = some p → PrimOk Tryd.prog (fun g => g == GW) g p := by
  intro g p hp
  unfold prims at hp
  split at hp
  · rename_i e; cases hp; subst e; exact idxB_ok _
  · split at hp
    · rename_i e; cases hp; subst e; exact do_ok _
    · cases hp
theorem primsKeep : PrimsKeep prims := by
  intro g p hp call hk all h r h' hl hh
  unfold prims at hp
  split at hp
  · cases hp; exact idxB_keeps hh
  · split at hp
    · cases hp; exact do_keeps hk hl hh
    · cases hp
abbrev W (K : Nat) (args : List Value) (h : AHeap) (Q : VQ) : Prop := CallW Tryd.prog prims (.func (.func K) #[] #[]) args h Q

end Go.Proofs.YtgdcbjpookldoaaDoor

namespace Go.Proofs.YtgdcbjpookldoaaDoor
open Go.AM
set_option maxRecDepth 8000
theorem b90_G2 : type_of% (@AM.op_call) := @AM.op_call
theorem b78_G2 : type_of% (@AM.op_call) := @AM.op_call
theorem b81_G2 : type_of% (And.intro (@AM.bin_geq) (And.intro (@AM.op_binOp) (@AM.op_call))) := And.intro (@AM.bin_geq) (And.intro (@AM.op_binOp) (@AM.op_call))
theorem b91_G2 : type_of% (And.intro (@AM.bin_geq) (And.intro (@AM.bin_sub) (And.intro (@AM.op_binOp) (And.intro (@AM.op_len) (And.intro (@AM.op_slice) (And.intro (@AM.slbs_hi_i) (And.intro (@AM.slbs_lh_i) (And.intro (@AM.slbs_lo_i) (And.intro (AM.str_cut ul_9) (And.intro (@AM.str_eql) (AM.str_len ul_9))))))))))) := And.intro (@AM.bin_geq) (And.intro (@AM.bin_sub) (And.intro (@AM.op_binOp) (And.intro (@AM.op_len) (And.intro (@AM.op_slice) (And.intro (@AM.slbs_hi_i) (And.intro (@AM.slbs_lh_i) (And.intro (@AM.slbs_lo_i) (And.intro (AM.str_cut ul_9) (And.intro (@AM.str_eql) (AM.str_len ul_9))))))))))
theorem b79_G2 : type_of% (And.intro (@AM.bin_sub) (And.intro (@AM.op_binOp) (And.intro (@AM.op_call) (And.intro (@AM.op_len) (And.intro (@AM.op_slice) (And.intro (@AM.slbs_hi_i) (And.intro (@AM.slbs_lh_i) (And.intro (@AM.slbs_lo_i) (And.intro (AM.str_cut ul_9) (AM.str_len ul_9)))))))))) := And.intro (@AM.bin_sub) (And.intro (@AM.op_binOp) (And.intro (@AM.op_call) (And.intro (@AM.op_len) (And.intro (@AM.op_slice) (And.intro (@AM.slbs_hi_i) (And.intro (@AM.slbs_lh_i) (And.intro (@AM.slbs_lo_i) (And.intro (AM.str_cut ul_9) (AM.str_len ul_9)))))))))
theorem b52_G2 : type_of% (@AM.op_call) := @AM.op_call
theorem b92_G2 : type_of% (And.intro (@AM.bin_sub) (And.intro (@AM.op_binOp) (And.intro (@AM.op_call) (And.intro (@AM.op_len) (And.intro (@AM.op_slice) (And.intro (@AM.op_unOp) (And.intro (@AM.resL_two) (And.intro (@AM.slbs_hi_i) (And.intro (@AM.slbs_lh_i) (And.intro (@AM.slbs_lo_i) (And.intro (AM.str_cut ul_9) (And.intro (AM.str_len ul_9) (And.intro (@AM.un_neg) (@AM.un_not)))))))))))))) := And.intro (@AM.bin_sub) (And.intro (@AM.op_binOp) (And.intro (@AM.op_call) (And.intro (@AM.op_len) (And.intro (@AM.op_slice) (And.intro (@AM.op_unOp) (And.intro (@AM.resL_two) (And.intro (@AM.slbs_hi_i) (And.intro (@AM.slbs_lh_i) (And.intro (@AM.slbs_lo_i) (And.intro (AM.str_cut ul_9) (And.intro (AM.str_len ul_9) (And.intro (@AM.un_neg) (@AM.un_not)))))))))))))
theorem b80_G2 : type_of% (And.intro (@AM.ex_tuple) (And.intro (@AM.op_call) (And.intro (@AM.op_extract) (@AM.resL_two)))) := And.intro (@AM.ex_tuple) (And.intro (@AM.op_call) (And.intro (@AM.op_extract) (@AM.resL_two)))
theorem b53_G2 : type_of% (And.intro (@AM.bin_add) (And.intro (@AM.bin_eql) (And.intro (@AM.bin_geq) (And.intro (@AM.bin_lss) (And.intro (@AM.ex_tuple) (And.intro (@AM.op_binOp) (And.intro (@AM.op_call) (And.intro (@AM.op_extract) (And.intro (@AM.op_index) (And.intro (@AM.op_len) (And.intro (@AM.op_unOp) (And.intro (AM.str_idx ul_9) (And.intro (AM.str_len ul_9) (And.intro (@AM.un_neg) (@AM.un_not))))))))))))))) := And.intro (@AM.bin_add) (And.intro (@AM.bin_eql) (And.intro (@AM.bin_geq) (And.intro (@AM.bin_lss) (And.intro (@AM.ex_tuple) (And.intro (@AM.op_binOp) (And.intro (@AM.op_call) (And.intro (@AM.op_extract) (And.intro (@AM.op_index) (And.intro (@AM.op_len) (And.intro (@AM.op_unOp) (And.intro (AM.str_idx ul_9) (And.intro (AM.str_len ul_9) (And.intro (@AM.un_neg) (@AM.un_not))))))))))))))


theorem u8_back (c : UInt8) : ((c.toNat : Int).toNat).toUInt8 = c := by simp
theorem idxBS_w (l : List UInt8) (c : UInt8) (h : AHeap) (Q : VQ) (hq : Q (.int .i64 (idxL l c)) h) : W 103 [strV l, .int .u8 c.toNat] h Q := by
  refine AM.callW_prim hp (p := pIdxB) (by unfold prims; rw [if_pos rfl]) ⟨0, ?_⟩ hq
  show some (Value.int .i64 (firstIdx ⟨l.toArray⟩ ((c.toNat : Int).toNat).toUInt8), h) = _
  rw [u8_back, AM.firstIdx_eq]
theorem idxSl_w (l : List UInt8) (c : UInt8) (h : AHeap) (Q : VQ) (hq : Q (.int .i64 (idxL l c)) h) : W 90 [strV l, .int .u8 c.toNat] h Q := by
  refine AM.enter hp (fn := Tryd.f90) (rs := [.tmp 4]) (nt := 8) (by kernel_rfl) Tryd.func90 rfl rfl rfl (by kernel_rfl) ?_
  simp (maxSteps := 1000000) (disch := first | omega | (simp only [AM.DB, List.length_set, List.length_map]; first | done | omega)) only [AM.RB, Nat.reduceAdd, Nat.reduceMul, Nat.reduceEqDiff, reduceCtorEq, b90_G2]
  refine idxBS_w l c _ _ ?_
  simp (maxSteps := 1000000) (disch := first | omega | (simp only [AM.DB, List.length_set, List.length_map]; first | done | omega)) only [AM.RB, Nat.reduceAdd, Nat.reduceMul, Nat.reduceEqDiff, reduceCtorEq, b90_G2]
  exact hq
theorem idx_w (l : List UInt8) (c : UInt8) (h : AHeap) (Q : VQ) (hq : Q (.int .i64 (idxL l c)) h) : W 78 [strV l, .int .u8 c.toNat] h Q := by
  refine AM.enter hp (fn := Tryd.f78) (rs := [.tmp 4]) (nt := 8) (by kernel_rfl) Tryd.func78 rfl rfl rfl (by kernel_rfl) ?_
  simp (maxSteps := 1000000) (disch := first | omega | (simp only [AM.DB, List.length_set, List.length_map]; first | done | omega)) only [AM.RB, Nat.reduceAdd, Nat.reduceMul, Nat.reduceEqDiff, reduceCtorEq, b78_G2]
  refine idxSl_w l c _ _ ?_
  simp (maxSteps := 1000000) (disch := first | omega | (simp only [AM.DB, List.length_set, List.length_map]; first | done | omega)) only [AM.RB, Nat.reduceAdd, Nat.reduceMul, Nat.reduceEqDiff, reduceCtorEq, b78_G2]
  exact hq
/-- Is a byte a cell's? -/
def cellB (c : UInt8) : Bool := c == 35 || c == 46 || c == 60 || c == 62 || c == 94 || c == 118
theorem cellB_all : ∀ n, n < 256 → (decide (0 ≤ idxL [35, 46, 60, 62, 94, 118] (UInt8.ofNat n))) = cellB (UInt8.ofNat n) := by decide +kernel
theorem cellB_idx (c : UInt8) : (decide (0 ≤ idxL [35, 46, 60, 62, 94, 118] c)) = cellB c := by
  have := cellB_all c.toNat (UInt8.toNat_lt c)
  rwa [UInt8.ofNat_toNat] at this
theorem known_w (c : UInt8) (h : AHeap) (Q : VQ) (hq : Q (.bool (cellB c)) h) : W 81 [.int .u8 c.toNat] h Q := by
  refine AM.enter hp (fn := Tryd.f81) (rs := [.tmp 2]) (nt := 6) (by kernel_rfl) Tryd.func81 rfl rfl rfl (by kernel_rfl) ?_
  simp (maxSteps := 1000000) (disch := first | omega | (simp only [AM.DB, List.length_set, List.length_map]; first | done | omega)) only [AM.RB, Nat.reduceAdd, Nat.reduceMul, Nat.reduceEqDiff, reduceCtorEq, b81_G2]
  refine idx_w [35, 46, 60, 62, 94, 118] c _ _ ?_
  simp (maxSteps := 1000000) (disch := first | omega | (simp only [AM.DB, List.length_set, List.length_map]; first | done | omega)) only [AM.RB, Nat.reduceAdd, Nat.reduceMul, Nat.reduceEqDiff, reduceCtorEq, b81_G2]
  rw [cellB_idx]; exact hq

def sufB (l m : List UInt8) : Bool := decide (m.length ≤ l.length) && decide (l.drop (l.length - m.length) = m)
theorem hasSuf_w (l m : List UInt8) (hl : l.length ≤ 9223372036854775807) (h : AHeap) (Q : VQ) (hq : Q (.bool (sufB l m)) h) : W 91 [strV l, strV m] h Q := by
  refine AM.enter hp (fn := Tryd.f91) (rs := [.tmp 4]) (nt := 21) (by kernel_rfl) Tryd.func91 rfl rfl rfl (by kernel_rfl) ?_
  by_cases hm : (m.length : Int) ≤ l.length
  · have tn : ((l.length : Int) - (m.length : Int)).toNat = l.length - m.length := by omega
    have tk : (l.drop (l.length - m.length)).take (l.length - (l.length - m.length)) = l.drop (l.length - m.length) := List.take_of_length_le (by simp)
    unfold sufB at hq
    rw [decide_eq_true (show m.length ≤ l.length by omega), Bool.true_and] at hq
    (first | (simp (maxSteps := 1000000) (disch := first | omega | (simp only [AM.DB, List.length_set, List.length_map]; first | done | omega)) only [AM.RB, Nat.reduceAdd, Nat.reduceMul, Nat.reduceEqDiff, reduceCtorEq, b91_G2, decide_eq_true hm, AM.wrap_i64, tn, tk]) | skip); (repeat' (first | ((first | refine AM.guard_spl ?_ ?_ | refine AM.cond_spl ?_ ?_ | refine AM.guard_b ?_ ?_ | refine AM.cond_b ?_ ?_) <;> (intro hd hp_; simp (maxSteps := 1000000) (disch := first | omega | (simp only [AM.DB, List.length_set, List.length_map]; first | done | omega)) only [AM.RB, Nat.reduceAdd, Nat.reduceMul, Nat.reduceEqDiff, reduceCtorEq, b91_G2, hd, decide_eq_true hm, AM.wrap_i64, tn, tk])) | ((first | refine AM.drawW_fine hp (by kernel_rfl) (by kernel_rfl) (by kernel_rfl) ?_ | refine AM.opW_tied (by kernel_rfl) ?_ | refine AM.opW_untied (by kernel_rfl) ?_ | refine AM.build_w ?_); simp (maxSteps := 1000000) (disch := first | omega | (simp only [AM.DB, List.length_set, List.length_map]; first | done | omega)) only [AM.RB, Nat.reduceAdd, Nat.reduceMul, Nat.reduceEqDiff, reduceCtorEq, b91_G2, decide_eq_true hm, AM.wrap_i64, tn, tk])))
    exact hq
  · have : sufB l m = false := by unfold sufB; rw [decide_eq_false (by omega)]; rfl
    rw [this] at hq
    (first | (simp (maxSteps := 1000000) (disch := first | omega | (simp only [AM.DB, List.length_set, List.length_map]; first | done | omega)) only [AM.RB, Nat.reduceAdd, Nat.reduceMul, Nat.reduceEqDiff, reduceCtorEq, b91_G2, decide_eq_false hm]) | skip); (repeat' (first | ((first | refine AM.guard_spl ?_ ?_ | refine AM.cond_spl ?_ ?_ | refine AM.guard_b ?_ ?_ | refine AM.cond_b ?_ ?_) <;> (intro hd hp_; simp (maxSteps := 1000000) (disch := first | omega | (simp only [AM.DB, List.length_set, List.length_map]; first | done | omega)) only [AM.RB, Nat.reduceAdd, Nat.reduceMul, Nat.reduceEqDiff, reduceCtorEq, b91_G2, hd, decide_eq_false hm])) | ((first | refine AM.drawW_fine hp (by kernel_rfl) (by kernel_rfl) (by kernel_rfl) ?_ | refine AM.opW_tied (by kernel_rfl) ?_ | refine AM.opW_untied (by kernel_rfl) ?_ | refine AM.build_w ?_); simp (maxSteps := 1000000) (disch := first | omega | (simp only [AM.DB, List.length_set, List.length_map]; first | done | omega)) only [AM.RB, Nat.reduceAdd, Nat.reduceMul, Nat.reduceEqDiff, reduceCtorEq, b91_G2, decide_eq_false hm])))
    exact hq
theorem trimSl_w (l m : List UInt8) (hl : l.length ≤ 9223372036854775807) (h : AHeap) (Q : VQ) (hq : Q (strV (if sufB l m = true then l.take (l.length - m.length) else l)) h) : W 79 [strV l, strV m] h Q := by
  refine AM.enter hp (fn := Tryd.f79) (rs := [.tmp 4]) (nt := 16) (by kernel_rfl) Tryd.func79 rfl rfl rfl (by kernel_rfl) ?_
  simp (maxSteps := 1000000) (disch := first | omega | (simp only [AM.DB, List.length_set, List.length_map]; first | done | omega)) only [AM.RB, Nat.reduceAdd, Nat.reduceMul, Nat.reduceEqDiff, reduceCtorEq, b79_G2]
  refine hasSuf_w l m hl _ _ ?_
  simp (maxSteps := 1000000) (disch := first | omega | (simp only [AM.DB, List.length_set, List.length_map]; first | done | omega)) only [AM.RB, Nat.reduceAdd, Nat.reduceMul, Nat.reduceEqDiff, reduceCtorEq, b79_G2]
  refine AM.condV_bool (fun hb => ?_) (fun hb => ?_)
  · have hm : m.length ≤ l.length := by
      unfold sufB at hb; simp only [Bool.and_eq_true, decide_eq_true_eq] at hb; exact hb.1
    have tn : ((l.length : Int) - (m.length : Int)).toNat = l.length - m.length := by omega
    rw [if_pos hb] at hq
    simp (maxSteps := 1000000) (disch := first | omega | (simp only [AM.DB, List.length_set, List.length_map]; first | done | omega)) only [AM.RB, Nat.reduceAdd, Nat.reduceMul, Nat.reduceEqDiff, reduceCtorEq, b79_G2, AM.wrap_i64, tn, Nat.sub_zero]
    exact hq
  · rw [if_neg (by rw [hb]; simp)] at hq
    simp (maxSteps := 1000000) (disch := first | omega | (simp only [AM.DB, List.length_set, List.length_map]; first | done | omega)) only [AM.RB, Nat.reduceAdd, Nat.reduceMul, Nat.reduceEqDiff, reduceCtorEq, b79_G2]
    exact hq
theorem trim_w (l m : List UInt8) (hl : l.length ≤ 9223372036854775807) (h : AHeap) (Q : VQ) (hq : Q (strV (if sufB l m = true then l.take (l.length - m.length) else l)) h) : W 52 [strV l, strV m] h Q := by
  refine AM.enter hp (fn := Tryd.f52) (rs := [.tmp 4]) (nt := 8) (by kernel_rfl) Tryd.func52 rfl rfl rfl (by kernel_rfl) ?_
  simp (maxSteps := 1000000) (disch := first | omega | (simp only [AM.DB, List.length_set, List.length_map]; first | done | omega)) only [AM.RB, Nat.reduceAdd, Nat.reduceMul, Nat.reduceEqDiff, reduceCtorEq, b52_G2]
  refine trimSl_w l m hl _ _ ?_
  simp (maxSteps := 1000000) (disch := first | omega | (simp only [AM.DB, List.length_set, List.length_map]; first | done | omega)) only [AM.RB, Nat.reduceAdd, Nat.reduceMul, Nat.reduceEqDiff, reduceCtorEq, b52_G2]
  exact hq
theorem cutSl_w (l m : List UInt8) (hl : l.length ≤ 9223372036854775807) (h : AHeap) (Q : VQ) (hq : Q (.tuple #[strV (if sufB l m = true then l.take (l.length - m.length) else l), .bool (sufB l m)]) h) : W 92 [strV l, strV m] h Q := by
  refine AM.enter hp (fn := Tryd.f92) (rs := [.tmp 4, .tmp 5]) (nt := 18) (by kernel_rfl) Tryd.func92 rfl rfl rfl (by kernel_rfl) ?_
  simp (maxSteps := 1000000) (disch := first | omega | (simp only [AM.DB, List.length_set, List.length_map]; first | done | omega)) only [AM.RB, Nat.reduceAdd, Nat.reduceMul, Nat.reduceEqDiff, reduceCtorEq, b92_G2]
  refine hasSuf_w l m hl _ _ ?_
  simp (maxSteps := 1000000) (disch := first | omega | (simp only [AM.DB, List.length_set, List.length_map]; first | done | omega)) only [AM.RB, Nat.reduceAdd, Nat.reduceMul, Nat.reduceEqDiff, reduceCtorEq, b92_G2]
  refine AM.condV_bool (fun hb => ?_) (fun hb => ?_)
  · have hm : m.length ≤ l.length := by
      unfold sufB at hb; simp only [Bool.and_eq_true, decide_eq_true_eq] at hb; exact hb.1
    have tn : ((l.length : Int) - (m.length : Int)).toNat = l.length - m.length := by omega
    rw [if_pos hb, hb] at hq
    simp (maxSteps := 1000000) (disch := first | omega | (simp only [AM.DB, List.length_set, List.length_map]; first | done | omega)) only [AM.RB, Nat.reduceAdd, Nat.reduceMul, Nat.reduceEqDiff, reduceCtorEq, b92_G2, AM.wrap_i64, tn, Nat.sub_zero]
    exact hq
  · rw [if_neg (by rw [hb]; simp), hb] at hq
    simp (maxSteps := 1000000) (disch := first | omega | (simp only [AM.DB, List.length_set, List.length_map]; first | done | omega)) only [AM.RB, Nat.reduceAdd, Nat.reduceMul, Nat.reduceEqDiff, reduceCtorEq, b92_G2]
    exact hq
theorem cut_w (l m : List UInt8) (hl : l.length ≤ 9223372036854775807) (h : AHeap) (Q : VQ) (hq : Q (.tuple #[strV (if sufB l m = true then l.take (l.length - m.length) else l), .bool (sufB l m)]) h) : W 80 [strV l, strV m] h Q := by
  refine AM.enter hp (fn := Tryd.f80) (rs := [.tmp 4, .tmp 5]) (nt := 11) (by kernel_rfl) Tryd.func80 rfl rfl rfl (by kernel_rfl) ?_
  simp (maxSteps := 1000000) (disch := first | omega | (simp only [AM.DB, List.length_set, List.length_map]; first | done | omega)) only [AM.RB, Nat.reduceAdd, Nat.reduceMul, Nat.reduceEqDiff, reduceCtorEq, b80_G2]
  refine cutSl_w l m hl _ _ ?_
  simp (maxSteps := 1000000) (disch := first | omega | (simp only [AM.DB, List.length_set, List.length_map]; first | done | omega)) only [AM.RB, Nat.reduceAdd, Nat.reduceMul, Nat.reduceEqDiff, reduceCtorEq, b80_G2]
  exact hq

/-! ### A row -/
/-- A line: what stands ahead of its end, whether it has one. -/
def lineT (l : List UInt8) : List UInt8 := if sufB l [10] = true then l.take (l.length - 1) else l
def rowP (t : List UInt8) (cols : Int) : Nat → Nat → Option Nat
  | 0, _ => none
  | k + 1, i => if cellB (t.getD i 0) = false ∨ cols ≤ i then some (i + 1) else rowP t cols k (i + 1)
/-- Where a line goes wrong. -/
def rowE (l : List UInt8) (cols : Int) : Int :=
  match rowP (lineT l) cols (lineT l).length 0 with
  | some i => i
  | none => if sufB l [10] = false ∨ (lineT l).length < cols ∨ (lineT l).length = 0 then (lineT l).length + 1 else 0
theorem row_w (l : List UInt8) (cols : Int) (hcl : 0 ≤ cols ∧ cols ≤ 32) (hl : l.length ≤ 9223372036854775807) (h : AHeap) (Q : VQ) (hq : Q (.int .i64 (rowE l cols)) h) : W 53 [strV l, .int .i64 cols] h Q := by
  have hlt : (lineT l).length ≤ l.length := by unfold lineT; split <;> simp
  refine AM.enter hp (fn := Tryd.f53) (rs := [.tmp 4]) (nt := 47) (by kernel_rfl) Tryd.func53 rfl rfl rfl (by kernel_rfl) ?_
  simp (maxSteps := 1000000) (disch := first | omega | (simp only [AM.DB, List.length_set, List.length_map]; first | done | omega)) only [AM.RB, Nat.reduceAdd, Nat.reduceMul, Nat.reduceEqDiff, reduceCtorEq, b53_G2]
  refine cut_w l [10] hl _ _ ?_
  have e : (if sufB l [10] = true then l.take (l.length - [(10 : UInt8)].length) else l) = lineT l := rfl
  rw [e]
  generalize hT : lineT l = t at *
  generalize hS : sufB l [10] = sb at *
  simp (maxSteps := 1000000) (disch := first | omega | (simp only [AM.DB, List.length_set, List.length_map]; first | done | omega)) only [AM.RB, Nat.reduceAdd, Nat.reduceMul, Nat.reduceEqDiff, reduceCtorEq, b53_G2]
  refine AM.loop_w hp 47 (fun i : Nat => [(1, .int .i64 cols), (5, strV t), (6, .bool sb), (14, .int .i64 t.length), (15, .int .i64 i)])
    (fun i h' => i ≤ t.length ∧ (i : Int) ≤ cols ∧ h' = h ∧ rowP t cols (t.length - i) i = rowP t cols t.length 0) (fun i => t.length - i) (by kernel_rfl) 0 ?_ ?_ ?_
  · simp (maxSteps := 1000000) (disch := first | omega | (simp only [AM.DB, List.length_set, List.length_map]; first | done | omega)) only [AM.RB, Nat.reduceAdd, Nat.reduceMul, Nat.reduceEqDiff, reduceCtorEq, b53_G2]
  · exact ⟨Nat.zero_le _, by omega, rfl, rfl⟩
  rintro i h1 ρ ⟨hi, hic, rfl, hpf⟩
  simp (maxSteps := 1000000) (disch := first | omega | (simp only [AM.DB, List.length_set, List.length_map]; first | done | omega)) only [AM.RB, Nat.reduceAdd, Nat.reduceMul, Nat.reduceEqDiff, reduceCtorEq, b53_G2]
  refine AM.condV_split (fun hlt => ?_) (fun hlt => ?_)
  · obtain ⟨k, hk⟩ : ∃ k, t.length - i = k + 1 := ⟨t.length - i - 1, by omega⟩
    rw [hk, rowP] at hpf
    simp (maxSteps := 1000000) (disch := first | omega | (simp only [AM.DB, List.length_set, List.length_map]; first | done | omega)) only [AM.RB, Nat.reduceAdd, Nat.reduceMul, Nat.reduceEqDiff, reduceCtorEq, b53_G2, Int.toNat_natCast]
    refine known_w _ _ _ ?_
    (first | (simp (maxSteps := 1000000) (disch := first | omega | (simp only [AM.DB, List.length_set, List.length_map]; first | done | omega)) only [AM.RB, Nat.reduceAdd, Nat.reduceMul, Nat.reduceEqDiff, reduceCtorEq, b53_G2, AM.wrap_i64]) | skip); (repeat' (first | ((first | refine AM.guard_spl ?_ ?_ | refine AM.cond_spl ?_ ?_ | refine AM.guard_b ?_ ?_ | refine AM.cond_b ?_ ?_) <;> (intro hd hp_; simp (maxSteps := 1000000) (disch := first | omega | (simp only [AM.DB, List.length_set, List.length_map]; first | done | omega)) only [AM.RB, Nat.reduceAdd, Nat.reduceMul, Nat.reduceEqDiff, reduceCtorEq, b53_G2, hd, AM.wrap_i64])) | ((first | refine AM.drawW_fine hp (by kernel_rfl) (by kernel_rfl) (by kernel_rfl) ?_ | refine AM.opW_tied (by kernel_rfl) ?_ | refine AM.opW_untied (by kernel_rfl) ?_ | refine AM.build_w ?_); simp (maxSteps := 1000000) (disch := first | omega | (simp only [AM.DB, List.length_set, List.length_map]; first | done | omega)) only [AM.RB, Nat.reduceAdd, Nat.reduceMul, Nat.reduceEqDiff, reduceCtorEq, b53_G2, AM.wrap_i64])))
    · have er : rowE l cols = (i : Int) + 1 := by unfold rowE; rw [hT, ← hpf, if_pos (.inr hp_)]; rfl
      rw [er] at hq; exact hq
    · refine ⟨i + 1, by omega, rfl, by omega, by omega, ?_⟩
      rw [show t.length - (i + 1) = k by omega, ← hpf, if_neg]
      rintro (q | q)
      · simp_all
      · omega
    · have er : rowE l cols = (i : Int) + 1 := by unfold rowE; rw [hT, ← hpf, if_pos (.inl hp_)]; rfl
      rw [er] at hq; exact hq
  · obtain rfl : i = t.length := by omega
    rw [Nat.sub_self, rowP] at hpf
    have er : rowE l cols = if sb = false ∨ t.length < cols ∨ t.length = 0 then (t.length : Int) + 1 else 0 := by
      unfold rowE; rw [hT, ← hpf, hS]
    rw [er] at hq
    cases sb with
    | false =>
      rw [if_pos (.inl rfl)] at hq
      (first | (simp (maxSteps := 1000000) (disch := first | omega | (simp only [AM.DB, List.length_set, List.length_map]; first | done | omega)) only [AM.RB, Nat.reduceAdd, Nat.reduceMul, Nat.reduceEqDiff, reduceCtorEq, b53_G2, AM.wrap_i64]) | skip); (repeat' (first | ((first | refine AM.guard_spl ?_ ?_ | refine AM.cond_spl ?_ ?_ | refine AM.guard_b ?_ ?_ | refine AM.cond_b ?_ ?_) <;> (intro hd hp_; simp (maxSteps := 1000000) (disch := first | omega | (simp only [AM.DB, List.length_set, List.length_map]; first | done | omega)) only [AM.RB, Nat.reduceAdd, Nat.reduceMul, Nat.reduceEqDiff, reduceCtorEq, b53_G2, hd, AM.wrap_i64])) | ((first | refine AM.drawW_fine hp (by kernel_rfl) (by kernel_rfl) (by kernel_rfl) ?_ | refine AM.opW_tied (by kernel_rfl) ?_ | refine AM.opW_untied (by kernel_rfl) ?_ | refine AM.build_w ?_); simp (maxSteps := 1000000) (disch := first | omega | (simp only [AM.DB, List.length_set, List.length_map]; first | done | omega)) only [AM.RB, Nat.reduceAdd, Nat.reduceMul, Nat.reduceEqDiff, reduceCtorEq, b53_G2, AM.wrap_i64])))
      exact hq
    | true =>
      by_cases hc : (t.length : Int) < cols
      · rw [if_pos (.inr (.inl hc))] at hq
        (first | (simp (maxSteps := 1000000) (disch := first | omega | (simp only [AM.DB, List.length_set, List.length_map]; first | done | omega)) only [AM.RB, Nat.reduceAdd, Nat.reduceMul, Nat.reduceEqDiff, reduceCtorEq, b53_G2, AM.wrap_i64, decide_eq_true hc]) | skip); (repeat' (first | ((first | refine AM.guard_spl ?_ ?_ | refine AM.cond_spl ?_ ?_ | refine AM.guard_b ?_ ?_ | refine AM.cond_b ?_ ?_) <;> (intro hd hp_; simp (maxSteps := 1000000) (disch := first | omega | (simp only [AM.DB, List.length_set, List.length_map]; first | done | omega)) only [AM.RB, Nat.reduceAdd, Nat.reduceMul, Nat.reduceEqDiff, reduceCtorEq, b53_G2, hd, AM.wrap_i64, decide_eq_true hc])) | ((first | refine AM.drawW_fine hp (by kernel_rfl) (by kernel_rfl) (by kernel_rfl) ?_ | refine AM.opW_tied (by kernel_rfl) ?_ | refine AM.opW_untied (by kernel_rfl) ?_ | refine AM.build_w ?_); simp (maxSteps := 1000000) (disch := first | omega | (simp only [AM.DB, List.length_set, List.length_map]; first | done | omega)) only [AM.RB, Nat.reduceAdd, Nat.reduceMul, Nat.reduceEqDiff, reduceCtorEq, b53_G2, AM.wrap_i64, decide_eq_true hc])))
        exact hq
      · by_cases h0 : (t.length : Int) = 0
        · rw [if_pos (.inr (.inr (by omega)))] at hq
          (first | (simp (maxSteps := 1000000) (disch := first | omega | (simp only [AM.DB, List.length_set, List.length_map]; first | done | omega)) only [AM.RB, Nat.reduceAdd, Nat.reduceMul, Nat.reduceEqDiff, reduceCtorEq, b53_G2, AM.wrap_i64, decide_eq_false hc, decide_eq_true h0]) | skip); (repeat' (first | ((first | refine AM.guard_spl ?_ ?_ | refine AM.cond_spl ?_ ?_ | refine AM.guard_b ?_ ?_ | refine AM.cond_b ?_ ?_) <;> (intro hd hp_; simp (maxSteps := 1000000) (disch := first | omega | (simp only [AM.DB, List.length_set, List.length_map]; first | done | omega)) only [AM.RB, Nat.reduceAdd, Nat.reduceMul, Nat.reduceEqDiff, reduceCtorEq, b53_G2, hd, AM.wrap_i64, decide_eq_false hc, decide_eq_true h0])) | ((first | refine AM.drawW_fine hp (by kernel_rfl) (by kernel_rfl) (by kernel_rfl) ?_ | refine AM.opW_tied (by kernel_rfl) ?_ | refine AM.opW_untied (by kernel_rfl) ?_ | refine AM.build_w ?_); simp (maxSteps := 1000000) (disch := first | omega | (simp only [AM.DB, List.length_set, List.length_map]; first | done | omega)) only [AM.RB, Nat.reduceAdd, Nat.reduceMul, Nat.reduceEqDiff, reduceCtorEq, b53_G2, AM.wrap_i64, decide_eq_false hc, decide_eq_true h0])))
          exact hq
        · rw [if_neg (fun q => q.elim (fun q => by cases q) (fun q => q.elim hc (fun q => h0 (by omega))))] at hq
          (first | (simp (maxSteps := 1000000) (disch := first | omega | (simp only [AM.DB, List.length_set, List.length_map]; first | done | omega)) only [AM.RB, Nat.reduceAdd, Nat.reduceMul, Nat.reduceEqDiff, reduceCtorEq, b53_G2, AM.wrap_i64, decide_eq_false hc, decide_eq_false h0]) | skip); (repeat' (first | ((first | refine AM.guard_spl ?_ ?_ | refine AM.cond_spl ?_ ?_ | refine AM.guard_b ?_ ?_ | refine AM.cond_b ?_ ?_) <;> (intro hd hp_; simp (maxSteps := 1000000) (disch := first | omega | (simp only [AM.DB, List.length_set, List.length_map]; first | done | omega)) only [AM.RB, Nat.reduceAdd, Nat.reduceMul, Nat.reduceEqDiff, reduceCtorEq, b53_G2, hd, AM.wrap_i64, decide_eq_false hc, decide_eq_false h0])) | ((first | refine AM.drawW_fine hp (by kernel_rfl) (by kernel_rfl) (by kernel_rfl) ?_ | refine AM.opW_tied (by kernel_rfl) ?_ | refine AM.opW_untied (by kernel_rfl) ?_ | refine AM.build_w ?_); simp (maxSteps := 1000000) (disch := first | omega | (simp only [AM.DB, List.length_set, List.length_map]; first | done | omega)) only [AM.RB, Nat.reduceAdd, Nat.reduceMul, Nat.reduceEqDiff, reduceCtorEq, b53_G2, AM.wrap_i64, decide_eq_false hc, decide_eq_false h0])))
          exact hq

end Go.Proofs.YtgdcbjpookldoaaDoor

namespace Go.Proofs.YtgdcbjpookldoaaDoor
open Go.AM
set_option maxRecDepth 8000
theorem b77_G3 : type_of% (And.intro (@AM.bin_add) (And.intro (@AM.bin_geq) (And.intro (@AM.bin_gtr) (And.intro (@AM.ldO_agg) (And.intro (@AM.ldO_one) (And.intro (@AM.ld_ptr) (And.intro (@lk_9) (And.intro (@AM.op_binOp) (And.intro (@AM.op_call) (And.intro (@AM.op_len) (And.intro (@AM.op_load) (And.intro (@AM.op_slice) (And.intro (@AM.op_store) (And.intro (@AM.op_unOp) (And.intro (@AM.slbs_hi_i) (And.intro (@AM.slbs_lh_i) (And.intro (@AM.slbs_lo_i) (And.intro (@AM.stO_agg) (And.intro (@AM.stO_bool) (And.intro (@AM.stO_int) (And.intro (@AM.stO_map) (And.intro (@AM.stO_pointer) (And.intro (@AM.stO_slice) (And.intro (@AM.stO_string) (And.intro (@AM.st_ptr) (And.intro (AM.str_cut ul_9) (And.intro (AM.str_len ul_9) (And.intro (@sz_9) (And.intro (@AM.un_neg) (@AM.un_not)))))))))))))))))))))))))))))) := And.intro (@AM.bin_add) (And.intro (@AM.bin_geq) (And.intro (@AM.bin_gtr) (And.intro (@AM.ldO_agg) (And.intro (@AM.ldO_one) (And.intro (@AM.ld_ptr) (And.intro (@lk_9) (And.intro (@AM.op_binOp) (And.intro (@AM.op_call) (And.intro (@AM.op_len) (And.intro (@AM.op_load) (And.intro (@AM.op_slice) (And.intro (@AM.op_store) (And.intro (@AM.op_unOp) (And.intro (@AM.slbs_hi_i) (And.intro (@AM.slbs_lh_i) (And.intro (@AM.slbs_lo_i) (And.intro (@AM.stO_agg) (And.intro (@AM.stO_bool) (And.intro (@AM.stO_int) (And.intro (@AM.stO_map) (And.intro (@AM.stO_pointer) (And.intro (@AM.stO_slice) (And.intro (@AM.stO_string) (And.intro (@AM.st_ptr) (And.intro (AM.str_cut ul_9) (And.intro (AM.str_len ul_9) (And.intro (@sz_9) (And.intro (@AM.un_neg) (@AM.un_not)))))))))))))))))))))))))))))


/-! ### Lines -/
def linesL : Nat → List UInt8 → List (List UInt8)
  | 0, _ => []
  | n + 1, l => if l = [] then [] else match l.findIdx? (· == 10) with
    | some i => l.take (i + 1) :: linesL n (l.drop (i + 1))
    | none => [l]
theorem linesL_eq : ∀ (n m : Nat) (l : List UInt8), l.length ≤ n → l.length ≤ m → linesL n l = linesL m l
  | n, m, [], _, _ => by
    cases n <;> cases m <;> simp [linesL]
  | 0, _, x :: r, h, _ => by simp at h
  | _, 0, x :: r, _, h => by simp at h
  | n + 1, m + 1, x :: r, hn, hm => by
    rw [linesL, linesL, if_neg (by simp), if_neg (by simp)]
    cases hf : (x :: r).findIdx? (· == 10) with
    | none => rfl
    | some i =>
      simp only
      congr 1
      have h1 : ((x :: r).drop (i + 1)).length ≤ r.length := by simp
      simp only [List.length_cons] at hn hm
      exact linesL_eq n m _ (by omega) (by omega)
theorem lines1_w {w1 : Nat} {l : List UInt8} {h : AHeap} (g1 : h.get w1 = some (.cells [strV l] 9 false)) (hl : l.length ≤ 9223372036854775807) (hlow : h.low ≤ w1) :
    IterOkW Tryd.prog prims (.func (.func 77) #[] #[.pointer (some ⟨w1, 0, none⟩)]) (fun _ => False) (fun id => id = w1) ((linesL l.length l).map fun x => [strV x]) h := by
  intro y J E h0 hnx hR hlow0 hJ hE hy hJ0
  have g1' : h0.get w1 = some (.cells [strV l] 9 false) := by rw [hR w1 (AM.get_some_lt g1) (.inr rfl)]; exact g1
  refine AM.enter hp (fn := Tryd.f77) (rs := []) (nt := 25) (by kernel_rfl) Tryd.func77 rfl rfl rfl (by kernel_rfl) ?_
  simp (maxSteps := 1000000) (disch := first | omega | (simp only [AM.DB, List.length_set, List.length_map]; first | done | omega)) only [AM.RB, Nat.reduceAdd, Nat.reduceMul, Nat.reduceEqDiff, reduceCtorEq, b77_G3]
  refine AM.loop_w hp 25 (fun q : Nat × List UInt8 => [(0, y), (1, .pointer (some ⟨w1, 0, none⟩))])
    (fun q h' => h'.get w1 = some (.cells [strV q.2] 9 false) ∧ q.2.length ≤ l.length ∧ h0.next ≤ h'.next ∧ h'.low = h0.low ∧ J q.1 (fun id => id = w1) h' ∧ (linesL l.length l).drop q.1 = linesL q.2.length q.2 ∧ q.1 ≤ (linesL l.length l).length)
    (fun q => q.2.length) (by kernel_rfl) (0, l) ?_ ?_ ?_
  · simp (maxSteps := 1000000) (disch := first | omega | (simp only [AM.DB, List.length_set, List.length_map]; first | done | omega)) only [AM.RB, Nat.reduceAdd, Nat.reduceMul, Nat.reduceEqDiff, reduceCtorEq, b77_G3]
  · exact ⟨g1', Nat.le_refl _, Nat.le_refl _, rfl, hJ0, rfl, Nat.zero_le _⟩
  rintro ⟨i, r⟩ h1 ρ ⟨g2, hrl, hn1, hlo1, hJi, hdrop, hil⟩
  simp only at g2 hrl hJi hdrop hil ⊢
  have lt1 := AM.get_some_lt g2
  have lt0 := AM.get_some_lt g1'
  have hlw : h1.low ≤ w1 := by omega
  simp (maxSteps := 1000000) (disch := first | omega | (simp only [AM.DB, List.length_set, List.length_map]; first | done | omega)) only [AM.RB, Nat.reduceAdd, Nat.reduceMul, Nat.reduceEqDiff, reduceCtorEq, b77_G3, g2]
  refine AM.condV_split (fun hlt => ?_) (fun hlt => ?_)
  · obtain ⟨k, hk⟩ : ∃ k, r.length = k + 1 := ⟨r.length - 1, by omega⟩
    have hr0 : r ≠ [] := by intro e; rw [e] at hk; simp at hk
    rw [hk, linesL, if_neg hr0] at hdrop
    simp (maxSteps := 1000000) (disch := first | omega | (simp only [AM.DB, List.length_set, List.length_map]; first | done | omega)) only [AM.RB, Nat.reduceAdd, Nat.reduceMul, Nat.reduceEqDiff, reduceCtorEq, b77_G3, g2]
    refine idx_w r 10 _ _ ?_
    cases hf : r.findIdx? (· == 10) with
    | some j =>
      rw [hf] at hdrop
      have hj : j < r.length := (List.findIdx?_eq_some_iff_getElem.1 hf).1
      have hix : idxL r 10 = j := by unfold idxL; rw [hf]
      have tj : ((j : Int) + 1).toNat = j + 1 := by omega
      rw [hix]
      have hd0 := decide_eq_true (show (0 : Int) ≤ (j : Int) by omega)
      have tk : (r.drop (j + 1)).take (r.length - (j + 1)) = r.drop (j + 1) := List.take_of_length_le (by simp)
      simp only at hdrop
      (first | (simp (maxSteps := 1000000) (disch := first | omega | (simp only [AM.DB, List.length_set, List.length_map]; first | done | omega)) only [AM.RB, Nat.reduceAdd, Nat.reduceMul, Nat.reduceEqDiff, reduceCtorEq, b77_G3, g2, AM.wrap_i64, tj, hd0, tk, Nat.sub_zero]) | skip); (repeat' (first | ((first | refine AM.guard_spl ?_ ?_ | refine AM.cond_spl ?_ ?_ | refine AM.guard_b ?_ ?_ | refine AM.cond_b ?_ ?_) <;> (intro hd hp_; simp (maxSteps := 1000000) (disch := first | omega | (simp only [AM.DB, List.length_set, List.length_map]; first | done | omega)) only [AM.RB, Nat.reduceAdd, Nat.reduceMul, Nat.reduceEqDiff, reduceCtorEq, b77_G3, hd, g2, AM.wrap_i64, tj, hd0, tk, Nat.sub_zero])) | ((first | refine AM.drawW_fine hp (by kernel_rfl) (by kernel_rfl) (by kernel_rfl) ?_ | refine AM.opW_tied (by kernel_rfl) ?_ | refine AM.opW_untied (by kernel_rfl) ?_ | refine AM.build_w ?_); simp (maxSteps := 1000000) (disch := first | omega | (simp only [AM.DB, List.length_set, List.length_map]; first | done | omega)) only [AM.RB, Nat.reduceAdd, Nat.reduceMul, Nat.reduceEqDiff, reduceCtorEq, b77_G3, g2, AM.wrap_i64, tj, hd0, tk, Nat.sub_zero])))
      generalize hE_ : AHeap.put h1 _ _ = h2; obtain ⟨gg2, fr2, n2, l2⟩ := AM.put_get hE_ (by omega); clear hE_
      have hJ2 := hJ i _ (fun id => id = w1) _ _ hJi fr2 (fun _ q => q) (fun _ q => .inl q)
      have hget : (linesL l.length l)[i]? = some (r.take (j + 1)) := by
        have := congrArg (fun l => l[0]?) hdrop
        simpa using this
      refine AM.CallW.mono (hy i [strV (r.take (j + 1))] (fun id => id = w1) h2 (by rw [List.getElem?_map, hget]; rfl) hJ2 (fun id q => ⟨.inl q, by omega⟩) (by omega) (by omega) (fun _ q => q.elim)) ?_
      rintro v h3 ⟨b, rfl, q1, q2, q3, q4⟩
      have g3 : h3.get w1 = some (.cells [strV (r.drop (j + 1))] 9 false) := by rw [q3 w1 (by omega) (.inl rfl)]; exact gg2
      cases b with
      | true =>
        (first | (simp (maxSteps := 1000000) (disch := first | omega | (simp only [AM.DB, List.length_set, List.length_map]; first | done | omega)) only [AM.RB, Nat.reduceAdd, Nat.reduceMul, Nat.reduceEqDiff, reduceCtorEq, b77_G3]) | skip); (repeat' (first | ((first | refine AM.guard_spl ?_ ?_ | refine AM.cond_spl ?_ ?_ | refine AM.guard_b ?_ ?_ | refine AM.cond_b ?_ ?_) <;> (intro hd hp_; simp (maxSteps := 1000000) (disch := first | omega | (simp only [AM.DB, List.length_set, List.length_map]; first | done | omega)) only [AM.RB, Nat.reduceAdd, Nat.reduceMul, Nat.reduceEqDiff, reduceCtorEq, b77_G3, hd])) | ((first | refine AM.drawW_fine hp (by kernel_rfl) (by kernel_rfl) (by kernel_rfl) ?_ | refine AM.opW_tied (by kernel_rfl) ?_ | refine AM.opW_untied (by kernel_rfl) ?_ | refine AM.build_w ?_); simp (maxSteps := 1000000) (disch := first | omega | (simp only [AM.DB, List.length_set, List.length_map]; first | done | omega)) only [AM.RB, Nat.reduceAdd, Nat.reduceMul, Nat.reduceEqDiff, reduceCtorEq, b77_G3])))
        refine ⟨(i + 1, (r.drop (j + 1))), by simp only [List.length_drop, List.length_nil]; omega, g3, by simp only [List.length_drop, List.length_nil]; omega, by omega, by omega, by simpa using q4, ?_, ?_⟩
        · simp only
          rw [← List.drop_drop, hdrop]
          simp only [List.drop_succ_cons, List.drop_zero]
          have hlen : (r.drop (j + 1)).length ≤ k := by simp; omega
          exact linesL_eq _ _ _ hlen (Nat.le_refl _)
        · have := (List.getElem?_eq_some_iff.1 hget).1
          simp only; omega
      | false =>
        (first | (simp (maxSteps := 1000000) (disch := first | omega | (simp only [AM.DB, List.length_set, List.length_map]; first | done | omega)) only [AM.RB, Nat.reduceAdd, Nat.reduceMul, Nat.reduceEqDiff, reduceCtorEq, b77_G3]) | skip); (repeat' (first | ((first | refine AM.guard_spl ?_ ?_ | refine AM.cond_spl ?_ ?_ | refine AM.guard_b ?_ ?_ | refine AM.cond_b ?_ ?_) <;> (intro hd hp_; simp (maxSteps := 1000000) (disch := first | omega | (simp only [AM.DB, List.length_set, List.length_map]; first | done | omega)) only [AM.RB, Nat.reduceAdd, Nat.reduceMul, Nat.reduceEqDiff, reduceCtorEq, b77_G3, hd])) | ((first | refine AM.drawW_fine hp (by kernel_rfl) (by kernel_rfl) (by kernel_rfl) ?_ | refine AM.opW_tied (by kernel_rfl) ?_ | refine AM.opW_untied (by kernel_rfl) ?_ | refine AM.build_w ?_); simp (maxSteps := 1000000) (disch := first | omega | (simp only [AM.DB, List.length_set, List.length_map]; first | done | omega)) only [AM.RB, Nat.reduceAdd, Nat.reduceMul, Nat.reduceEqDiff, reduceCtorEq, b77_G3])))
        exact ⟨fun id => id = w1, fun id q => ⟨.inl q, by have := AM.get_some_lt g3; omega⟩, by omega, by omega, .inr (by simpa using q4)⟩
    | none =>
      rw [hf] at hdrop
      have hix : idxL r 10 = -1 := by unfold idxL; rw [hf]
      rw [hix]
      have hd0 := decide_eq_false (show ¬ (0 : Int) ≤ -1 by omega)
      simp only at hdrop
      (first | (simp (maxSteps := 1000000) (disch := first | omega | (simp only [AM.DB, List.length_set, List.length_map]; first | done | omega)) only [AM.RB, Nat.reduceAdd, Nat.reduceMul, Nat.reduceEqDiff, reduceCtorEq, b77_G3, g2, hd0]) | skip); (repeat' (first | ((first | refine AM.guard_spl ?_ ?_ | refine AM.cond_spl ?_ ?_ | refine AM.guard_b ?_ ?_ | refine AM.cond_b ?_ ?_) <;> (intro hd hp_; simp (maxSteps := 1000000) (disch := first | omega | (simp only [AM.DB, List.length_set, List.length_map]; first | done | omega)) only [AM.RB, Nat.reduceAdd, Nat.reduceMul, Nat.reduceEqDiff, reduceCtorEq, b77_G3, hd, g2, hd0])) | ((first | refine AM.drawW_fine hp (by kernel_rfl) (by kernel_rfl) (by kernel_rfl) ?_ | refine AM.opW_tied (by kernel_rfl) ?_ | refine AM.opW_untied (by kernel_rfl) ?_ | refine AM.build_w ?_); simp (maxSteps := 1000000) (disch := first | omega | (simp only [AM.DB, List.length_set, List.length_map]; first | done | omega)) only [AM.RB, Nat.reduceAdd, Nat.reduceMul, Nat.reduceEqDiff, reduceCtorEq, b77_G3, g2, hd0])))
      generalize hE_ : AHeap.put h1 _ _ = h2; obtain ⟨gg2, fr2, n2, l2⟩ := AM.put_get hE_ (by omega); clear hE_
      have hJ2 := hJ i _ (fun id => id = w1) _ _ hJi fr2 (fun _ q => q) (fun _ q => .inl q)
      have hget : (linesL l.length l)[i]? = some r := by
        have := congrArg (fun l => l[0]?) hdrop
        simpa using this
      refine AM.CallW.mono (hy i [strV r] (fun id => id = w1) h2 (by rw [List.getElem?_map, hget]; rfl) hJ2 (fun id q => ⟨.inl q, by omega⟩) (by omega) (by omega) (fun _ q => q.elim)) ?_
      rintro v h3 ⟨b, rfl, q1, q2, q3, q4⟩
      have g3 : h3.get w1 = some (.cells [strV []] 9 false) := by rw [q3 w1 (by omega) (.inl rfl)]; exact gg2
      cases b with
      | true =>
        (first | (simp (maxSteps := 1000000) (disch := first | omega | (simp only [AM.DB, List.length_set, List.length_map]; first | done | omega)) only [AM.RB, Nat.reduceAdd, Nat.reduceMul, Nat.reduceEqDiff, reduceCtorEq, b77_G3]) | skip); (repeat' (first | ((first | refine AM.guard_spl ?_ ?_ | refine AM.cond_spl ?_ ?_ | refine AM.guard_b ?_ ?_ | refine AM.cond_b ?_ ?_) <;> (intro hd hp_; simp (maxSteps := 1000000) (disch := first | omega | (simp only [AM.DB, List.length_set, List.length_map]; first | done | omega)) only [AM.RB, Nat.reduceAdd, Nat.reduceMul, Nat.reduceEqDiff, reduceCtorEq, b77_G3, hd])) | ((first | refine AM.drawW_fine hp (by kernel_rfl) (by kernel_rfl) (by kernel_rfl) ?_ | refine AM.opW_tied (by kernel_rfl) ?_ | refine AM.opW_untied (by kernel_rfl) ?_ | refine AM.build_w ?_); simp (maxSteps := 1000000) (disch := first | omega | (simp only [AM.DB, List.length_set, List.length_map]; first | done | omega)) only [AM.RB, Nat.reduceAdd, Nat.reduceMul, Nat.reduceEqDiff, reduceCtorEq, b77_G3])))
        refine ⟨(i + 1, []), by simp only [List.length_drop, List.length_nil]; omega, g3, by simp only [List.length_drop, List.length_nil]; omega, by omega, by omega, by simpa using q4, ?_, ?_⟩
        · simp only
          rw [← List.drop_drop, hdrop]
          rfl
        · have := (List.getElem?_eq_some_iff.1 hget).1
          simp only; omega
      | false =>
        (first | (simp (maxSteps := 1000000) (disch := first | omega | (simp only [AM.DB, List.length_set, List.length_map]; first | done | omega)) only [AM.RB, Nat.reduceAdd, Nat.reduceMul, Nat.reduceEqDiff, reduceCtorEq, b77_G3]) | skip); (repeat' (first | ((first | refine AM.guard_spl ?_ ?_ | refine AM.cond_spl ?_ ?_ | refine AM.guard_b ?_ ?_ | refine AM.cond_b ?_ ?_) <;> (intro hd hp_; simp (maxSteps := 1000000) (disch := first | omega | (simp only [AM.DB, List.length_set, List.length_map]; first | done | omega)) only [AM.RB, Nat.reduceAdd, Nat.reduceMul, Nat.reduceEqDiff, reduceCtorEq, b77_G3, hd])) | ((first | refine AM.drawW_fine hp (by kernel_rfl) (by kernel_rfl) (by kernel_rfl) ?_ | refine AM.opW_tied (by kernel_rfl) ?_ | refine AM.opW_untied (by kernel_rfl) ?_ | refine AM.build_w ?_); simp (maxSteps := 1000000) (disch := first | omega | (simp only [AM.DB, List.length_set, List.length_map]; first | done | omega)) only [AM.RB, Nat.reduceAdd, Nat.reduceMul, Nat.reduceEqDiff, reduceCtorEq, b77_G3])))
        exact ⟨fun id => id = w1, fun id q => ⟨.inl q, by have := AM.get_some_lt g3; omega⟩, by omega, by omega, .inr (by simpa using q4)⟩
  · have hr : r = [] := List.eq_nil_of_length_eq_zero (by omega)
    subst hr
    have e : (linesL l.length l).length = i := by
      have := congrArg List.length hdrop
      simp [linesL] at this; omega
    (first | (simp (maxSteps := 1000000) (disch := first | omega | (simp only [AM.DB, List.length_set, List.length_map]; first | done | omega)) only [AM.RB, Nat.reduceAdd, Nat.reduceMul, Nat.reduceEqDiff, reduceCtorEq, b77_G3]) | skip); (repeat' (first | ((first | refine AM.guard_spl ?_ ?_ | refine AM.cond_spl ?_ ?_ | refine AM.guard_b ?_ ?_ | refine AM.cond_b ?_ ?_) <;> (intro hd hp_; simp (maxSteps := 1000000) (disch := first | omega | (simp only [AM.DB, List.length_set, List.length_map]; first | done | omega)) only [AM.RB, Nat.reduceAdd, Nat.reduceMul, Nat.reduceEqDiff, reduceCtorEq, b77_G3, hd])) | ((first | refine AM.drawW_fine hp (by kernel_rfl) (by kernel_rfl) (by kernel_rfl) ?_ | refine AM.opW_tied (by kernel_rfl) ?_ | refine AM.opW_untied (by kernel_rfl) ?_ | refine AM.build_w ?_); simp (maxSteps := 1000000) (disch := first | omega | (simp only [AM.DB, List.length_set, List.length_map]; first | done | omega)) only [AM.RB, Nat.reduceAdd, Nat.reduceMul, Nat.reduceEqDiff, reduceCtorEq, b77_G3])))
    exact ⟨fun id => id = w1, fun id q => ⟨.inl q, by omega⟩, by omega, by omega, .inl (by rw [List.length_map, e]; exact hJi)⟩

end Go.Proofs.YtgdcbjpookldoaaDoor

namespace Go.Proofs.YtgdcbjpookldoaaDoor
open Go.AM
set_option maxRecDepth 8000
theorem b73_G4 : type_of% (And.intro (@Option.isNone_none.{0}) (And.intro (@Option.isNone_some.{0}) (And.intro (@AM.bin_eql) (And.intro (AM.bin_pnil ul_23) (And.intro (@AM.fa_ptr) (And.intro (@fd_84_0) (And.intro (@AM.ldO_agg) (And.intro (@AM.ldO_one) (And.intro (@AM.ld_ptr) (And.intro (@lk_3) (And.intro (@AM.op_binOp) (And.intro (@AM.op_fieldAddr) (And.intro (@AM.op_load) (@AM.op_nilCheck)))))))))))))) := And.intro (@Option.isNone_none.{0}) (And.intro (@Option.isNone_some.{0}) (And.intro (@AM.bin_eql) (And.intro (AM.bin_pnil ul_23) (And.intro (@AM.fa_ptr) (And.intro (@fd_84_0) (And.intro (@AM.ldO_agg) (And.intro (@AM.ldO_one) (And.intro (@AM.ld_ptr) (And.intro (@lk_3) (And.intro (@AM.op_binOp) (And.intro (@AM.op_fieldAddr) (And.intro (@AM.op_load) (@AM.op_nilCheck)))))))))))))
theorem b66_G4 : type_of% (And.intro (@AM.bin_geq) (And.intro (@AM.bin_lss) (And.intro (@AM.fa_ptr) (And.intro (@fd_84_2) (And.intro (@AM.ldO_agg) (And.intro (@AM.ldO_one) (And.intro (@AM.ld_ptr) (And.intro (AM.len_slice ul_52) (And.intro (@lk_52) (And.intro (@AM.op_binOp) (And.intro (@AM.op_call) (And.intro (@AM.op_fieldAddr) (And.intro (@AM.op_len) (And.intro (@AM.op_load) (And.intro (@AM.op_nilCheck) (And.intro (@AM.op_unOp) (And.intro (@AM.un_neg) (@AM.un_not)))))))))))))))))) := And.intro (@AM.bin_geq) (And.intro (@AM.bin_lss) (And.intro (@AM.fa_ptr) (And.intro (@fd_84_2) (And.intro (@AM.ldO_agg) (And.intro (@AM.ldO_one) (And.intro (@AM.ld_ptr) (And.intro (AM.len_slice ul_52) (And.intro (@lk_52) (And.intro (@AM.op_binOp) (And.intro (@AM.op_call) (And.intro (@AM.op_fieldAddr) (And.intro (@AM.op_len) (And.intro (@AM.op_load) (And.intro (@AM.op_nilCheck) (And.intro (@AM.op_unOp) (And.intro (@AM.un_neg) (@AM.un_not)))))))))))))))))
theorem b72_G4 : type_of% (And.intro (@AM.fa_ptr) (And.intro (@fd_84_0) (And.intro (@AM.ldO_agg) (And.intro (@AM.ldO_one) (And.intro (@AM.ld_ptr) (And.intro (@lk_3) (And.intro (@AM.op_call) (And.intro (@AM.op_fieldAddr) (And.intro (@AM.op_load) (@AM.op_nilCheck)))))))))) := And.intro (@AM.fa_ptr) (And.intro (@fd_84_0) (And.intro (@AM.ldO_agg) (And.intro (@AM.ldO_one) (And.intro (@AM.ld_ptr) (And.intro (@lk_3) (And.intro (@AM.op_call) (And.intro (@AM.op_fieldAddr) (And.intro (@AM.op_load) (@AM.op_nilCheck)))))))))
theorem b33_G4 : type_of% (And.intro (@AM.fa_ptr) (And.intro (@fd_84_1) (And.intro (@AM.ldO_agg) (And.intro (@AM.ldO_one) (And.intro (@AM.ld_ptr) (And.intro (@lk_3) (And.intro (@AM.op_call) (And.intro (@AM.op_fieldAddr) (And.intro (@AM.op_load) (@AM.op_nilCheck)))))))))) := And.intro (@AM.fa_ptr) (And.intro (@fd_84_1) (And.intro (@AM.ldO_agg) (And.intro (@AM.ldO_one) (And.intro (@AM.ld_ptr) (And.intro (@lk_3) (And.intro (@AM.op_call) (And.intro (@AM.op_fieldAddr) (And.intro (@AM.op_load) (@AM.op_nilCheck)))))))))
theorem b30_G4 : type_of% (And.intro (@AM.bin_mul) (And.intro (@AM.op_binOp) (@AM.op_call))) := And.intro (@AM.bin_mul) (And.intro (@AM.op_binOp) (@AM.op_call))
theorem b32_G4 : type_of% (And.intro (@AM.bin_neq) (And.intro (@AM.fa_ptr) (And.intro (@fd_84_2) (And.intro (@AM.iaO_ok) (And.intro (AM.ia_slice el_52) (And.intro (@AM.ldO_agg) (And.intro (@AM.ldO_one) (And.intro (@AM.ld_ptr) (And.intro (@lk_5) (And.intro (@lk_52) (And.intro (@AM.op_binOp) (And.intro (@AM.op_call) (And.intro (@AM.op_fieldAddr) (And.intro (@AM.op_indexAddr) (And.intro (@AM.op_load) (@AM.op_nilCheck)))))))))))))))) := And.intro (@AM.bin_neq) (And.intro (@AM.fa_ptr) (And.intro (@fd_84_2) (And.intro (@AM.iaO_ok) (And.intro (AM.ia_slice el_52) (And.intro (@AM.ldO_agg) (And.intro (@AM.ldO_one) (And.intro (@AM.ld_ptr) (And.intro (@lk_5) (And.intro (@lk_52) (And.intro (@AM.op_binOp) (And.intro (@AM.op_call) (And.intro (@AM.op_fieldAddr) (And.intro (@AM.op_indexAddr) (And.intro (@AM.op_load) (@AM.op_nilCheck)))))))))))))))
theorem b31_G4 : type_of% (And.intro (@AM.bin_add) (And.intro (@AM.bin_lss) (And.intro (AM.bsW_int bs_22) (And.intro (AM.bsW_nil bs_22) (And.intro (AM.bsW_slice bs_22) (And.intro (AM.bsW_string bs_22) (And.intro (@AM.fa_ptr) (And.intro (@fd_84_2) (And.intro (@AM.ldO_agg) (And.intro (@AM.ldO_one) (And.intro (@AM.ld_ptr) (And.intro (AM.len_slice ul_52) (And.intro (@lk_52) (And.intro (@AM.op_append) (And.intro (@AM.op_binOp) (And.intro (@AM.op_buildSlice) (And.intro (@AM.op_call) (And.intro (@AM.op_fieldAddr) (And.intro (@AM.op_len) (And.intro (@AM.op_load) (@AM.op_nilCheck))))))))))))))))))))) := And.intro (@AM.bin_add) (And.intro (@AM.bin_lss) (And.intro (AM.bsW_int bs_22) (And.intro (AM.bsW_nil bs_22) (And.intro (AM.bsW_slice bs_22) (And.intro (AM.bsW_string bs_22) (And.intro (@AM.fa_ptr) (And.intro (@fd_84_2) (And.intro (@AM.ldO_agg) (And.intro (@AM.ldO_one) (And.intro (@AM.ld_ptr) (And.intro (AM.len_slice ul_52) (And.intro (@lk_52) (And.intro (@AM.op_append) (And.intro (@AM.op_binOp) (And.intro (@AM.op_buildSlice) (And.intro (@AM.op_call) (And.intro (@AM.op_fieldAddr) (And.intro (@AM.op_len) (And.intro (@AM.op_load) (@AM.op_nilCheck))))))))))))))))))))


abbrev pv (p : Nat) : Value := .pointer (some ⟨p, 0, none⟩)
/-- A map in memory: its rows, columns, kinds; what its edges' tables are, stands in tl. -/
def Mp (h : AHeap) (p : Nat) (kv : Value) (R C : Nat) (K : List UInt8) (tl : List Value) : Prop :=
  h.get p = some (.cells (.int .i64 R :: .int .i64 C :: kv :: tl) 84 false) ∧ Ow h 5 1 kv K.length (K.map bV) ∧ tl.length = 5 ∧ h.low ≤ p ∧ ¬ idOf kv p
theorem Mp.fr {h h' : AHeap} {p : Nat} {kv : Value} {R C : Nat} {K : List UInt8} {tl : List Value} {S : Nat → Prop} (m : Mp h p kv R C K tl) (fr : Fr S h h') (h1 : ¬ S p) (h2 : ∀ id, idOf kv id → ¬ S id) : Mp h' p kv R C K tl :=
  ⟨fr.get m.1 h1, m.2.1.fr fr h2, m.2.2.1, by rw [fr.low]; exact m.2.2.2.1, m.2.2.2.2⟩
theorem Mp.fr0 {h h' : AHeap} {p : Nat} {kv : Value} {R C : Nat} {K : List UInt8} {tl : List Value} (m : Mp h p kv R C K tl) (fr : Fr none' h h') : Mp h' p kv R C K tl := m.fr fr (fun q => q) (fun _ _ q => q)

theorem none_w {h : AHeap} {p : Nat} {kv : Value} {R C : Nat} {K : List UInt8} {tl : List Value} (m : Mp h p kv R C K tl) (hR : 0 < R) (Q : VQ) (hq : Q (.bool false) h) : W 73 [pv p] h Q := by
  have hg := m.1
  have e : decide ((R : Int) = 0) = false := decide_eq_false (by omega)
  refine AM.enter hp (fn := Tryd.f73) (rs := [.tmp 2]) (nt := 12) (by kernel_rfl) Tryd.func73 rfl rfl rfl (by kernel_rfl) ?_
  (first | (simp (maxSteps := 1000000) (disch := first | omega | (simp only [AM.DB, List.length_set, List.length_map]; first | done | omega)) only [AM.RB, Nat.reduceAdd, Nat.reduceMul, Nat.reduceEqDiff, reduceCtorEq, b73_G4, hg, e]) | skip); (repeat' (first | ((first | refine AM.guard_spl ?_ ?_ | refine AM.cond_spl ?_ ?_ | refine AM.guard_b ?_ ?_ | refine AM.cond_b ?_ ?_) <;> (intro hd hp_; simp (maxSteps := 1000000) (disch := first | omega | (simp only [AM.DB, List.length_set, List.length_map]; first | done | omega)) only [AM.RB, Nat.reduceAdd, Nat.reduceMul, Nat.reduceEqDiff, reduceCtorEq, b73_G4, hd, hg, e])) | ((first | refine AM.drawW_fine hp (by kernel_rfl) (by kernel_rfl) (by kernel_rfl) ?_ | refine AM.opW_tied (by kernel_rfl) ?_ | refine AM.opW_untied (by kernel_rfl) ?_ | refine AM.build_w ?_); simp (maxSteps := 1000000) (disch := first | omega | (simp only [AM.DB, List.length_set, List.length_map]; first | done | omega)) only [AM.RB, Nat.reduceAdd, Nat.reduceMul, Nat.reduceEqDiff, reduceCtorEq, b73_G4, hg, e])))
  exact hq
theorem is_w {h : AHeap} {p : Nat} {kv : Value} {R C : Nat} {K : List UInt8} {tl : List Value} (m : Mp h p kv R C K tl) (hR : 0 < R) (i : Int) (Q : VQ) (hq : Q (.bool (decide (0 ≤ i ∧ i < K.length))) h) : W 66 [pv p, .int .i64 i] h Q := by
  have hg := m.1
  obtain ⟨ka, kc, rfl⟩ := m.2.1.form
  refine AM.enter hp (fn := Tryd.f66) (rs := [.tmp 4]) (nt := 21) (by kernel_rfl) Tryd.func66 rfl rfl rfl (by kernel_rfl) ?_
  (first | (simp (maxSteps := 1000000) (disch := first | omega | (simp only [AM.DB, List.length_set, List.length_map]; first | done | omega)) only [AM.RB, Nat.reduceAdd, Nat.reduceMul, Nat.reduceEqDiff, reduceCtorEq, b66_G4]) | skip); (repeat' (first | ((first | refine AM.guard_spl ?_ ?_ | refine AM.cond_spl ?_ ?_ | refine AM.guard_b ?_ ?_ | refine AM.cond_b ?_ ?_) <;> (intro hd hp_; simp (maxSteps := 1000000) (disch := first | omega | (simp only [AM.DB, List.length_set, List.length_map]; first | done | omega)) only [AM.RB, Nat.reduceAdd, Nat.reduceMul, Nat.reduceEqDiff, reduceCtorEq, b66_G4, hd])) | ((first | refine AM.drawW_fine hp (by kernel_rfl) (by kernel_rfl) (by kernel_rfl) ?_ | refine AM.opW_tied (by kernel_rfl) ?_ | refine AM.opW_untied (by kernel_rfl) ?_ | refine AM.build_w ?_); simp (maxSteps := 1000000) (disch := first | omega | (simp only [AM.DB, List.length_set, List.length_map]; first | done | omega)) only [AM.RB, Nat.reduceAdd, Nat.reduceMul, Nat.reduceEqDiff, reduceCtorEq, b66_G4])))
  refine none_w m hR _ ?_
  (first | (simp (maxSteps := 1000000) (disch := first | omega | (simp only [AM.DB, List.length_set, List.length_map]; first | done | omega)) only [AM.RB, Nat.reduceAdd, Nat.reduceMul, Nat.reduceEqDiff, reduceCtorEq, b66_G4, hg]) | skip); (repeat' (first | ((first | refine AM.guard_spl ?_ ?_ | refine AM.cond_spl ?_ ?_ | refine AM.guard_b ?_ ?_ | refine AM.cond_b ?_ ?_) <;> (intro hd hp_; simp (maxSteps := 1000000) (disch := first | omega | (simp only [AM.DB, List.length_set, List.length_map]; first | done | omega)) only [AM.RB, Nat.reduceAdd, Nat.reduceMul, Nat.reduceEqDiff, reduceCtorEq, b66_G4, hd, hg])) | ((first | refine AM.drawW_fine hp (by kernel_rfl) (by kernel_rfl) (by kernel_rfl) ?_ | refine AM.opW_tied (by kernel_rfl) ?_ | refine AM.opW_untied (by kernel_rfl) ?_ | refine AM.build_w ?_); simp (maxSteps := 1000000) (disch := first | omega | (simp only [AM.DB, List.length_set, List.length_map]; first | done | omega)) only [AM.RB, Nat.reduceAdd, Nat.reduceMul, Nat.reduceEqDiff, reduceCtorEq, b66_G4, hg])))
  all_goals (simpa [*] using hq)
theorem rows_w {h : AHeap} {p : Nat} {kv : Value} {R C : Nat} {K : List UInt8} {tl : List Value} (m : Mp h p kv R C K tl) (hR : 0 < R) (Q : VQ) (hq : Q (.int .i64 R) h) : W 72 [pv p] h Q := by
  have hg := m.1
  refine AM.enter hp (fn := Tryd.f72) (rs := [.tmp 2]) (nt := 9) (by kernel_rfl) Tryd.func72 rfl rfl rfl (by kernel_rfl) ?_
  (first | (simp (maxSteps := 1000000) (disch := first | omega | (simp only [AM.DB, List.length_set, List.length_map]; first | done | omega)) only [AM.RB, Nat.reduceAdd, Nat.reduceMul, Nat.reduceEqDiff, reduceCtorEq, b72_G4]) | skip); (repeat' (first | ((first | refine AM.guard_spl ?_ ?_ | refine AM.cond_spl ?_ ?_ | refine AM.guard_b ?_ ?_ | refine AM.cond_b ?_ ?_) <;> (intro hd hp_; simp (maxSteps := 1000000) (disch := first | omega | (simp only [AM.DB, List.length_set, List.length_map]; first | done | omega)) only [AM.RB, Nat.reduceAdd, Nat.reduceMul, Nat.reduceEqDiff, reduceCtorEq, b72_G4, hd])) | ((first | refine AM.drawW_fine hp (by kernel_rfl) (by kernel_rfl) (by kernel_rfl) ?_ | refine AM.opW_tied (by kernel_rfl) ?_ | refine AM.opW_untied (by kernel_rfl) ?_ | refine AM.build_w ?_); simp (maxSteps := 1000000) (disch := first | omega | (simp only [AM.DB, List.length_set, List.length_map]; first | done | omega)) only [AM.RB, Nat.reduceAdd, Nat.reduceMul, Nat.reduceEqDiff, reduceCtorEq, b72_G4])))
  refine none_w m hR _ ?_
  (first | (simp (maxSteps := 1000000) (disch := first | omega | (simp only [AM.DB, List.length_set, List.length_map]; first | done | omega)) only [AM.RB, Nat.reduceAdd, Nat.reduceMul, Nat.reduceEqDiff, reduceCtorEq, b72_G4, hg]) | skip); (repeat' (first | ((first | refine AM.guard_spl ?_ ?_ | refine AM.cond_spl ?_ ?_ | refine AM.guard_b ?_ ?_ | refine AM.cond_b ?_ ?_) <;> (intro hd hp_; simp (maxSteps := 1000000) (disch := first | omega | (simp only [AM.DB, List.length_set, List.length_map]; first | done | omega)) only [AM.RB, Nat.reduceAdd, Nat.reduceMul, Nat.reduceEqDiff, reduceCtorEq, b72_G4, hd, hg])) | ((first | refine AM.drawW_fine hp (by kernel_rfl) (by kernel_rfl) (by kernel_rfl) ?_ | refine AM.opW_tied (by kernel_rfl) ?_ | refine AM.opW_untied (by kernel_rfl) ?_ | refine AM.build_w ?_); simp (maxSteps := 1000000) (disch := first | omega | (simp only [AM.DB, List.length_set, List.length_map]; first | done | omega)) only [AM.RB, Nat.reduceAdd, Nat.reduceMul, Nat.reduceEqDiff, reduceCtorEq, b72_G4, hg])))
  exact hq
theorem cols_w {h : AHeap} {p : Nat} {kv : Value} {R C : Nat} {K : List UInt8} {tl : List Value} (m : Mp h p kv R C K tl) (hR : 0 < R) (Q : VQ) (hq : Q (.int .i64 C) h) : W 33 [pv p] h Q := by
  have hg := m.1
  refine AM.enter hp (fn := Tryd.f33) (rs := [.tmp 2]) (nt := 9) (by kernel_rfl) Tryd.func33 rfl rfl rfl (by kernel_rfl) ?_
  (first | (simp (maxSteps := 1000000) (disch := first | omega | (simp only [AM.DB, List.length_set, List.length_map]; first | done | omega)) only [AM.RB, Nat.reduceAdd, Nat.reduceMul, Nat.reduceEqDiff, reduceCtorEq, b33_G4]) | skip); (repeat' (first | ((first | refine AM.guard_spl ?_ ?_ | refine AM.cond_spl ?_ ?_ | refine AM.guard_b ?_ ?_ | refine AM.cond_b ?_ ?_) <;> (intro hd hp_; simp (maxSteps := 1000000) (disch := first | omega | (simp only [AM.DB, List.length_set, List.length_map]; first | done | omega)) only [AM.RB, Nat.reduceAdd, Nat.reduceMul, Nat.reduceEqDiff, reduceCtorEq, b33_G4, hd])) | ((first | refine AM.drawW_fine hp (by kernel_rfl) (by kernel_rfl) (by kernel_rfl) ?_ | refine AM.opW_tied (by kernel_rfl) ?_ | refine AM.opW_untied (by kernel_rfl) ?_ | refine AM.build_w ?_); simp (maxSteps := 1000000) (disch := first | omega | (simp only [AM.DB, List.length_set, List.length_map]; first | done | omega)) only [AM.RB, Nat.reduceAdd, Nat.reduceMul, Nat.reduceEqDiff, reduceCtorEq, b33_G4])))
  refine none_w m hR _ ?_
  (first | (simp (maxSteps := 1000000) (disch := first | omega | (simp only [AM.DB, List.length_set, List.length_map]; first | done | omega)) only [AM.RB, Nat.reduceAdd, Nat.reduceMul, Nat.reduceEqDiff, reduceCtorEq, b33_G4, hg]) | skip); (repeat' (first | ((first | refine AM.guard_spl ?_ ?_ | refine AM.cond_spl ?_ ?_ | refine AM.guard_b ?_ ?_ | refine AM.cond_b ?_ ?_) <;> (intro hd hp_; simp (maxSteps := 1000000) (disch := first | omega | (simp only [AM.DB, List.length_set, List.length_map]; first | done | omega)) only [AM.RB, Nat.reduceAdd, Nat.reduceMul, Nat.reduceEqDiff, reduceCtorEq, b33_G4, hd, hg])) | ((first | refine AM.drawW_fine hp (by kernel_rfl) (by kernel_rfl) (by kernel_rfl) ?_ | refine AM.opW_tied (by kernel_rfl) ?_ | refine AM.opW_untied (by kernel_rfl) ?_ | refine AM.build_w ?_); simp (maxSteps := 1000000) (disch := first | omega | (simp only [AM.DB, List.length_set, List.length_map]; first | done | omega)) only [AM.RB, Nat.reduceAdd, Nat.reduceMul, Nat.reduceEqDiff, reduceCtorEq, b33_G4, hg])))
  exact hq
theorem cells_w {h : AHeap} {p : Nat} {kv : Value} {R C : Nat} {K : List UInt8} {tl : List Value} (m : Mp h p kv R C K tl) (hR : 0 < R) (hb : R ≤ 4000000 ∧ C ≤ 4000000) (Q : VQ) (hq : Q (.int .i64 (R * C : Nat)) h) : W 30 [pv p] h Q := by
  have hm : (R : Int) * C ≤ 4000000 * 4000000 := Int.mul_le_mul (by omega) (by omega) (by omega) (by omega)
  have hm0 : (0 : Int) ≤ R * C := Int.mul_nonneg (by omega) (by omega)
  refine AM.enter hp (fn := Tryd.f30) (rs := [.tmp 2]) (nt := 8) (by kernel_rfl) Tryd.func30 rfl rfl rfl (by kernel_rfl) ?_
  (first | (simp (maxSteps := 1000000) (disch := first | omega | (simp only [AM.DB, List.length_set, List.length_map]; first | done | omega)) only [AM.RB, Nat.reduceAdd, Nat.reduceMul, Nat.reduceEqDiff, reduceCtorEq, b30_G4]) | skip); (repeat' (first | ((first | refine AM.guard_spl ?_ ?_ | refine AM.cond_spl ?_ ?_ | refine AM.guard_b ?_ ?_ | refine AM.cond_b ?_ ?_) <;> (intro hd hp_; simp (maxSteps := 1000000) (disch := first | omega | (simp only [AM.DB, List.length_set, List.length_map]; first | done | omega)) only [AM.RB, Nat.reduceAdd, Nat.reduceMul, Nat.reduceEqDiff, reduceCtorEq, b30_G4, hd])) | ((first | refine AM.drawW_fine hp (by kernel_rfl) (by kernel_rfl) (by kernel_rfl) ?_ | refine AM.opW_tied (by kernel_rfl) ?_ | refine AM.opW_untied (by kernel_rfl) ?_ | refine AM.build_w ?_); simp (maxSteps := 1000000) (disch := first | omega | (simp only [AM.DB, List.length_set, List.length_map]; first | done | omega)) only [AM.RB, Nat.reduceAdd, Nat.reduceMul, Nat.reduceEqDiff, reduceCtorEq, b30_G4])))
  refine rows_w m hR _ ?_
  (first | (simp (maxSteps := 1000000) (disch := first | omega | (simp only [AM.DB, List.length_set, List.length_map]; first | done | omega)) only [AM.RB, Nat.reduceAdd, Nat.reduceMul, Nat.reduceEqDiff, reduceCtorEq, b30_G4]) | skip); (repeat' (first | ((first | refine AM.guard_spl ?_ ?_ | refine AM.cond_spl ?_ ?_ | refine AM.guard_b ?_ ?_ | refine AM.cond_b ?_ ?_) <;> (intro hd hp_; simp (maxSteps := 1000000) (disch := first | omega | (simp only [AM.DB, List.length_set, List.length_map]; first | done | omega)) only [AM.RB, Nat.reduceAdd, Nat.reduceMul, Nat.reduceEqDiff, reduceCtorEq, b30_G4, hd])) | ((first | refine AM.drawW_fine hp (by kernel_rfl) (by kernel_rfl) (by kernel_rfl) ?_ | refine AM.opW_tied (by kernel_rfl) ?_ | refine AM.opW_untied (by kernel_rfl) ?_ | refine AM.build_w ?_); simp (maxSteps := 1000000) (disch := first | omega | (simp only [AM.DB, List.length_set, List.length_map]; first | done | omega)) only [AM.RB, Nat.reduceAdd, Nat.reduceMul, Nat.reduceEqDiff, reduceCtorEq, b30_G4])))
  refine cols_w m hR _ ?_
  (first | (simp (maxSteps := 1000000) (disch := first | omega | (simp only [AM.DB, List.length_set, List.length_map]; first | done | omega)) only [AM.RB, Nat.reduceAdd, Nat.reduceMul, Nat.reduceEqDiff, reduceCtorEq, b30_G4, AM.wrap_i64]) | skip); (repeat' (first | ((first | refine AM.guard_spl ?_ ?_ | refine AM.cond_spl ?_ ?_ | refine AM.guard_b ?_ ?_ | refine AM.cond_b ?_ ?_) <;> (intro hd hp_; simp (maxSteps := 1000000) (disch := first | omega | (simp only [AM.DB, List.length_set, List.length_map]; first | done | omega)) only [AM.RB, Nat.reduceAdd, Nat.reduceMul, Nat.reduceEqDiff, reduceCtorEq, b30_G4, hd, AM.wrap_i64])) | ((first | refine AM.drawW_fine hp (by kernel_rfl) (by kernel_rfl) (by kernel_rfl) ?_ | refine AM.opW_tied (by kernel_rfl) ?_ | refine AM.opW_untied (by kernel_rfl) ?_ | refine AM.build_w ?_); simp (maxSteps := 1000000) (disch := first | omega | (simp only [AM.DB, List.length_set, List.length_map]; first | done | omega)) only [AM.RB, Nat.reduceAdd, Nat.reduceMul, Nat.reduceEqDiff, reduceCtorEq, b30_G4, AM.wrap_i64])))
  exact hq
/-- What is at a number. -/
def kindP (K : List UInt8) (i : Int) : UInt8 := if 0 ≤ i then K.getD i.toNat 0 else 0
/-- Is a cell free? -/
def freeP (K : List UInt8) (i : Int) : Bool := decide (0 ≤ i ∧ i < K.length) && !decide (kindP K i = 35)
theorem free_w {h : AHeap} {p : Nat} {kv : Value} {R C : Nat} {K : List UInt8} {tl : List Value} (m : Mp h p kv R C K tl) (hR : 0 < R) (i : Int) (Q : VQ) (hq : Q (.bool (freeP K i)) h) : W 32 [pv p, .int .i64 i] h Q := by
  have hg := m.1
  have hr := m.2.1.rd
  obtain ⟨ka, kc, rfl⟩ := m.2.1.form
  unfold freeP at hq
  refine AM.enter hp (fn := Tryd.f32) (rs := [.tmp 4]) (nt := 18) (by kernel_rfl) Tryd.func32 rfl rfl rfl (by kernel_rfl) ?_
  (first | (simp (maxSteps := 1000000) (disch := first | omega | (simp only [AM.DB, List.length_set, List.length_map]; first | done | omega)) only [AM.RB, Nat.reduceAdd, Nat.reduceMul, Nat.reduceEqDiff, reduceCtorEq, b32_G4]) | skip); (repeat' (first | ((first | refine AM.guard_spl ?_ ?_ | refine AM.cond_spl ?_ ?_ | refine AM.guard_b ?_ ?_ | refine AM.cond_b ?_ ?_) <;> (intro hd hp_; simp (maxSteps := 1000000) (disch := first | omega | (simp only [AM.DB, List.length_set, List.length_map]; first | done | omega)) only [AM.RB, Nat.reduceAdd, Nat.reduceMul, Nat.reduceEqDiff, reduceCtorEq, b32_G4, hd])) | ((first | refine AM.drawW_fine hp (by kernel_rfl) (by kernel_rfl) (by kernel_rfl) ?_ | refine AM.opW_tied (by kernel_rfl) ?_ | refine AM.opW_untied (by kernel_rfl) ?_ | refine AM.build_w ?_); simp (maxSteps := 1000000) (disch := first | omega | (simp only [AM.DB, List.length_set, List.length_map]; first | done | omega)) only [AM.RB, Nat.reduceAdd, Nat.reduceMul, Nat.reduceEqDiff, reduceCtorEq, b32_G4])))
  refine is_w m hR i _ ?_
  by_cases hi : 0 ≤ i ∧ i < K.length
  · have e : kindP K i = K.getD i.toNat 0 := by unfold kindP; rw [if_pos hi.1]
    rw [e, decide_eq_true hi, Bool.true_and] at hq
    have e2 : decide (((K.getD i.toNat 0).toNat : Int) = 35) = decide (K.getD i.toNat 0 = 35) := by
      rw [decide_eq_decide]
      constructor
      · intro q; apply UInt8.toNat_inj.1; show _ = 35; omega
      · intro q; rw [q]; rfl
    rw [← e2] at hq
    (first | (simp (maxSteps := 1000000) (disch := first | omega | (simp only [AM.DB, List.length_set, List.length_map]; first | done | omega)) only [AM.RB, Nat.reduceAdd, Nat.reduceMul, Nat.reduceEqDiff, reduceCtorEq, b32_G4, decide_eq_true hi, hg, hr.ia el_52, hr.ldb lk_5]) | skip); (repeat' (first | ((first | refine AM.guard_spl ?_ ?_ | refine AM.cond_spl ?_ ?_ | refine AM.guard_b ?_ ?_ | refine AM.cond_b ?_ ?_) <;> (intro hd hp_; simp (maxSteps := 1000000) (disch := first | omega | (simp only [AM.DB, List.length_set, List.length_map]; first | done | omega)) only [AM.RB, Nat.reduceAdd, Nat.reduceMul, Nat.reduceEqDiff, reduceCtorEq, b32_G4, hd, decide_eq_true hi, hg, hr.ia el_52, hr.ldb lk_5])) | ((first | refine AM.drawW_fine hp (by kernel_rfl) (by kernel_rfl) (by kernel_rfl) ?_ | refine AM.opW_tied (by kernel_rfl) ?_ | refine AM.opW_untied (by kernel_rfl) ?_ | refine AM.build_w ?_); simp (maxSteps := 1000000) (disch := first | omega | (simp only [AM.DB, List.length_set, List.length_map]; first | done | omega)) only [AM.RB, Nat.reduceAdd, Nat.reduceMul, Nat.reduceEqDiff, reduceCtorEq, b32_G4, decide_eq_true hi, hg, hr.ia el_52, hr.ldb lk_5])))
    exact hq
  · rw [decide_eq_false hi, Bool.false_and] at hq
    (first | (simp (maxSteps := 1000000) (disch := first | omega | (simp only [AM.DB, List.length_set, List.length_map]; first | done | omega)) only [AM.RB, Nat.reduceAdd, Nat.reduceMul, Nat.reduceEqDiff, reduceCtorEq, b32_G4, decide_eq_false hi]) | skip); (repeat' (first | ((first | refine AM.guard_spl ?_ ?_ | refine AM.cond_spl ?_ ?_ | refine AM.guard_b ?_ ?_ | refine AM.cond_b ?_ ?_) <;> (intro hd hp_; simp (maxSteps := 1000000) (disch := first | omega | (simp only [AM.DB, List.length_set, List.length_map]; first | done | omega)) only [AM.RB, Nat.reduceAdd, Nat.reduceMul, Nat.reduceEqDiff, reduceCtorEq, b32_G4, hd, decide_eq_false hi])) | ((first | refine AM.drawW_fine hp (by kernel_rfl) (by kernel_rfl) (by kernel_rfl) ?_ | refine AM.opW_tied (by kernel_rfl) ?_ | refine AM.opW_untied (by kernel_rfl) ?_ | refine AM.build_w ?_); simp (maxSteps := 1000000) (disch := first | omega | (simp only [AM.DB, List.length_set, List.length_map]; first | done | omega)) only [AM.RB, Nat.reduceAdd, Nat.reduceMul, Nat.reduceEqDiff, reduceCtorEq, b32_G4, decide_eq_false hi])))
    exact hq
def allP (K : List UInt8) : Nat → List Int
  | 0 => []
  | n + 1 => allP K n ++ if freeP K n = true then [(n : Int)] else []
theorem allP_len (K : List UInt8) (n : Nat) : (allP K n).length ≤ n := by
  induction n with
  | zero => exact Nat.le_refl _
  | succ n ih => rw [allP, List.length_append]; split <;> simp <;> omega
theorem all_w {h : AHeap} {p : Nat} {kv : Value} {R C : Nat} {K : List UInt8} {tl : List Value} (m : Mp h p kv R C K tl) (hR : 0 < R) (hK : K.length ≤ 4000000) (hl : h.low ≤ h.next) (Q : VQ)
    (hq : ∀ v h', Ow h' 3 1 v (allP K K.length).length ((allP K K.length).map (.int .i64)) → Fr none' h h' → (∀ id, idOf v id → h.next ≤ id) → Q v h') : W 31 [pv p] h Q := by
  have hg := m.1
  obtain ⟨ka, kc, rfl⟩ := m.2.1.form
  refine AM.enter hp (fn := Tryd.f31) (rs := [.tmp 2]) (nt := 24) (by kernel_rfl) Tryd.func31 rfl rfl rfl (by kernel_rfl) ?_
  (first | (simp (maxSteps := 1000000) (disch := first | omega | (simp only [AM.DB, List.length_set, List.length_map]; first | done | omega)) only [AM.RB, Nat.reduceAdd, Nat.reduceMul, Nat.reduceEqDiff, reduceCtorEq, b31_G4]) | skip); (repeat' (first | ((first | refine AM.guard_spl ?_ ?_ | refine AM.cond_spl ?_ ?_ | refine AM.guard_b ?_ ?_ | refine AM.cond_b ?_ ?_) <;> (intro hd hp_; simp (maxSteps := 1000000) (disch := first | omega | (simp only [AM.DB, List.length_set, List.length_map]; first | done | omega)) only [AM.RB, Nat.reduceAdd, Nat.reduceMul, Nat.reduceEqDiff, reduceCtorEq, b31_G4, hd])) | ((first | refine AM.drawW_fine hp (by kernel_rfl) (by kernel_rfl) (by kernel_rfl) ?_ | refine AM.opW_tied (by kernel_rfl) ?_ | refine AM.opW_untied (by kernel_rfl) ?_ | refine AM.build_w ?_); simp (maxSteps := 1000000) (disch := first | omega | (simp only [AM.DB, List.length_set, List.length_map]; first | done | omega)) only [AM.RB, Nat.reduceAdd, Nat.reduceMul, Nat.reduceEqDiff, reduceCtorEq, b31_G4])))
  refine none_w m hR _ ?_
  (first | (simp (maxSteps := 1000000) (disch := first | omega | (simp only [AM.DB, List.length_set, List.length_map]; first | done | omega)) only [AM.RB, Nat.reduceAdd, Nat.reduceMul, Nat.reduceEqDiff, reduceCtorEq, b31_G4, hg]) | skip); (repeat' (first | ((first | refine AM.guard_spl ?_ ?_ | refine AM.cond_spl ?_ ?_ | refine AM.guard_b ?_ ?_ | refine AM.cond_b ?_ ?_) <;> (intro hd hp_; simp (maxSteps := 1000000) (disch := first | omega | (simp only [AM.DB, List.length_set, List.length_map]; first | done | omega)) only [AM.RB, Nat.reduceAdd, Nat.reduceMul, Nat.reduceEqDiff, reduceCtorEq, b31_G4, hd, hg])) | ((first | refine AM.drawW_fine hp (by kernel_rfl) (by kernel_rfl) (by kernel_rfl) ?_ | refine AM.opW_tied (by kernel_rfl) ?_ | refine AM.opW_untied (by kernel_rfl) ?_ | refine AM.build_w ?_); simp (maxSteps := 1000000) (disch := first | omega | (simp only [AM.DB, List.length_set, List.length_map]; first | done | omega)) only [AM.RB, Nat.reduceAdd, Nat.reduceMul, Nat.reduceEqDiff, reduceCtorEq, b31_G4, hg])))
  refine AM.loop_w hp 24 (fun q : Nat × Value => [(0, pv p), (3, q.2), (11, .int .i64 K.length), (12, .int .i64 q.1)])
    (fun q h' => q.1 ≤ K.length ∧ Fr none' h h' ∧ Ow h' 3 1 q.2 (allP K q.1).length ((allP K q.1).map (.int .i64)) ∧ ∀ id, idOf q.2 id → h.next ≤ id) (fun q => K.length - q.1) (by kernel_rfl) (0, .slice none 0 0) ?_ ?_ ?_
  · simp (maxSteps := 1000000) (disch := first | omega | (simp only [AM.DB, List.length_set, List.length_map]; first | done | omega)) only [AM.RB, Nat.reduceAdd, Nat.reduceMul, Nat.reduceEqDiff, reduceCtorEq, b31_G4]
  · exact ⟨Nat.zero_le _, Fr.refl _ _, Ow.nil _ _ _, fun _ q => q.elim⟩
  rintro ⟨i, s⟩ h1 ρ ⟨hi, fr, ho, hid⟩
  simp only at hi ho hid ⊢
  have hl1 := hl.fr0 fr
  have hal := allP_len K i
  obtain ⟨sa, sc, rfl⟩ := ho.form
  simp (maxSteps := 1000000) (disch := first | omega | (simp only [AM.DB, List.length_set, List.length_map]; first | done | omega)) only [AM.RB, Nat.reduceAdd, Nat.reduceMul, Nat.reduceEqDiff, reduceCtorEq, b31_G4]
  refine AM.condV_split (fun hlt => ?_) (fun hlt => ?_)
  · simp (maxSteps := 1000000) (disch := first | omega | (simp only [AM.DB, List.length_set, List.length_map]; first | done | omega)) only [AM.RB, Nat.reduceAdd, Nat.reduceMul, Nat.reduceEqDiff, reduceCtorEq, b31_G4]
    refine free_w (m.fr0 fr) hR i _ ?_
    simp (maxSteps := 1000000) (disch := first | omega | (simp only [AM.DB, List.length_set, List.length_map]; first | done | omega)) only [AM.RB, Nat.reduceAdd, Nat.reduceMul, Nat.reduceEqDiff, reduceCtorEq, b31_G4]
    refine AM.condV_bool (fun hb => ?_) (fun hb => ?_)
    · have e : allP K (i + 1) = allP K i ++ [(i : Int)] := by rw [allP, if_pos hb]
      simp (maxSteps := 1000000) (disch := first | omega | (simp only [AM.DB, List.length_set, List.length_map]; first | done | omega)) only [AM.RB, Nat.reduceAdd, Nat.reduceMul, Nat.reduceEqDiff, reduceCtorEq, b31_G4]
      generalize hE_ : AHeap.alloc h1 _ = h2; obtain ⟨g2, fr2, n2, l2⟩ := AM.new_get hE_; clear hE_
      refine AM.appends_w ap_22 ap_22 (ho.fr0 fr2) (AM.Rd.whole (n := 1) (c := [.int .i64 (i : Int)]) g2 rfl) rfl (hl1.fr0 fr2) (AM.fits (by omega) (by omega)) (AM.fits' (by omega)) fun v' h3 ho3 fr3 hid3 => ?_
      have nx := fr.next
      simp (maxSteps := 1000000) (disch := first | omega | (simp only [AM.DB, List.length_set, List.length_map]; first | done | omega)) only [AM.RB, Nat.reduceAdd, Nat.reduceMul, Nat.reduceEqDiff, reduceCtorEq, b31_G4, AM.wrap_i64]
      refine ⟨(i + 1, v'), by simp only; omega, ⟨rfl, congrArg _ (by simp only; omega)⟩, by simp only; omega, (fr.trans fr2).fresh fr3 hid, ?_, fun id q => ?_⟩
      · simp only; rw [e, List.length_append, List.map_append]; exact ho3
      · rcases hid3 id q with q | q
        · exact hid id q
        · omega
    · have e : allP K (i + 1) = allP K i := by rw [allP, if_neg (by rw [hb]; simp)]; simp
      simp (maxSteps := 1000000) (disch := first | omega | (simp only [AM.DB, List.length_set, List.length_map]; first | done | omega)) only [AM.RB, Nat.reduceAdd, Nat.reduceMul, Nat.reduceEqDiff, reduceCtorEq, b31_G4, AM.wrap_i64]
      exact ⟨(i + 1, _), by simp only; omega, ⟨rfl, congrArg _ (by simp only; omega)⟩, by simp only; omega, fr, by simp only; rw [e]; exact ho, hid⟩
  · obtain rfl : i = K.length := by omega
    simp (maxSteps := 1000000) (disch := first | omega | (simp only [AM.DB, List.length_set, List.length_map]; first | done | omega)) only [AM.RB, Nat.reduceAdd, Nat.reduceMul, Nat.reduceEqDiff, reduceCtorEq, b31_G4]
    exact hq _ _ ho fr hid

end Go.Proofs.YtgdcbjpookldoaaDoor
