/- Walks of this claim's functions, and plain laws. -/
import Derived.Test.YtodcnfabnlojdaaProg
import Derived.Test.YtodcnfabnlojdaaAMRules
import Derived.Test.YtodcnfabnlojdaaAMOps6
import Derived.KernelRfl
import Derived.Shelf.SlIterI.Nil
import Derived.Shelf.SortM.Plain
import Derived.Shelf.SortM.SortNone
import Derived.Ground.GgzProg
import Derived.Ground.SlgmProg
import Derived.Test.YtodcnfabnlojdaaAMIter2
import Derived.Test.YtodcnfabnlojdaaAMLaw
import Derived.Test.YtodcnfabnlojdaaChecked
import Derived.WalkKit
import Derived.Tactics
import Derived.Tactics2
import Derived.LoopTactic
import Derived.LoopN
import Derived.Laws.Pointers
import Derived.Laws.Small
import Derived.Laws.IdiomRangeMap
import Derived.Maps.Range
import Derived.TacticsInMore
import Derived.RegionIn
import Derived.LoopNIn
import Derived.LoopIn
import Derived.OwnWalkIn
import Derived.RangeFuncWrites
import Derived.RangeFuncBox
import Derived.RangeFuncLeaves
import Derived.Shelf.Abstract
import Derived.Sort.MapsRangeIn
import Derived.Maps.OwnIn
import Derived.Test.YtodcnfabnlojdaaAMOps10
set_option linter.unusedSimpArgs false
set_option linter.unusedVariables false
namespace Go.Proofs.Ytodcnfabnlojdaa
open Go.AM

theorem lk_3 : lkI Try.prog 3 = some none := by kernel_rfl
theorem sz_3 : szI Try.prog 3 = some 1 := by kernel_rfl
theorem al_3 : alI Try.prog 3 = some ([.int .i64 0]) := by kernel_rfl
theorem ul_22 : Try.prog.underlying 22 = some (.slice 3) := by kernel_rfl
theorem lk_22 : lkI Try.prog 22 = some none := by kernel_rfl
theorem sz_22 : szI Try.prog 22 = some 1 := by kernel_rfl
theorem al_22 : alI Try.prog 22 = some ([.slice none 0 0]) := by kernel_rfl
theorem el_22 : elI Try.prog 22 = some (3, 1) := by kernel_rfl
theorem ap_22 : apI Try.prog 22 = some (3, 1, 8) := by kernel_rfl
theorem bs_22 : bsI Try.prog 22 = some (3, 1) := by kernel_rfl
theorem ul_43 : Try.prog.underlying 43 = some (.map 3 3) := by kernel_rfl
theorem lk_43 : lkI Try.prog 43 = some none := by kernel_rfl
theorem sz_43 : szI Try.prog 43 = some 1 := by kernel_rfl
theorem mp_43 : mpI Try.prog 43 = some (.int .i64 0) := by kernel_rfl
theorem al_45 : alI Try.prog 45 = some ([.int .i64 0, .map none]) := by kernel_rfl
theorem fd_45_0 : fdI Try.prog 45 0 = some 0 := by kernel_rfl
theorem fd_45_1 : fdI Try.prog 45 1 = some 1 := by kernel_rfl
theorem ul_72 : Try.prog.underlying 72 = some (.pointer 45) := by kernel_rfl
theorem lk_72 : lkI Try.prog 72 = some none := by kernel_rfl
end Go.Proofs.Ytodcnfabnlojdaa

/-
  DERIVED: THE SHELF's CONTRACTS AT THIS DUMP, IN PLAIN WORDS (tools/lay-plain.mjs out of 'the laying.lean', which tools/lay-shelf.mjs wrote): THE SAME DECLARATIONS UNDER THE SAME NAMES: 'import', 'namespace', 'open', 'def', 'theorem' AND NOTHING ELSE: no command of the shelf's: FOR A HAND-IN. Each laying: the table of numbers ('.._ren') and one theorem, a field a fact of the dump's own or the kernel's comparison; each contract: ONE APPLICATION.
-/
namespace Go.Proofs
open Go.Shelf
def Try.keysA_ren : Go.Shelf.Ren := ⟨fun | 7 => 61 | 10 => 74 | n => n, fun | 23 => 43 | 26 => 3 | 3 => 3 | 28 => 86 | 0 => 0 | 27 => 85 | 33 => 50 | 4 => 4 | n => n, fun | n => n⟩
theorem Try.keysA : Go.Proofs.SlLaysZI.n7 Try.prog Try.keysA_ren := {
  mixed := by kernel_rfl
  f7 := ⟨Try.f61.name, by decide, Try.func61.trans (congrArg some (by kernel_rfl))⟩
  f10 := ⟨Try.f74.name, by decide, Try.func74.trans (congrArg some (by kernel_rfl))⟩
  t0 := Try.underlying0
  a0 := Try.isAgg0
  z0 := Try.sizeOf0
  v0 := Try.zeroValue0
  t4 := Try.underlying4
  a4 := Try.isAgg4
  z4 := Try.sizeOf4
  v4 := Try.zeroValue4
  t23 := Try.underlying43
  a23 := Try.isAgg43
  z23 := Try.sizeOf43
  v23 := Try.zeroValue43
  t26 := Try.underlying3
  a26 := Try.isAgg3
  z26 := Try.sizeOf3
  v26 := Try.zeroValue3
  t27 := Try.underlying85
  a27 := Try.isAgg85
  z27 := Try.sizeOf85
  v27 := Try.zeroValue85
  t28 := Try.underlying86
  a28 := Try.isAgg86
  z28 := Try.sizeOf86
  v28 := Try.zeroValue86
  t33 := Try.underlying50
  a33 := Try.isAgg50
  z33 := Try.sizeOf50
  v33 := Try.zeroValue50 }
def Try.sortedA_ren : Go.Shelf.Ren := ⟨fun | 6 => 60 | 8 => 73 | 9 => 67 | 11 => 79 | 13 => 78 | 12 => 77 | 23 => 89 | 24 => 90 | 14 => 80 | 15 => 81 | 16 => 82 | 17 => 83 | 18 => 84 | 19 => 85 | 20 => 86 | 21 => 87 | 22 => 88 | 25 => 91 | 26 => 92 | 27 => 93 | 28 => 94 | 29 => 95 | 30 => 71 | 31 => 96 | n => n, fun | 26 => 3 | 28 => 86 | 24 => 22 | 0 => 0 | 3 => 3 | 37 => 111 | 48 => 122 | 50 => 29 | 4 => 4 | 40 => 115 | 39 => 114 | 45 => 119 | 5 => 5 | 9 => 9 | 51 => 124 | 55 => 128 | 57 => 130 | 58 => 131 | 33 => 50 | n => n, fun | n => n⟩
theorem Try.sortedA : Go.Proofs.SlLaysZI.n6 Try.prog Try.sortedA_ren := {
  mixed := by kernel_rfl
  f6 := ⟨Try.f60.name, by decide, Try.func60.trans (congrArg some (by kernel_rfl))⟩
  f8 := ⟨Try.f73.name, by decide, Try.func73.trans (congrArg some (by kernel_rfl))⟩
  f11 := ⟨Try.f79.name, by decide, Try.func79.trans (congrArg some (by kernel_rfl))⟩
  t0 := Try.underlying0
  a0 := Try.isAgg0
  z0 := Try.sizeOf0
  v0 := Try.zeroValue0
  t24 := Try.underlying22
  a24 := Try.isAgg22
  z24 := Try.sizeOf22
  v24 := Try.zeroValue22
  t26 := Try.underlying3
  a26 := Try.isAgg3
  z26 := Try.sizeOf3
  v26 := Try.zeroValue3
  t28 := Try.underlying86
  a28 := Try.isAgg86
  z28 := Try.sizeOf86
  v28 := Try.zeroValue86
  i26 := by kernel_rfl }
def Try.sortA_ren : Go.Shelf.Ren := ⟨fun | 5 => 67 | 8 => 78 | 7 => 77 | 19 => 89 | 20 => 90 | 10 => 80 | 11 => 81 | 12 => 82 | 13 => 83 | 14 => 84 | 15 => 85 | 16 => 86 | 17 => 87 | 18 => 88 | 30 => 91 | 31 => 92 | 32 => 93 | 33 => 94 | 34 => 95 | 35 => 71 | 40 => 96 | n => n, fun | 23 => 22 | 25 => 3 | 3 => 3 | 32 => 111 | 22 => 22 | 0 => 0 | 44 => 122 | 46 => 29 | 4 => 4 | 36 => 115 | 35 => 114 | 41 => 119 | 5 => 5 | 9 => 9 | 53 => 124 | 57 => 128 | 63 => 130 | 64 => 131 | n => n, fun | n => n⟩
theorem Try.sortA : Go.Proofs.SlLaysM.n5 Try.prog Try.sortA_ren := {
  mixed := by kernel_rfl
  f5 := ⟨Try.f67.name, by decide, Try.func67.trans (congrArg some (by kernel_rfl))⟩
  f7 := ⟨Try.f77.name, by decide, Try.func77.trans (congrArg some (by kernel_rfl))⟩
  f8 := Try.func78.trans (congrArg some (by kernel_rfl))
  f10 := ⟨Try.f80.name, by decide, Try.func80.trans (congrArg some (by kernel_rfl))⟩
  f11 := ⟨Try.f81.name, by decide, Try.func81.trans (congrArg some (by kernel_rfl))⟩
  f12 := ⟨Try.f82.name, by decide, Try.func82.trans (congrArg some (by kernel_rfl))⟩
  f13 := ⟨Try.f83.name, by decide, Try.func83.trans (congrArg some (by kernel_rfl))⟩
  f14 := ⟨Try.f84.name, by decide, Try.func84.trans (congrArg some (by kernel_rfl))⟩
  f15 := ⟨Try.f85.name, by decide, Try.func85.trans (congrArg some (by kernel_rfl))⟩
  f16 := ⟨Try.f86.name, by decide, Try.func86.trans (congrArg some (by kernel_rfl))⟩
  f17 := ⟨Try.f87.name, by decide, Try.func87.trans (congrArg some (by kernel_rfl))⟩
  f18 := ⟨Try.f88.name, by decide, Try.func88.trans (congrArg some (by kernel_rfl))⟩
  f19 := Try.func89.trans (congrArg some (by kernel_rfl))
  f20 := Try.func90.trans (congrArg some (by kernel_rfl))
  f30 := ⟨Try.f91.name, by decide, Try.func91.trans (congrArg some (by kernel_rfl))⟩
  f31 := Try.func92.trans (congrArg some (by kernel_rfl))
  f32 := Try.func93.trans (congrArg some (by kernel_rfl))
  f33 := ⟨Try.f94.name, by decide, Try.func94.trans (congrArg some (by kernel_rfl))⟩
  f34 := ⟨Try.f95.name, by decide, Try.func95.trans (congrArg some (by kernel_rfl))⟩
  f35 := ⟨Try.f71.name, by decide, Try.func71.trans (congrArg some (by kernel_rfl))⟩
  f40 := ⟨Try.f96.name, by decide, Try.func96.trans (congrArg some (by kernel_rfl))⟩
  t0 := Try.underlying0
  a0 := Try.isAgg0
  z0 := Try.sizeOf0
  v0 := Try.zeroValue0
  t3 := Try.underlying3
  a3 := Try.isAgg3
  z3 := Try.sizeOf3
  v3 := Try.zeroValue3
  t4 := Try.underlying4
  a4 := Try.isAgg4
  z4 := Try.sizeOf4
  v4 := Try.zeroValue4
  t5 := Try.underlying5
  a5 := Try.isAgg5
  z5 := Try.sizeOf5
  v5 := Try.zeroValue5
  t9 := Try.underlying9
  a9 := Try.isAgg9
  z9 := Try.sizeOf9
  v9 := Try.zeroValue9
  t22 := Try.underlying22
  a22 := Try.isAgg22
  z22 := Try.sizeOf22
  v22 := Try.zeroValue22
  t23 := Try.underlying22
  a23 := Try.isAgg22
  z23 := Try.sizeOf22
  v23 := Try.zeroValue22
  t25 := Try.underlying3
  a25 := Try.isAgg3
  z25 := Try.sizeOf3
  v25 := Try.zeroValue3
  t32 := Try.underlying111
  a32 := Try.isAgg111
  z32 := Try.sizeOf111
  v32 := Try.zeroValue111
  t35 := Try.underlying114
  a35 := Try.isAgg114
  z35 := Try.sizeOf114
  v35 := Try.zeroValue114
  t36 := Try.underlying115
  a36 := Try.isAgg115
  z36 := Try.sizeOf115
  v36 := Try.zeroValue115
  t41 := Try.underlying119
  a41 := Try.isAgg119
  z41 := Try.sizeOf119
  v41 := Try.zeroValue119
  t44 := Try.underlying122
  a44 := Try.isAgg122
  z44 := Try.sizeOf122
  v44 := Try.zeroValue122
  t46 := Try.underlying29
  a46 := Try.isAgg29
  z46 := Try.sizeOf29
  v46 := Try.zeroValue29
  t53 := Try.underlying124
  a53 := Try.isAgg124
  z53 := Try.sizeOf124
  v53 := Try.zeroValue124
  t57 := Try.underlying128
  a57 := Try.isAgg128
  z57 := Try.sizeOf128
  v57 := Try.zeroValue128
  t63 := Try.underlying130
  a63 := Try.isAgg130
  z63 := Try.sizeOf130
  v63 := Try.zeroValue130
  t64 := Try.underlying131
  a64 := Try.isAgg131
  z64 := Try.sizeOf131
  v64 := Try.zeroValue131 }
end Go.Proofs

/- inherit's Holder.Now: the greatest of all, in whatever order the map is gone through. -/
namespace Go.AM
open Go.Proofs Go.RowKit

/-- The greatest of a number and of the values of the entries that have been handed out. -/
def seenMax (o : Int) : List MapEntry → Array Nat → Int
  | [], _ => o
  | x :: l, seen => if seen.contains x.born then max (valOf x.val) (seenMax o l seen) else seenMax o l seen
theorem seenMax_none (o : Int) : ∀ (es : List MapEntry), seenMax o es #[] = o
  | [] => rfl
  | x :: l => by
    have : (#[] : Array Nat).contains x.born = false := by simp
    simp only [seenMax, this, Bool.false_eq_true, if_false, seenMax_none o l]
theorem seenMax_other (o : Int) (seen : Array Nat) (b : Nat) : ∀ (es : List MapEntry), b ∉ es.map (·.born) → seenMax o es (seen.push b) = seenMax o es seen
  | [], _ => rfl
  | x :: l, h => by
    have hx : (x.born == b) = false := by
      cases hc : x.born == b with
      | false => rfl
      | true => exact absurd (List.mem_cons.2 (Or.inl (beq_iff_eq.1 hc).symm)) h
    have ih := seenMax_other o seen b l (fun e => h (List.mem_cons.2 (Or.inr e)))
    simp only [seenMax, contains_push, hx, Bool.or_false, ih]
theorem seenMax_push (o : Int) (seen : Array Nat) (e : MapEntry) (hs : seen.contains e.born = false) : ∀ (es : List MapEntry), (es.map (·.born)).Nodup → e ∈ es → seenMax o es (seen.push e.born) = max (seenMax o es seen) (valOf e.val)
  | x :: l, hn, he => by
    have hn' : x.born ∉ l.map (·.born) ∧ (l.map (·.born)).Nodup := List.nodup_cons.1 hn
    rcases List.mem_cons.1 he with rfl | h
    · simp only [seenMax, contains_push, hs, beq_self_eq_true, Bool.or_true, if_true, Bool.false_eq_true, if_false, seenMax_other o seen e.born l hn'.1]
      omega
    · have hx : (x.born == e.born) = false := by
        cases hc : x.born == e.born with
        | false => rfl
        | true => exact absurd (by rw [beq_iff_eq.1 hc]; exact List.mem_map.2 ⟨e, h, rfl⟩) hn'.1
      simp only [seenMax, contains_push, hx, Bool.or_false, seenMax_push o seen e hs l hn'.2 h]
      split <;> omega
theorem seenMax_full (o : Int) (seen : Array Nat) : ∀ (es : List MapEntry), (∀ x ∈ es, seen.contains x.born = true) → seenMax o es seen = (es.map fun e => valOf e.val).foldr max o
  | [], _ => rfl
  | x :: l, h => by
    simp only [seenMax, h x (List.mem_cons.2 (Or.inl rfl)), if_true, List.map_cons, List.foldr_cons, seenMax_full o seen l (fun y hy => h y (List.mem_cons.2 (Or.inr hy)))]

section
variable {P : Program} {B : Nat} {μ : Map} {h : AHeap} {w : World}
theorem HR.below (hr : HR P B μ h w) {w' : World} (hb : Below w.heap.size w w') : Post P B μ h w μ h w' :=
  ⟨Map.le_refl _, fun _ _ a b => (by rw [a] at b; cases b), ⟨fun id loc a => ⟨(hr.dom id loc a).1, Nat.lt_of_lt_of_le (hr.dom id loc a).2 hb.size⟩,
    fun id loc o a g => (by rw [hb.block _ (hr.dom id loc a).2]; exact hr.obj id loc o a g), hr.own, hr.low, Nat.le_trans hr.base hb.size⟩, hb.size, fun b hb' _ => hb.block b hb', fun _ _ _ => rfl, ⟨hb.os, hb.tape, hb.output⟩⟩

/-- A block that the call has made is a new object. -/
theorem HR.found (hr : HR P B μ h w) {w' : World} (hbl : Below w.heap.size w w') {g : Nat} (hg : w.heap.size ≤ g) {o : AObj} {O : Obj} (hO : w'.heap[g]? = some O) {loc : Loc} (hbr : loc.blk = g ∧ loc.ro = false) (ho : ∀ μ', μ.le μ' → μ' h.next = some loc → OR P μ' loc o O) :
    ∃ μ', μ' h.next = some loc ∧ Post P B μ h w μ' (h.alloc o) w' ∧ Keeps h (h.alloc o) := by
  obtain ⟨hb, hro⟩ := hbr
  have hgs : g < w'.heap.size := (Array.getElem?_eq_some_iff.1 hO).1
  have hn : μ h.next = none := by
    cases e : μ h.next with
    | none => rfl
    | some l => have := (hr.dom _ _ e).1; omega
  let μ' : Map := fun id => if id = h.next then some loc else μ id
  have hle : μ.le μ' := by
    intro id l hl
    by_cases e : id = h.next
    · subst e; rw [hn] at hl; cases hl
    · simp [μ', e, hl]
  have hm : μ' h.next = some loc := by simp [μ']
  have off : ∀ {id l}, id ≠ h.next → μ' id = some l → μ id = some l := fun {id l} e a => by simpa only [μ', if_neg e] using a
  refine ⟨μ', hm, ⟨hle, ?_, ⟨?_, ?_, ?_, ?_, ?_⟩, hbl.size, fun b hb' _ => hbl.block b hb', fun id hid _ => (by rw [AHeap.get_alloc, if_neg (by omega)]), ⟨hbl.os, hbl.tape, hbl.output⟩⟩, Keeps.ofAlloc hr.low o⟩
  · intro id l a b
    by_cases e : id = h.next
    · subst e; rw [hm] at a; cases a; exact ⟨Nat.le_refl _, .inl (by omega)⟩
    · rw [off e a] at b; cases b
  · intro id l a
    by_cases e : id = h.next
    · subst e; rw [hm] at a; cases a; exact ⟨by simp, by omega⟩
    · have := hr.dom id l (off e a); have := hbl.size; simp; omega
  · intro id l ob a g'
    rw [AHeap.get_alloc] at g'
    by_cases e : id = h.next
    · subst e; rw [hm] at a; cases a
      rw [if_pos rfl] at g'; cases g'
      exact ⟨O, by rw [hb]; exact hO, ho μ' hle hm⟩
    · rw [if_neg e] at g'
      obtain ⟨O', h1, h2⟩ := hr.obj id l ob (off e a) g'
      exact ⟨O', by rw [hbl.block _ (hr.dom id l (off e a)).2]; exact h1, h2.mono hle⟩
  · intro id l a g' hlow
    rw [AHeap.get_alloc] at g'
    simp only [AHeap.low_alloc] at hlow
    by_cases e : id = h.next
    · subst e; rw [hm] at a; cases a
      refine ⟨hro, fun id' l' a' _ hne => ?_⟩
      have := (hr.dom id' l' (off hne a')).2
      omega
    · rw [if_neg e] at g'
      obtain ⟨h1, h2⟩ := hr.own id l (off e a) g' hlow
      refine ⟨h1, fun id' l' a' g'' hne => ?_⟩
      by_cases e' : id' = h.next
      · subst e'; rw [hm] at a'; cases a'; have := (hr.dom id l (off e a)).2; omega
      · rw [AHeap.get_alloc, if_neg e'] at g''
        exact h2 id' l' (off e' a') g'' hne
  · have := hr.low; simp; omega
  · have := hr.base; have := hbl.size; omega

theorem keyed3 : Maps.Keyed Try.prog 3 := Maps.int_keyed Try.underlying3
abbrev rdAny : Value → Option (DataW Unit × List MemPlace) := fun _ => some (.nil, [])

/-- Is a value a number of 64 bits? -/
def isW64 (v : Value) : Bool := match v with | .int .i64 n => (Lit.int .i64 n).wf | _ => false
theorem isW64_form {v : Value} (hv : isW64 v = true) : ∃ n, v = .int .i64 n ∧ (Lit.int .i64 n).wf = true := by
  unfold isW64 at hv
  split at hv
  · exact ⟨_, rfl, hv⟩
  · cases hv
def okEs (es : List (Value × Value)) : Bool := decide (es.length ≤ roomy) && es.all fun p => isW64 p.1 && isW64 p.2

theorem VRs.isW64 {l l' : List Value} (hl : VRs μ l l') (hi : l.all AM.isW64 = true) : l' = l := by
  induction l generalizing l' with
  | nil => exact hl.nil_inv
  | cons x l ih =>
    obtain ⟨x', m, rfl, hx, hl2⟩ := hl.cons_inv
    simp only [List.all_cons, Bool.and_eq_true] at hi
    obtain ⟨n, rfl, _⟩ := isW64_form hi.1
    cases hx
    rw [ih hl2 hi.2]

/-- What a map's block holds of such entries. -/
theorem MR.ok {es : List (Value × Value)} {E : Array MapEntry} {clock : Nat} (hm : MR μ es E clock) (hok : okEs es = true) :
    ∃ F : List MapEntry, F.Perm E.toList ∧ F.map (·.key) = es.map (·.1) ∧ F.map (·.val) = es.map (·.2) ∧ E.size ≤ roomy ∧ (∀ x ∈ E.toList, isW64 x.key = true ∧ isW64 x.val = true) := by
  have hsz := hm.size
  obtain ⟨hst, _, F, hp, h1, h2⟩ := hm
  simp only [okEs, Bool.and_eq_true, decide_eq_true_eq, List.all_eq_true] at hok
  have e1 := h1.isW64 (by simp only [List.all_map, List.all_eq_true, Function.comp]; exact fun x hx => (hok.2 x hx).1)
  have e2 := h2.isW64 (by simp only [List.all_map, List.all_eq_true, Function.comp]; exact fun x hx => (hok.2 x hx).2)
  refine ⟨F, hp, e1, e2, by omega, fun x hx => ?_⟩
  have hx' := hp.mem_iff.2 hx
  have k1 : x.key ∈ es.map (·.1) := by rw [← e1]; exact List.mem_map.2 ⟨x, hx', rfl⟩
  have k2 : x.val ∈ es.map (·.2) := by rw [← e2]; exact List.mem_map.2 ⟨x, hx', rfl⟩
  obtain ⟨y, hy, ey⟩ := List.mem_map.1 k1
  obtain ⟨z, hz, ez⟩ := List.mem_map.1 k2
  rw [← ey, ← ez]
  exact ⟨(hok.2 y hy).1, (hok.2 z hz).2⟩

theorem fit_of {E : Array MapEntry} {clock : Nat} (hst : MapKept.Stamped E clock) (hsz : E.size ≤ roomy) (hk : ∀ x ∈ E.toList, isW64 x.key = true ∧ isW64 x.val = true) : WideElems.Fit Try.prog 3 rdAny E clock :=
  ⟨by unfold roomy at hsz; unfold maxLen; omega, hst, fun x hx => by
    obtain ⟨n, e, hw⟩ := isW64_form (hk x hx).1
    exact ⟨_, WideElems.rd_mk (born := x.born) (by rw [e]; exact Maps.keyOf_int_mk Try.underlying3 hw) (val := x.val) rfl⟩⟩

open Classical in
/-- A step of the iterator leaves the tape. -/
theorem next_tape {es : Array MapEntry} {clock bm : Nat} (F : WideElems.Fit Try.prog 3 rdAny es clock) (w1 : World) (hb1 : w1.heap[bm]? = some (.map es clock)) (seen : Array Nat) {r : Value} {w' : World} {ty : TypeId}
    (hrun : (Instr.next (.pointer (some ⟨w1.heap.size, 0, none⟩)) false ty).run Try.prog (w1.alloc (.mapIter (some bm) clock seen clock)) = .ok r w') : w'.tape = w1.tape := by
  have hlt : bm < w1.heap.size := (Array.getElem?_eq_some_iff.1 hb1).1
  have hrg : (w1.alloc (.mapIter (some bm) clock seen clock)).ranges Try.prog 3 rdAny bm w1.heap.size es.size (.map ((es.toList.map (WideElems.rg Try.prog 3 rdAny)).foldr DataW.insert []))
      (fun kl => es.toList.any fun x => decide ((WideElems.rg Try.prog 3 rdAny x).1 = kl) && !seen.contains x.born) (leftOf es seen).size := by
    refine ⟨es, clock, clock, seen, clock, (heap_alloc_old w1 _ hlt).trans hb1, F, Nat.le_refl _, rfl, heap_alloc_new w1 _, F.stamped.1, rfl, ?_, ?_, Nat.le_refl _, Nat.le_refl _⟩
    · intro x hx
      cases hc : seen.contains x.born with
      | false => simp only [List.any_eq_true, Bool.not_false]; exact ⟨x, hx, by simp only [hc]; simp⟩
      | true =>
        simp only [Bool.not_true, List.any_eq_false]
        intro e he
        by_cases hk : (WideElems.rg Try.prog 3 rdAny e).1 = (WideElems.rg Try.prog 3 rdAny x).1
        · have := entry_eq_of_key ((MapKept.stamped_iff es clock).1 F.stamped).2.2 he hx (Maps.fit_key_inj keyed3 F he hx hk)
          subst this; rw [hc]; simp
        · simp [hk]
    · intro kl hkl
      obtain ⟨x, hx, hq⟩ := List.any_eq_true.1 hkl
      simp only [Bool.and_eq_true, decide_eq_true_eq] at hq
      exact ⟨x, hx, hq.1⟩
  rcases hrg.next keyed3 ty with ⟨_, _, h⟩ | ⟨key, v, kl, y, w'', cnt', _, _, _, _, h, _, _, hg, _⟩
  · rw [hrun] at h; cases h; rfl
  · rw [hrun] at h; cases h; exact hg.tape
end

set_option maxRecDepth 1000000 in
theorem now_some (b off bm clock : Nat) (own : Int) (es : Array MapEntry) (w : World) (hb : w.heap[bm]? = some (.map es clock)) (F : WideElems.Fit Try.prog 3 rdAny es clock) (hv : ∀ x ∈ es.toList, ∃ v, x.val = .int .i64 v)
    (h0 : w.cell? ⟨b, off, none⟩ = some (.int .i64 own)) (h1 : w.cell? ⟨b, off + 1, none⟩ = some (.map (some bm))) :
    Calls Try.prog 25 #[.pointer (some ⟨b, off, none⟩)] w fun e w' => e = .returned (.int .i64 ((es.toList.map fun e => valOf e.val).foldr max own)) ∧ ∃ (w1 : World) (seen : Array Nat), w1.Alike w ∧ w1.tape = w.tape ∧ w' = w1.alloc (.mapIter (some bm) clock seen clock) := by
  have hst := F.stamped
  have hrg := run_range_map (P := Try.prog) w 43 3 3 bm es clock Try.underlying43 hb
  go_enter Try.func25, Try.ntmps25
  go_wp2
  go_loopw [3] (fun s w' => ∃ (w1 : World) (seen : Array Nat), w1.Alike w ∧ w1.tape = w.tape ∧ w' = w1.alloc (.mapIter (some bm) clock seen clock) ∧ s = .int .i64 (seenMax own es.toList seen)) (fun _ w' => (leftOf es (w'.iterSeen w.heap.size)).size)
  case atStart => exact ⟨w, #[], ⟨rfl, rfl, rfl⟩, rfl, rfl, by rw [seenMax_none]⟩
  case round =>
    obtain ⟨w1, seen, hal, htp, rfl, rfl⟩ := hrel
    have hsz : w1.heap.size = w.heap.size := by rw [hal.1]
    have hb1 : w1.heap[bm]? = some (.map es clock) := by rw [hal.1]; exact hb
    have law := run_next_map (P := Try.prog) w1 0 bm clock clock seen es clock hb1 hst.1 (Nat.le_refl _)
    rw [hsz] at law
    rcases law with ⟨h0, hrun⟩ | ⟨e, he, w2, hal2, hrun⟩
    · have hnx : ∀ ty, (Instr.next (.pointer (some ⟨w.heap.size, 0, none⟩)) false ty).run Try.prog (w1.alloc (.mapIter (some bm) clock seen clock)) = _ := fun _ => hrun
      go_wp2
      go_ret
      rw [seenMax_full own seen es.toList (all_seen es seen h0)]
      exact ⟨rfl, w1, seen, hal, htp, rfl⟩
    · obtain ⟨v, hval⟩ := hv e (mem_left he).1
      have htp2 : w2.tape = w1.tape := next_tape F w1 hb1 seen (w' := w2.alloc (.mapIter (some bm) clock (seen.push e.born) clock)) (by rw [hsz]; exact hrun)
      rw [hval] at hrun
      have hnx : ∀ ty, (Instr.next (.pointer (some ⟨w.heap.size, 0, none⟩)) false ty).run Try.prog (w1.alloc (.mapIter (some bm) clock seen clock)) = _ := fun _ => hrun
      have hsz2 : w2.heap.size = w.heap.size := by rw [hal2.1, hal.1]
      have hb2 : w2.heap[bm]? = some (.map es clock) := by rw [hal2.1]; exact hb1
      have hen := run_entry_map (P := Try.prog) w2 bm clock seen es clock e hb2 (mem_left he).1 hst.2.1
      rw [hsz2, hval] at hen
      go_wp2
      go_roundw
      case rel =>
        refine ⟨w2, seen.push e.born, ⟨hal2.1.trans hal.1, hal2.2.1.trans hal.2.1, hal2.2.2.trans hal.2.2⟩, htp2.trans htp, rfl, ?_⟩
        rw [seenMax_push own seen e (mem_left he).2 es.toList hst.2.1 (mem_left he).1, hval]
        try simp only [valOf]
        try rfl
      case measure =>
        rw [← hsz2, World.iterSeen_alloc, hsz2, ← hsz, World.iterSeen_alloc]
        exact left_shrinks es seen e he

set_option maxRecDepth 1000000 in
theorem now_nilMap (b off : Nat) (own : Int) (w : World) (h0 : w.cell? ⟨b, off, none⟩ = some (.int .i64 own)) (h1 : w.cell? ⟨b, off + 1, none⟩ = some (.map none)) :
    Calls Try.prog 25 #[.pointer (some ⟨b, off, none⟩)] w fun e w' => e = .returned (.int .i64 own) ∧ w' = w.alloc (.mapIter none 0 #[] 0) := by
  have hrg := run_range_nilMap (P := Try.prog) w 43 3 3 Try.underlying43
  have hnx : ∀ ty, (Instr.next (.pointer (some ⟨w.heap.size, 0, none⟩)) false ty).run Try.prog (w.alloc (.mapIter none 0 #[] 0)) = _ := fun ty => run_next_nilMap w ty 0 0 #[]
  go_enter Try.func25, Try.ntmps25
  go_wp2
  refine wp_loop_rounds 1 ?_
  rw [rounds_succ]
  go_wp2
  go_ret
  exact ⟨rfl, rfl⟩

set_option maxRecDepth 1000000 in
theorem now_none (w : World) : Calls Try.prog 25 #[.pointer none] w fun e w' => e = .returned (.int .i64 0) ∧ w' = w := by
  go_enter Try.func25, Try.ntmps25
  go_wp2
  go_ret
  exact ⟨rfl, rfl⟩
end Go.AM

/- inherit's Holder.From: the map's keys, sorted. -/
namespace Go.AM
open Go.Proofs Go.RowKit Go.Maps Go.Sort Go.Shelf

theorem sortsA (m : Nat) : AnyZI.SortsIn Try.prog Try.sortedA_ren Fence.wide m :=
  ⟨fun blk off cap ss W hH hblk hsz => callsIn_wide.2 (AnyM.slices_Sort_int Try.sortA blk off cap ss W hH hblk hsz),
   fun p cap W => callsIn_wide.2 (AnyM.slices_Sort_int_none Try.sortA p cap W)⟩

set_option maxRecDepth 100000 in
set_option maxHeartbeats 1000000 in
theorem from_some {H : Type} (hb ho b nn : Nat) (D0 : DataW H) (R : Value → Option (DataW H × List MemPlace)) (w : World) (hown : w.ownsMap Try.prog 3 R b nn D0) (hmax : Maps.size D0 ≤ maxLen) (hbytes : Maps.size D0 * 8 ≤ 140737488355328)
    (h1 : w.cell? ⟨hb, ho + 1, none⟩ = some (.map (some b))) :
    Calls Try.prog 26 #[.pointer (some ⟨hb, ho, none⟩)] w fun e w' => ∃ (v : Value) (ss : List Int), e = .returned v ∧ ss.Perm (intKeys D0) ∧
      w'.ownsRow w.heap.size 3 1 v ss.length ((ss.mergeSort (fun x y => decide (x ≤ y))).map encZ) ∧ (v = .slice none 0 0 ↔ ss = []) ∧ Below w.heap.size w w' := by
  refine (callsIn_wide (n := 6)).1 ?_
  have hbl := hown.lt
  have hseq : SeqGives Fence.wide 2 Try.prog 74 #[.pointer (some ⟨w.heap.size, 0, none⟩)] encZ (fun ss => ss.Perm (intKeys D0)) (Maps.size D0) (w.alloc (.cells #[.map (some b)] 43)) :=
    AnyZI.keys_gives (ρ := Try.keysA_ren) { Try.keysA with } Fence.wide _ trivial rfl (by omega) w.heap.size b nn D0 _ (by simp) (by simp) (by
      obtain ⟨es, clock, hb, Ft, hs, hD⟩ := hown
      exact ⟨es, clock, (Below.heap_alloc _ _ b hbl).trans hb, Ft, hs, hD⟩)
  have cK : ∀ mb W, CallsIn Fence.wide 5 Try.prog 61 #[.map mb] W fun e w' => e = .returned (.func (.func 74) #[] #[.pointer (some ⟨W.heap.size, 0, none⟩)]) ∧ w' = W.alloc (.cells #[.map mb] 43) := fun mb W => AnyZI.keys_in Try.keysA Fence.wide 5 trivial rfl mb W
  have cS := AnyZI.sorted_in Try.sortedA Fence.wide 5 trivial trivial trivial trivial rfl (by omega) (sortsA _) (enters_of Try.func67 (by kernel_rfl) rfl) 74 #[.pointer (some ⟨w.heap.size, 0, none⟩)] trivial (enters_of Try.func74 (by kernel_rfl) rfl) _ _ hmax hbytes _ hseq
  change CallsIn _ _ Try.prog 60 _ _ _ at cS
  have hfK : Fence.wide.fn 61 := trivial
  have hfS : Fence.wide.fn 60 := trivial
  refine callsIn_of_wp Try.func26 rfl trivial ?_ rfl
  simp only [Try.ntmps26, List.size_toArray, List.length_cons, List.length_nil, Nat.reduceAdd, Nat.reduceSub, Array.replicate_succ, Array.replicate_zero, List.push_toArray, List.append_toArray, List.nil_append, List.cons_append]
  gi_wp2_with (first
    | (gi_at_call 61; refine (cK _ _).mono ?_; rintro e w' ⟨rfl, rfl⟩)
    | (gi_at_call 60; refine cS.mono ?_; rintro e w' ⟨v, ss, rfl, hS, hrow, hnil, hb⟩))
  go_ret
  exact ⟨v, ss, rfl, hS, ownsRow_base_a hrow (by simp), hnil, ((Below.refl _ w).alloc (Nat.le_refl _) _).trans (hb.mono (by simp))⟩

set_option maxHeartbeats 1000000 in
theorem from_nilMap (hb ho : Nat) (w : World) (h1 : w.cell? ⟨hb, ho + 1, none⟩ = some (.map none)) : Calls Try.prog 26 #[.pointer (some ⟨hb, ho, none⟩)] w fun e w' => e = .returned (.slice none 0 0) ∧ Below w.heap.size w w' := by
  refine (callsIn_wide (n := 6)).1 ?_
  have hseq : SeqGives Fence.wide 2 Try.prog 74 #[.pointer (some ⟨w.heap.size, 0, none⟩)] encZ (fun ss : List Int => ss = []) 0 (w.alloc (.cells #[.map none] 43)) :=
    AnyZI.keys_gives_nil (ρ := Try.keysA_ren) { Try.keysA with } Fence.wide _ trivial rfl w.heap.size _ (by simp) (by simp)
  have cK : ∀ mb W, CallsIn Fence.wide 5 Try.prog 61 #[.map mb] W fun e w' => e = .returned (.func (.func 74) #[] #[.pointer (some ⟨W.heap.size, 0, none⟩)]) ∧ w' = W.alloc (.cells #[.map mb] 43) := fun mb W => AnyZI.keys_in Try.keysA Fence.wide 5 trivial rfl mb W
  have cS := AnyZI.sorted_in Try.sortedA Fence.wide 5 trivial trivial trivial trivial rfl (by omega) (sortsA _) (enters_of Try.func67 (by kernel_rfl) rfl) 74 #[.pointer (some ⟨w.heap.size, 0, none⟩)] trivial (enters_of Try.func74 (by kernel_rfl) rfl) _ 0 (Nat.zero_le _) (by omega) _ hseq
  change CallsIn _ _ Try.prog 60 _ _ _ at cS
  have hfK : Fence.wide.fn 61 := trivial
  have hfS : Fence.wide.fn 60 := trivial
  refine callsIn_of_wp Try.func26 rfl trivial ?_ rfl
  simp only [Try.ntmps26, List.size_toArray, List.length_cons, List.length_nil, Nat.reduceAdd, Nat.reduceSub, Array.replicate_succ, Array.replicate_zero, List.push_toArray, List.append_toArray, List.nil_append, List.cons_append]
  gi_wp2_with (first
    | (gi_at_call 61; refine (cK _ _).mono ?_; rintro e w' ⟨rfl, rfl⟩)
    | (gi_at_call 60; refine cS.mono ?_; rintro e w' ⟨v, ss, rfl, rfl, hrow, hnil, hb⟩; obtain rfl : v = .slice none 0 0 := hnil.2 rfl))
  go_ret
  exact ⟨rfl, ((Below.refl _ w).alloc (Nat.le_refl _) _).trans (hb.mono (by simp))⟩

set_option maxRecDepth 100000 in
theorem from_none (w : World) : Calls Try.prog 26 #[.pointer none] w fun e w' => e = .returned (.slice none 0 0) ∧ w' = w := by
  go_enter Try.func26, Try.ntmps26
  go_wp2
  go_ret
  exact ⟨rfl, rfl⟩
end Go.AM

/- What stands for Holder.Now and Holder.From, and that it answers so. -/
namespace Go.AM
open Go.Proofs Go.RowKit Go.Maps Go.Sort Go.Shelf

noncomputable def pNow : CallV → List Value → AHeap → R Value := fun _ all h => match all with
  | [.pointer none] => some (.int .i64 0, h)
  | [.pointer (some ⟨id, off, none⟩)] =>
    match h.get id with
    | some (.cells c _ _) =>
      match c[off]?, c[off + 1]? with
      | some (.int .i64 o), some (.map none) => if h.low ≤ id then some (.int .i64 o, h) else none
      | some (.int .i64 o), some (.map (some m)) =>
        match h.get m with
        | some (.map es) => if h.low ≤ id ∧ okEs es = true then some (.int .i64 ((es.map fun p => valOf p.2).foldr max o), h) else none
        | _ => none
      | _, _ => none
    | _ => none
  | _ => none

noncomputable def pFrom : CallV → List Value → AHeap → R Value := fun _ all h => match all with
  | [.pointer none] => some (.slice none 0 0, h)
  | [.pointer (some ⟨id, off, none⟩)] =>
    match h.get id with
    | some (.cells c _ _) =>
      match c[off + 1]? with
      | some (.map none) => if h.low ≤ id then some (.slice none 0 0, h) else none
      | some (.map (some m)) =>
        match h.get m with
        | some (.map es) => if h.low ≤ id ∧ okEs es = true then (if es.length = 0 then some (.slice none 0 0, h) else some (sliceTo h.next 0 es.length es.length, h.alloc (.cells (((es.map fun p => valOf p.1).mergeSort leI).map (Value.int .i64)) 3 true))) else none
        | _ => none
      | _ => none
    | _ => none
  | _ => none

section
variable {P : Program} {B : Nat} {μ : Map} {h : AHeap} {w : World}
theorem cell_at (hr : HR P B μ h w) {id off : Nat} {loc : Loc} {c : List Value} {e : TypeId} {b : Bool} {x : Value} (hl : μ id = some loc) (hg : h.get id = some (.cells c e b)) (hlow : h.low ≤ id)
    (hc : c[off]? = some x) : ∃ x', w.cell? ⟨loc.blk, loc.base + off, none⟩ = some x' ∧ VR μ x x' := by
  obtain ⟨C, fr, hb, hcl, ho, hes, hcs, hbs, hvv, hall, hfr0⟩ := hr.rowOwn hl hg hlow
  obtain ⟨v', k1, k2⟩ := hvv.get hc
  refine ⟨v', ?_, k2⟩
  rw [cell_of_row w _ _ C _ fr hb]
  rw [List.getElem?_take] at k1
  split at k1
  · rw [List.getElem?_drop] at k1; simpa using k1
  · cases k1
end

theorem foldr_max_perm {l l' : List Int} (hp : l.Perm l') (o : Int) : l.foldr max o = l'.foldr max o := by
  induction hp with
  | nil => rfl
  | cons x _ ih => simp [ih]
  | swap x y l => simp only [List.foldr_cons]; omega
  | trans _ _ h1 h2 => exact h1.trans h2

theorem enterS {P : Program} {g : FuncId} {fn : Func} {c : Code} (hfn : P.funcs[g]? = some fn) (hb : fn.body = some c) (hname : (fn.name == "runtime.NumGoroutine") = false) (xs : Array Value) (w : World) : (callFunc g xs).run P w = .ok (.enter g xs) w := by
  simp only [callFunc, Sem.run_bind, run_program, Result.andThen_ok, hfn, hname, hb]
  simp

theorem now_ok (G : Nat → Bool) : PrimOk Try.prog G 25 pNow := by
  intro call _ B μ h w all r h' hh hg hr all' ha
  have enter := fun xs => enterS Try.func25 rfl (by kernel_rfl) xs w
  unfold pNow at hh
  split at hh
  · cases hh
    obtain ⟨a, m, e1, v1, ha⟩ := ha.cons_inv
    obtain rfl := ha.nil_inv
    cases v1
    obtain rfl : all' = #[.pointer none] := by apply Array.toList_inj.1; rw [e1]
    refine .inr ⟨_, _, w, enter _, callsIn_wide.2 ?_⟩
    refine (now_none w).mono ?_
    rintro x w' ⟨rfl, rfl⟩
    exact ⟨_, rfl, μ, .int _ _, Post.refl hr, Keeps.refl _⟩
  · rename_i id off
    obtain ⟨a, m, e1, v1, ha⟩ := ha.cons_inv
    obtain rfl := ha.nil_inv
    cases v1 with
    | ptr _ _ loc hl =>
    obtain rfl : all' = #[.pointer (some ⟨loc.blk, loc.base + off, none⟩)] := by apply Array.toList_inj.1; rw [e1]
    split at hh
    · rename_i c e o hgid
      split at hh
      · rename_i own hc0 hc1
        split at hh
        · rename_i hlow
          cases hh
          obtain ⟨x0, k0, u0⟩ := cell_at hr hl hgid hlow hc0
          obtain ⟨x1, k1, u1⟩ := cell_at hr hl hgid hlow hc1
          cases u0; cases u1
          refine .inr ⟨_, _, w, enter _, callsIn_wide.2 ?_⟩
          refine (now_nilMap loc.blk (loc.base + off) own w k0 k1).mono ?_
          rintro x w' ⟨rfl, rfl⟩
          exact ⟨_, rfl, μ, .int _ _, hr.below ((Below.refl _ w).alloc (Nat.le_refl _) _), Keeps.refl _⟩
        · cases hh
      · rename_i own m hc0 hc1
        split at hh
        · rename_i es hgm
          split at hh
          · rename_i hcond
            obtain ⟨hlow, hok⟩ := hcond
            cases hh
            obtain ⟨x0, k0, u0⟩ := cell_at hr hl hgid hlow hc0
            obtain ⟨x1, k1, u1⟩ := cell_at hr hl hgid hlow hc1
            cases u0
            cases u1 with
            | map _ locm hlm =>
            obtain ⟨E, clock, hb, hm⟩ := hr.mapAt hlm hgm
            obtain ⟨F, hp, e1, e2, hsz, hall⟩ := hm.ok hok
            have fit := fit_of hm.1 hsz hall
            refine .inr ⟨_, _, w, enter _, callsIn_wide.2 ?_⟩
            refine (now_some loc.blk (loc.base + off) locm.blk clock own E w hb fit (fun x hx => by obtain ⟨n, e, _⟩ := isW64_form (hall x hx).2; exact ⟨n, e⟩) k0 k1).mono ?_
            rintro x w' ⟨rfl, w1, seen, hal, htp, rfl⟩
            have hv : (es.map fun p => valOf p.2) = F.map fun e => valOf e.val := by
              have := congrArg (List.map valOf) e2
              simpa [List.map_map, Function.comp_def] using this.symm
            rw [hv, foldr_max_perm (hp.map _)]
            refine ⟨_, rfl, μ, .int _ _, hr.below ?_, Keeps.refl _⟩
            refine ⟨hal.2.1, htp, hal.2.2, by simp [hal.1], fun k hk => ?_⟩
            rw [heap_alloc_old w1 _ (by rw [hal.1]; exact hk), hal.1]
          · cases hh
        · cases hh
      · cases hh
    · cases hh
  · cases hh

theorem from_ok (G : Nat → Bool) : PrimOk Try.prog G 26 pFrom := by
  intro call _ B μ h w all r h' hh hg hr all' ha
  have enter := fun xs => enterS Try.func26 rfl (by kernel_rfl) xs w
  unfold pFrom at hh
  split at hh
  · cases hh
    obtain ⟨a, m, e1, v1, ha⟩ := ha.cons_inv
    obtain rfl := ha.nil_inv
    cases v1
    obtain rfl : all' = #[.pointer none] := by apply Array.toList_inj.1; rw [e1]
    refine .inr ⟨_, _, w, enter _, callsIn_wide.2 ?_⟩
    refine (from_none w).mono ?_
    rintro x w' ⟨rfl, rfl⟩
    exact ⟨_, rfl, μ, .snil, Post.refl hr, Keeps.refl _⟩
  · rename_i id off
    obtain ⟨a, m, e1, v1, ha⟩ := ha.cons_inv
    obtain rfl := ha.nil_inv
    cases v1 with
    | ptr _ _ loc hl =>
    obtain rfl : all' = #[.pointer (some ⟨loc.blk, loc.base + off, none⟩)] := by apply Array.toList_inj.1; rw [e1]
    split at hh
    · rename_i c e o hgid
      split at hh
      · rename_i hc1
        split at hh
        · rename_i hlow
          cases hh
          obtain ⟨x1, k1, u1⟩ := cell_at hr hl hgid hlow hc1
          cases u1
          refine .inr ⟨_, _, w, enter _, callsIn_wide.2 ?_⟩
          refine (from_nilMap loc.blk (loc.base + off) w k1).mono ?_
          rintro x w' ⟨rfl, hbl⟩
          exact ⟨_, rfl, μ, .snil, hr.below hbl, Keeps.refl _⟩
        · cases hh
      · rename_i m hc1
        split at hh
        · rename_i es hgm
          split at hh
          · rename_i hcond
            obtain ⟨hlow, hok⟩ := hcond
            obtain ⟨x1, k1, u1⟩ := cell_at hr hl hgid hlow hc1
            cases u1 with
            | map _ locm hlm =>
            obtain ⟨E, clock, hb, hm⟩ := hr.mapAt hlm hgm
            have hsz0 := hm.size
            obtain ⟨F, hp, e1, e2, hsz, hall⟩ := hm.ok hok
            have fit := fit_of hm.1 hsz hall
            have hown : w.ownsMap Try.prog 3 rdAny locm.blk E.size (.map ((E.toList.map (WideElems.rg Try.prog 3 rdAny)).foldr DataW.insert [])) := ⟨E, clock, hb, fit, Nat.le_refl _, rfl⟩
            have hsD : Maps.size (DataW.map ((E.toList.map (WideElems.rg Try.prog 3 rdAny)).foldr DataW.insert [])) = E.size := by simp only [Maps.size]; rw [(WideShapes.sorted_perm _).length_eq]; simp
            have hbig : E.size ≤ 1099511627776 := by unfold roomy at hsz; omega
            -- the keys
            have hkeys : (intKeys (DataW.map ((E.toList.map (WideElems.rg Try.prog 3 rdAny)).foldr DataW.insert []))).Perm (es.map fun p => valOf p.1) := by
              have h1 : (intKeys (DataW.map ((E.toList.map (WideElems.rg Try.prog 3 rdAny)).foldr DataW.insert []))).Perm ((E.toList.map (WideElems.rg Try.prog 3 rdAny)).map fun p => intOf p.1) := (WideShapes.sorted_perm _).map _
              have h2 : (E.toList.map (WideElems.rg Try.prog 3 rdAny)).map (fun p => intOf p.1) = E.toList.map fun e => valOf e.key := by
                rw [List.map_map]
                apply List.map_congr_left
                intro x hx
                obtain ⟨n, e, hw⟩ := isW64_form (hall x hx).1
                have hy : WideElems.rd Try.prog 3 rdAny x = some (.int .i64 n, .nil) := by
                  have := WideElems.rd_mk (P := Try.prog) (k := 3) (R := rdAny) (born := x.born) (key := x.key) (val := x.val) (by rw [e]; exact Maps.keyOf_int_mk Try.underlying3 hw) rfl
                  exact this
                simp only [Function.comp, WideElems.rg_of hy, e]
                rfl
              have h3 : (es.map fun p => valOf p.1) = F.map fun e => valOf e.key := by
                have := congrArg (List.map valOf) e1
                simpa [List.map_map, Function.comp_def] using this.symm
              rw [h3]
              rw [h2] at h1
              exact h1.trans (hp.map _).symm
            have hlen : (intKeys (DataW.map ((E.toList.map (WideElems.rg Try.prog 3 rdAny)).foldr DataW.insert []))).length = es.length := by rw [hkeys.length_eq]; simp
            have run := from_some loc.blk (loc.base + off) locm.blk E.size _ rdAny w hown (by rw [hsD]; unfold maxLen; omega) (by rw [hsD]; omega) k1
            refine .inr ⟨_, _, w, enter _, callsIn_wide.2 ?_⟩
            refine run.mono ?_
            rintro x w' ⟨v, ss, rfl, hperm, hrow, hnil, hbl⟩
            have hsl : ss.length = es.length := by rw [hperm.length_eq, hlen]
            split at hh
            · rename_i h0
              cases hh
              have : ss = [] := List.eq_nil_of_length_eq_zero (by omega)
              obtain rfl := hnil.2 this
              exact ⟨_, rfl, μ, .snil, hr.below hbl, Keeps.refl _⟩
            · rename_i h0
              cases hh
              have hsort : ss.mergeSort (fun x y => decide (x ≤ y)) = (es.map fun p => valOf p.1).mergeSort leI := mergeSort_of_perm_i (hperm.trans hkeys)
              obtain ⟨hxl, ⟨rfl, hn0⟩ | ⟨g, cap, cur, rfl, hgb, hgO, hnc, hcm, hcs, htk⟩⟩ := hrow
              · omega
              · rw [hsort] at htk
                rw [hsl] at hnc htk ⊢
                have hesz : Try.prog.cellsOf 3 = 1 := by kernel_rfl
                have hcl : cur.toList.length = cap := by rw [Array.length_toList]; omega
                obtain ⟨μ', hm', p1, p2⟩ := hr.found (o := .cells (((es.map fun p => valOf p.1).mergeSort leI).map (Value.int .i64)) 3 true) (loc := ⟨g, 0, es.length, cap, 1, true, false⟩) hbl hgb hgO ⟨rfl, rfl⟩ (fun μ' _ _ => by
                  refine ⟨.inr rfl, by simp, rfl, hesz.symm, by simpa using hcs, by simp; exact hnc, ?_, ?_, .inr (Melted.all fun j hh => by simp at hh)⟩
                  · simp only [List.drop_zero]
                    rw [Nat.mul_one] at htk
                    rw [htk]
                    exact VRs.plain (by simp [plainV])
                  · simp [List.all_map, Function.comp_def, Value.oneCell'])
                refine ⟨_, rfl, μ', ?_, p1, p2⟩
                unfold maxLen at hcm
                exact VR.slice (μ := μ') h.next 0 es.length es.length cap _ hm' (Nat.le_refl _) hnc (.inr ⟨rfl, by simp⟩) (by simp) (by simp) (by omega)
          · cases hh
        · cases hh
      · cases hh
    · cases hh
  · cases hh

theorem now_keeps {call : CallV} {all : List Value} {h : AHeap} {r : Value} {h' : AHeap} (hh : pNow call all h = some (r, h')) : Keeps h h' := by
  unfold pNow at hh
  split at hh
  · cases hh; exact Keeps.refl _
  · split at hh
    · split at hh
      · split at hh
        · cases hh; exact Keeps.refl _
        · cases hh
      · split at hh
        · split at hh
          · cases hh; exact Keeps.refl _
          · cases hh
        · cases hh
      · cases hh
    · cases hh
  · cases hh
theorem from_keeps {call : CallV} {all : List Value} {h : AHeap} {r : Value} {h' : AHeap} (hl : h.low ≤ h.next) (hh : pFrom call all h = some (r, h')) : Keeps h h' := by
  unfold pFrom at hh
  split at hh
  · cases hh; exact Keeps.refl _
  · split at hh
    · split at hh
      · split at hh
        · cases hh; exact Keeps.refl _
        · cases hh
      · split at hh
        · split at hh
          · split at hh
            · cases hh; exact Keeps.refl _
            · cases hh; exact Keeps.ofAlloc hl _
          · cases hh
        · cases hh
      · cases hh
    · cases hh
  · cases hh
end Go.AM

/- yield's Bans: the iterator over those that are not over, in whatever order. -/
namespace Go.AM
open Go.Proofs Go.RowKit Go.Maps Go.Sort Go.Shelf

/-- A cell, and until when: numbers of their kinds. -/
abbrev PU := { x : Int × Int // (Lit.int .i64 x.1).wf = true ∧ (Lit.int .u64 x.2).wf = true }
/-- The pair's second is the map's value at its first. -/
def ValAtU {H : Type} (D0 : DataW H) (p : PU) : Prop := ∀ zd, D0.atKey (.int .i64 p.1.1) zd = .lit (.int .u64 p.1.2)
def AllOfU {H : Type} (D0 : DataW H) (ps : List PU) : Prop := (ps.map (·.1.1)).Perm (intKeys D0) ∧ ∀ p ∈ ps, ValAtU D0 p
abbrev encPU (x : PU) : Array Value := #[.int .i64 x.1.1, .int .u64 x.1.2]
abbrev onU (now : Int) (p : PU) : Bool := decide (now < p.1.2)
def isIter : Obj → Bool | .mapIter .. => true | _ => false
/-- What a body must keep: the map, iterators, and the box of the tick. -/
structure KeepB (b Bn : Nat) (W W' : World) : Prop where
  size : W.heap.size ≤ W'.heap.size
  map : ∀ o : Obj, W.heap[b]? = some o → o.isWalk = true → W'.heap[b]? = some o
  iter : ∀ (k : Nat) (o : Obj), W.heap[k]? = some o → isIter o = true → W'.heap[k]? = some o
  box : ∀ o : Obj, W.heap[Bn]? = some o → o.isCells = true → W'.heap[Bn]? = some o
theorem KeepB.trans {b Bn : Nat} {A B C : World} (h : KeepB b Bn A B) (k : KeepB b Bn B C) : KeepB b Bn A C :=
  ⟨Nat.le_trans h.size k.size, fun o e c => k.map o (h.map o e c) c, fun i o e c => k.iter i o (h.iter i o e c) c, fun o e c => k.box o (h.box o e c) c⟩
theorem iter_walk {o : Obj} (h : isIter o = true) : o.isWalk = true := by cases o <;> first | rfl | cases h
theorem iter_cells {o : Obj} (h : isIter o = true) : o.isCells = false := by cases o <;> first | rfl | cases h
theorem KeepB.putObj {b Bn : Nat} (W : World) (l : Nat) (o o' : Obj) (h : W.heap[l]? = some o) (hc : o.isCells = false) (hw : o.isWalk = false) : KeepB b Bn W (W.putObj l o') :=
  have ne : ∀ {k : Nat} {q : Obj}, W.heap[k]? = some q → q.isWalk = true ∨ q.isCells = true → k ≠ l := fun {k q} e c q' => by
    subst q'; rw [h] at e; cases e
    rcases c with c | c
    · rw [hw] at c; cases c
    · rw [hc] at c; cases c
  ⟨(KeepsWalks.putObj _ h hw).size, fun q e c => (World.putObj_heap_other (ne e (.inl c))).trans e, fun k q e c => (World.putObj_heap_other (ne e (.inl (iter_walk c)))).trans e, fun q e c => (World.putObj_heap_other (ne e (.inr c))).trans e⟩
theorem KeepB.of_others {b Bn : Nat} {W W' : World} (h : KeepsOthers W W') (hb : ∀ o : Obj, W.heap[Bn]? = some o → o.isCells = true → W'.heap[Bn]? = some o) : KeepB b Bn W W' :=
  ⟨h.size, fun o e c => h.same _ o e (Obj.not_cells_of_walk c), fun k o e c => h.same k o e (iter_cells c), hb⟩
theorem ranges_keepB {H : Type} {P : Program} {k : TypeId} {R : Value → Option (DataW H × List MemPlace)} {w w' : World} {b Bn r n : Nat} {D : DataW H} {left : Lit → Bool} {cnt : Nat}
    (h : w.ranges P k R b r n D left cnt) (hk : KeepB b Bn w w') : w'.ranges P k R b r n D left cnt := by
  obtain ⟨es, clock, since, seen, c0, hb, F, hs, hD, hr, rest⟩ := h
  exact ⟨es, clock, since, seen, c0, hk.map _ hb rfl, F, hs, hD, hk.iter r _ hr rfl, rest⟩

theorem scopeU {P : Program} {F : Fence} {n : Nat} {w : World} {c : Code} {Q : Exit → Act → World → Prop} {a : Act} (hc : c.wpIn F n P (Exit.noGoto Q) a w) : (Code.scope c).wpIn F n P Q a w := by
  intro b k cs hro hb hr
  have s1 : step P (lone (b.atR a (.code (.scope c) :: k)) cs w) = .next (lone (b.atR a (.code c :: .inScope c :: k)) cs w) := step_lone_go (by simp [stepG, stepG.exec, Frame.atR])
  have s2 : ∀ (a : Act) (w : World), step P (lone (b.atR a (.inScope c :: k)) cs w) = .next (lone (b.atR a k) cs w) := fun a w => step_lone_go (by simp [stepG, stepG.exec, Frame.atR])
  have h0 : (lone (b.atR a (.code (.scope c) :: k)) cs w).fenced P F := fenced_calm hb hr rfl
  obtain ⟨e, a₁, w₁, hq, harr⟩ := hc b (.inScope c :: k) cs hro hb hr
  cases e with
  | normal => exact ⟨.normal, a₁, w₁, hq, .head h0 s1 (StepsIn.trans harr (.one (fenced_calm (fr := b.atR a₁ (.inScope c :: k)) hb hr rfl) (s2 a₁ w₁)))⟩
  | exit id =>
    refine ⟨.exit id, a₁, w₁, hq, fun k' hk => .head h0 s1 (harr.1 k' (by simp [exitTo, hk])), fun hrd hk => ?_⟩
    obtain ⟨k₁, g1, g2⟩ := harr.2 hrd (by simp [exitTo, hk])
    exact ⟨k₁, g1, .head h0 s1 g2⟩
  | goto l => exact hq.elim
  | ret => exact ⟨.ret, a₁, w₁, hq, .of_steps (.one h0 s1) ⟨harr.1, harr.2⟩⟩
  | panic ch => exact ⟨.panic ch, a₁, w₁, hq, .of_steps (.one h0 s1) (show ArrivesIn _ P _ b k cs (.panic ch) a₁ w₁ from harr)⟩
  | outgrown => exact ⟨.outgrown, a₁, w₁, hq, .of_steps (.one h0 s1) (show ArrivesIn _ P _ b k cs .outgrown a₁ w₁ from harr)⟩

set_option maxRecDepth 100000 in
set_option maxHeartbeats 4000000 in
theorem all1U_in {H : Type} (F : Fence) (n : Nat) (hf : F.fn 76) (hro : F.round = none) (hn : 1 ≤ n) (l Bb Bn pb po b nn : Nat) (now : Int) (tn : TypeId) (frn : Nat × Nat) (D0 : DataW H) (J Jx : List PU → World → Prop)
    (hY : ∀ pre x W, J pre W → pre.length < Maps.size D0 → YieldAt F (n - 1) Try.prog l (encPU x) W fun e W' =>
      (e = .returned (.bool true) ∧ J (pre ++ [x]) W' ∧ KeepB b Bn W W') ∨ (e = .returned (.bool false) ∧ Jx (pre ++ [x]) W'))
    (W : World) (hJ : AbidesFrom W.heap.size J) (hb : W.cell? ⟨Bb, 0, none⟩ = some (.pointer (some ⟨pb, po, none⟩))) (hm : W.cell? ⟨pb, po, none⟩ = some (.map (some b))) (hnow : W.heap[Bn]? = some (.cells #[.int .u64 now] tn frn))
    (hown : W.ownsMap Try.prog 3 (plainElem Try.prog 29) b nn D0) (h0 : J [] W) :
    CallsIn F n Try.prog 76 #[.func (.yield l) #[] #[], .pointer (some ⟨Bb, 0, none⟩), .pointer (some ⟨Bn, 0, none⟩)] W fun e W' => (∃ v, e = .returned v) ∧
      ((∃ xs, (∃ ps, AllOfU D0 ps ∧ xs = ps.filter (onU now)) ∧ J xs W') ∨ (∃ pre, True ∧ Jx pre W')) := by
  have hK := int_keyed Try.underlying3
  refine callsIn_of_wp Try.func76 rfl hf ?_ hro
  simp only [Try.ntmps76, List.size_toArray, List.length_cons, List.length_nil, Nat.reduceAdd, Nat.reduceSub, Array.replicate_succ, Array.replicate_zero, List.push_toArray, List.append_toArray, List.nil_append, List.cons_append]
  refine scopeU ?_
  gi_wp2
  refine wpIn_label ?_
  gi_wp2_with (first
    | (gi_at_range; refine wpListIn_range_own _ rfl _ 56 rfl 3 29 hK Try.underlying56 _ b nn _ rfl hown ?_; intro w0 hrg0 hg0 hs0)
    | gi_in)
  go_frame
  gi_loopw [4, 5] (fun _ _ wr => ∃ (left : Lit → Bool) (cnt : Nat) (ps : List PU), wr.ranges Try.prog 3 (plainElem Try.prog 29) b W.heap.size nn D0 left cnt ∧ ps.length + cnt ≤ Maps.size D0 ∧ CollectedI D0 left (ps.map (·.1.1)) ∧ (∀ p ∈ ps, ValAtU D0 p) ∧ J (ps.filter (onU now)) wr ∧ wr.heap[Bn]? = some (.cells #[.int .u64 now] tn frn))
    (fun _ _ wr => wr.rangeLeft b W.heap.size)
  case atStart =>
    exact ⟨_, _, [], hrg0, by simp, CollectedI.start D0, by simp, hJ [] W w0 none h0 hg0 (fun r e => by cases e), (hg0.block Bn (Array.getElem?_eq_some_iff.1 hnow).1 (by simp)).trans hnow⟩
  case round =>
    obtain ⟨left, cnt, ps, hrg, hcs, hC, hV, hJs, hnr⟩ := hrel
    have hnc : wr.cell? ⟨Bn, 0, none⟩ = some (.int .u64 now) := by simp [World.cell?, hnr]
    gi_wp2_with (first
      | (gi_at_next; refine wpListIn_next_ranges _ rfl _ rfl 3 hK (plainElem Try.prog 29) encZ (Value.int .u64) (fun key kl hk => by obtain ⟨x, hx, _⟩ := Maps.keyOf_i64 Try.underlying3 hk; exact ⟨x, hx⟩) (fun v y hv => by obtain ⟨c, rfl, _⟩ := plainElem_int_inv Try.underlying29 hv; exact ⟨c, rfl⟩) b W.heap.size nn _ _ _ rfl hrg ?_ ?_)
      | gi_in)
    · intro hc0 hl0
      gi_wp2
      rw [Exit.noGoto_normal]
      go_end0
      exact ⟨⟨_, rfl⟩, .inl ⟨_, ⟨ps, ⟨hC.perm hown hK Try.underlying3 hl0, hV⟩, rfl⟩, hJs⟩⟩
    · intro x c kl yd yp w2 cnt2 hkey hlk hv hat hrg2 hlt hg2 hs2 hen
      obtain ⟨x', ex, rfl, hxw⟩ := Maps.keyOf_i64 Try.underlying3 hkey
      obtain rfl : x = x' := encZ_inj ex
      obtain ⟨c', ec, ez, hcw⟩ := plainElem_int_inv Try.underlying29 hv
      obtain rfl : c = c' := by simpa using ec
      obtain rfl : yd = .lit (.int .u64 c) := (Prod.mk.inj ez).1
      have hJ2 : J _ w2 := hJ _ wr w2 (some W.heap.size) hJs hg2 (fun r e => by cases e; exact ⟨Nat.le_refl _, hrg.iter_walk⟩)
      have hn2 : w2.heap[Bn]? = some (.cells #[.int .u64 now] tn frn) := (grownBy_keeps hg2 (fun r e => by cases e; exact hrg.iter_walk) hnr rfl).trans hnr
      have hnc2 : w2.cell? ⟨Bn, 0, none⟩ = some (.int .u64 now) := by simp [World.cell?, hn2]
      obtain ⟨q, hq⟩ : ∃ q : PU, q.1 = (x, c) := ⟨⟨(x, c), hxw, hcw⟩, rfl⟩
      have hC2 : CollectedI D0 (fun z => left z && !z.sameKey (.int .i64 x)) ((ps ++ [q]).map (·.1.1)) := by simpa [hq] using hC.step hlk hat
      have hV2 : ∀ p ∈ ps ++ [q], ValAtU D0 p := fun p hp => (List.mem_append.1 hp).elim (hV p) (fun e => by simp at e; subst e; simp only [ValAtU, hq]; exact hat)
      clear hs2
      by_cases hcn : c ≤ now
      · have hf2 : (ps ++ [q]).filter (onU now) = ps.filter (onU now) := by
          rw [List.filter_append]; simp [onU, hq]; omega
        have dcn : decide (c ≤ now) = true := decide_eq_true hcn
        gi_wp2
        exact ⟨⟨_, cnt2, ps ++ [q], hrg2, by simp; omega, hC2, hV2, by rw [hf2]; exact hJ2, hn2⟩, by rw [hrg2.left_eq, hrg.left_eq]; exact hlt⟩
      · have hf2 : (ps ++ [q]).filter (onU now) = ps.filter (onU now) ++ [q] := by
          rw [List.filter_append]; simp [onU, hq]; omega
        have dcn : decide (c ≤ now) = false := decide_eq_false hcn
        have hpl : (ps.filter (onU now)).length < Maps.size D0 := by
          have := List.length_filter_le (onU now) ps
          omega
        obtain ⟨fn, tmps, assign, body, hy, hR⟩ := hY _ q w2 hJ2 hpl
        simp only [encPU, hq] at hy
        gi_wp2
        refine hR.mono ?_
        rintro e W3 (⟨rfl, hJ3, hk3⟩ | ⟨rfl, hJx3⟩)
        · gi_wp2
          have hrg3 := ranges_keepB hrg2 hk3
          have hn3 : W3.heap[Bn]? = some (.cells #[.int .u64 now] tn frn) := hk3.box _ hn2 rfl
          exact ⟨⟨_, cnt2, ps ++ [q], hrg3, by simp; omega, hC2, hV2, by rw [hf2]; exact hJ3, hn3⟩, by rw [hrg3.left_eq, hrg.left_eq]; exact hlt⟩
        · gi_wp2
          rw [Exit.noGoto_ret]
          refine bodyPost_ret (results_none rfl _ _ _) rfl ?_
          exact ⟨⟨_, rfl⟩, .inr ⟨_, trivial, hJx3⟩⟩

set_option maxRecDepth 100000 in
set_option maxHeartbeats 4000000 in
theorem all1U_nil (F : Fence) (n : Nat) (hf : F.fn 76) (hro : F.round = none) (l Bb Bn pb po : Nat) (J Jx : List PU → World → Prop)
    (W : World) (hJ : AbidesFrom W.heap.size J) (hb : W.cell? ⟨Bb, 0, none⟩ = some (.pointer (some ⟨pb, po, none⟩))) (hm : W.cell? ⟨pb, po, none⟩ = some (.map none)) (h0 : J [] W) :
    CallsIn F n Try.prog 76 #[.func (.yield l) #[] #[], .pointer (some ⟨Bb, 0, none⟩), .pointer (some ⟨Bn, 0, none⟩)] W fun e W' => (∃ v, e = .returned v) ∧
      ((∃ xs, xs = [] ∧ J xs W') ∨ (∃ pre, True ∧ Jx pre W')) := by
  have hrg := run_range_nilMap (P := Try.prog) W 56 3 29 Try.underlying56
  have hnx : ∀ ty, (Instr.next (.pointer (some ⟨W.heap.size, 0, none⟩)) false ty).run Try.prog (W.alloc (.mapIter none 0 #[] 0)) = _ := fun ty => run_next_nilMap _ ty 0 0 #[]
  refine callsIn_of_wp Try.func76 rfl hf ?_ hro
  simp only [Try.ntmps76, List.size_toArray, List.length_cons, List.length_nil, Nat.reduceAdd, Nat.reduceSub, Array.replicate_succ, Array.replicate_zero, List.push_toArray, List.append_toArray, List.nil_append, List.cons_append]
  refine scopeU ?_
  gi_wp2
  refine wpIn_label ?_
  gi_wp2
  refine wpIn_loop_rounds 1 ?_
  rw [roundsIn_succ]
  gi_wp2
  rw [Exit.noGoto_normal]
  go_end0
  exact ⟨⟨_, rfl⟩, .inl ⟨[], rfl, hJ [] W _ none h0 (World.grownBy_alloc W _ none) (fun r e => by cases e)⟩⟩

/-- It hands back, of the map, those that are not over, in some order. -/
theorem allU_stops {H : Type} (F : Fence) (n : Nat) (hf : F.fn 76) (hro : F.round = none) (hn : 1 ≤ n) (Bb Bn pb po b nn : Nat) (now : Int) (tn : TypeId) (frn : Nat × Nat) (D0 : DataW H) (w : World)
    (lb : Bb < w.heap.size) (lp : pb < w.heap.size) (hb : w.cell? ⟨Bb, 0, none⟩ = some (.pointer (some ⟨pb, po, none⟩))) (hm : w.cell? ⟨pb, po, none⟩ = some (.map (some b))) (hnow : w.heap[Bn]? = some (.cells #[.int .u64 now] tn frn))
    (hown : w.ownsMap Try.prog 3 (plainElem Try.prog 29) b nn D0) :
    SeqStopsK F n Try.prog 76 #[.pointer (some ⟨Bb, 0, none⟩), .pointer (some ⟨Bn, 0, none⟩)] encPU (KeepB b Bn) (fun xs => ∃ ps, AllOfU D0 ps ∧ xs = ps.filter (onU now)) (fun _ => True) (Maps.size D0) w := fun l J Jx W hW hJ _ hY h0 => by
  have hown' : W.ownsMap Try.prog 3 (plainElem Try.prog 29) b nn D0 := by
    have hbl := hown.lt
    obtain ⟨es, clock, hb, Ft, hs, hD⟩ := hown
    exact ⟨es, clock, (hW.block b hbl).trans hb, Ft, hs, hD⟩
  have hln : Bn < w.heap.size := (Array.getElem?_eq_some_iff.1 hnow).1
  exact all1U_in F n hf hro hn l Bb Bn pb po b nn now tn frn D0 J Jx hY W hJ ((hW.cell (p := ⟨Bb, 0, none⟩) lb).trans hb) ((hW.cell (p := ⟨pb, po, none⟩) lp).trans hm) ((hW.block Bn hln).trans hnow) hown' h0
theorem allU_stopsNil (F : Fence) (n : Nat) (hf : F.fn 76) (hro : F.round = none) (Bb Bn pb po b : Nat) (w : World)
    (lb : Bb < w.heap.size) (lp : pb < w.heap.size) (hb : w.cell? ⟨Bb, 0, none⟩ = some (.pointer (some ⟨pb, po, none⟩))) (hm : w.cell? ⟨pb, po, none⟩ = some (.map none)) :
    SeqStopsK F n Try.prog 76 #[.pointer (some ⟨Bb, 0, none⟩), .pointer (some ⟨Bn, 0, none⟩)] encPU (KeepB b Bn) (fun xs => xs = []) (fun _ => True) 0 w := fun l J Jx W hW hJ _ _ h0 =>
  all1U_nil F n hf hro l Bb Bn pb po J Jx W hJ ((hW.cell (p := ⟨Bb, 0, none⟩) lb).trans hb) ((hW.cell (p := ⟨pb, po, none⟩) lp).trans hm) h0

set_option maxHeartbeats 1000000 in
/-- all: both are boxed; the function value captures the boxes. -/
theorem allU_in (F : Fence) (n : Nat) (hf : F.fn 65) (hro : F.round = none) (p : Option Addr) (now : Int) (w : World) :
    CallsIn F n Try.prog 65 #[.pointer p, .int .u64 now] w fun e w' => e = .returned (.func (.func 76) #[] #[.pointer (some ⟨w.heap.size, 0, none⟩), .pointer (some ⟨w.heap.size + 1, 0, none⟩)]) ∧
      w' = (w.alloc (.cells #[.pointer p] 55)).alloc (.cells #[.int .u64 now] 29) := by
  refine callsIn_of_wp Try.func65 rfl hf ?_ hro
  simp only [Try.ntmps65, List.size_toArray, List.length_cons, List.length_nil, Nat.reduceAdd, Nat.reduceSub, Array.replicate_succ, Array.replicate_zero, List.push_toArray, List.append_toArray, List.nil_append, List.cons_append]
  gi_wp2
  go_ret
  exact ⟨rfl, rfl⟩
end Go.AM

/- yield's Bans: Banned. -/
namespace Go.AM
open Go.Proofs Go.RowKit Go.Maps Go.Sort Go.Shelf

theorem info_int : (Try.prog.info? 3).map (fun i => (i.zero, i.size, i.bytes)) = some (some (.int .i64 0), 1, 8) := by kernel_rfl
abbrev keysU (xs : List PU) : List Int := xs.map (·.1.1)

set_option maxRecDepth 100000 in
set_option maxHeartbeats 4000000 in
theorem banned_in (F : Fence) (n : Nat) (h3 : F.fn 33) (h4 : F.fn 65) (h5 : F.fn 76) (h9 : F.fn 67) (hro : F.round = none) (hn : 4 ≤ n) (hsort : AnyZI.SortsIn Try.prog Try.sortedA_ren F (n - 1)) (p : Option Addr) (now : Int) (b : Nat) (w w2 : World) (S : List PU → Prop) (N : Nat) (hN : N ≤ 1099511627776) (hSN : ∀ xs, S xs → xs.length ≤ N)
    (hw2 : ((w.alloc (.cells #[.slice none 0 0] 22)).alloc (.cells #[.pointer p] 55)).alloc (.cells #[.int .u64 now] 29) = w2)
    (hseq : SeqStopsK F (n - 1) Try.prog 76 #[.pointer (some ⟨w.heap.size + 1, 0, none⟩), .pointer (some ⟨w.heap.size + 1 + 1, 0, none⟩)] encPU (KeepB b (w.heap.size + 1 + 1)) S (fun _ => True) N w2) :
    CallsIn F n Try.prog 33 #[.pointer p, .int .u64 now] w fun e W' => ∃ (v : Value) (xs : List PU), e = .returned v ∧ S xs ∧
      W'.ownsRow w.heap.size 3 1 v xs.length (((keysU xs).mergeSort (fun x y => decide (x ≤ y))).map encZ) ∧ (v = .slice none 0 0 ↔ xs = []) ∧ Below w.heap.size w W' := by
  have h1 : 1 ≤ n := by omega
  obtain ⟨i0, hi, hz0, hz1, hz2⟩ := info_parts info_int
  refine callsIn_of_wp_marks Try.func33 rfl h3 ?_ hro
  simp only [Try.ntmps33, List.size_toArray, List.length_cons, List.length_nil, Nat.reduceAdd, Nat.reduceSub, Array.replicate_succ, Array.replicate_zero, List.push_toArray, List.append_toArray, List.nil_append, List.cons_append]
  gi_wp2_with (gi_at_call 65; refine (allU_in F (n - 1) h4 hro _ _ _).mono ?_; rintro e w' ⟨rfl, rfl⟩)
  have bO := ((Boxed.new w 22 (.slice none 0 0)).alloc (.cells #[.pointer p] 55)).alloc (.cells #[.int .u64 now] 29)
  have bN := Boxed.new ((w.alloc (.cells #[.slice none 0 0] 22)).alloc (.cells #[.pointer p] 55)) 29 (.int .u64 now)
  simp only [World.size_alloc] at bN
  have hB0 : Below w.heap.size w (((w.alloc (.cells #[.slice none 0 0] 22)).alloc (.cells #[.pointer p] 55)).alloc (.cells #[.int .u64 now] 29)) := (((Below.refl _ w).alloc (Nat.le_refl _) _).alloc (by simp) _).alloc (by simp; omega) _
  rw [hw2] at bO bN hB0
  have hs2 : w2.heap.size = w.heap.size + 3 := by rw [← hw2]; simp
  try simp only [World.size_alloc]
  try rw [hw2]
  refine wpIn_rangeFunc_ownG hro h1 (gf := 76) (lb := #[.pointer (some ⟨w.heap.size + 1, 0, none⟩), .pointer (some ⟨w.heap.size + 1 + 1, 0, none⟩)]) rfl h5 (enters_of Try.func76 (by kernel_rfl) rfl)
    hseq KeepB.trans (fun W l o o' _ h hc hw => KeepB.putObj W l o o' h hc hw) (Below.refl _ _) (fun _ => rfl)
    (fun pre W => ((∃ v, Boxed W w.heap.size 22 v ∧ W.ownsRow w.heap.size 3 1 v pre.length ((keysU pre).map encZ) ∧ (v = .slice none 0 0 ↔ pre = [])) ∧ Boxed W (w.heap.size + 1 + 1) 29 (.int .u64 now)) ∧ Below w.heap.size w W)
    (fun _ _ _ => False)
    (OwnFrom.and (OwnFrom.and (Own.from (holdsRow_own w.heap.size w.heap.size 22 3 1 (fun pre : List PU => pre.length) (fun pre => (keysU pre).map encZ) (fun pre v => v = .slice none 0 0 ↔ pre = [])) _) (fun s X Y row hv hg hrow => hv.kept hg (fun e => by obtain ⟨_, o, ho, hc⟩ := hrow _ e.symm; rw [show X.heap[_]? = _ from hv] at ho; cases ho; cases hc))) (ownFrom_below (Nat.le_refl _) (by omega)))
    (fun _ _ _ _ _ hs _ _ => hs)
    ⟨⟨⟨_, bO, World.ownsRow_nil _ _ _ _, by simp⟩, bN⟩, hB0⟩
    (fun x => { tmps := #[.pointer p, .int .u64 now, undef, undef, .slice none 0 0, .pointer (some ⟨w.heap.size, 0, none⟩), .int .i64 x.1.1, .pointer p, .int .u64 now, .func (.func 76) #[] #[.pointer (some ⟨w.heap.size + 1, 0, none⟩), .pointer (some ⟨w.heap.size + 1 + 1, 0, none⟩)], .int .i64 x.1.1, .int .u64 x.1.2, undef, undef, undef, undef, undef, undef, undef], defers := [] }) ?assign ?body ?done ?stop
  case assign =>
    intro l x W K hK
    gi_wp2_with (rw [Oper.semAt_eq _ _ _ (fun c h => by cases h)]; go_simp; try go_bits)
    exact hK
  case body =>
    rintro l pre x W ⟨⟨⟨v, hv, hrow, hnil⟩, hN0⟩, hB⟩ hlt
    have hc := hv.cell
    gi_wp2_with (first | (gi_at_builtin; refine wpListIn_append_own _ rfl _ _ 22 rfl w.heap.size 3 i0 (.int .i64 0) 1 8 Try.underlying22 hi hz0 hz1 hz2 rfl (by decide) _ _ _ rfl (hrow.alloc _) ⟨W.heap.size, 0, none⟩ 1 1 [.int .i64 x.1.1] rfl rfl (cell_one_new _ _ _) (by simp [Value.oneCell']) (by unfold maxLen; omega) (by omega) (by have := hB.size; simp; omega) ?_; intro v' w1 hown' hgrow _; obtain ⟨g', cap', rfl⟩ := ownsRow_succ hown'; obtain ⟨hv1, hv2, hr2, hk2, hb2⟩ := hv.appended (by decide) hrow hB.size (Nat.le_refl _) hown' hgrow; have hc1 := hv1.cell; have hf1 := hv1.frozen; have hN1 := (hN0.alloc (.cells #[.int .i64 x.1.1] 3)).kept hgrow (hN0.not_row (by decide) hrow)) | (rw [Oper.semAt_eq _ _ _ (fun c h => by cases h)]; go_simp; try go_bits))
    have hN2 := hN1.kept (grownBy_setCell' w1 w.heap.size (.slice (some ⟨g', 0, none⟩) (pre.length + 1) cap')) (fun e => by have := Option.some.inj e; omega)
    refine ⟨hk2.from _, KeepB.of_others hk2 (fun o e _ => ?_), ⟨⟨_, hv2, ?_, by simp⟩, hN2⟩, hB.trans hb2⟩
    · rw [show W.heap[_]? = _ from hN0] at e; cases e; exact hN2
    · simpa using hr2
  case done =>
    rintro D xs W hD hS ⟨⟨⟨v, hv, hrow, hnil⟩, hN0⟩, hB⟩ hK
    have hc := hv.cell
    have hDl : D < W.heap.size := (Array.getElem?_eq_some_iff.1 hK).1
    have hkl : (keysU xs).length = xs.length := by simp
    have hxN : xs.length ≤ N := hSN xs hS
    rcases hrow.2 with ⟨rfl, hz⟩ | ⟨gb, cap, cur, rfl, hbase, hgb, r1, r2, r3, r4⟩
    · have hxs : xs = [] := List.eq_nil_of_length_eq_zero hz
      subst hxs
      gi_wp2_with (gi_at_call 67; refine (hsort.2 none 0 W).mono ?_; rintro e w' ⟨rfl, hw'⟩; rw [hw']; clear hw')
      refine ⟨by simp, .inl ⟨_, _, rfl, run_takeDeferred hK, ?_⟩⟩
      exact ⟨_, results_tmp rfl _ _ _, .slice none 0 0, [], rfl, hS, by simpa using ownsRow_putObj hrow _ hK rfl, by simp, hB.trans (belowK_b (w := w) (Nat.le_refl _) W D _ _ (by omega) hK rfl rfl)⟩
    · have hH : Holds encZ W gb 0 (keysU xs).toArray := holds_of_block_i hgb (by simpa using r4)
      have hgl : gb < W.heap.size := (Array.getElem?_eq_some_iff.1 hgb).1
      have cS := hsort.1 gb 0 cap (keysU xs) W hH hgl (by omega)
      rw [hkl] at cS
      have hDg : D ≠ gb := fun e => by rw [e, hgb] at hK; cases hK
      gi_wp2_with (gi_at_call 67; refine cS.mono ?_; rintro e w' ⟨rfl, nn, os, rfl⟩; obtain ⟨W5, hW5⟩ : ∃ W5, grow (putRow encZ (Sort.ahead W nn) gb 0 ((keysU xs).mergeSort fun x y => decide (x ≤ y)).toArray) os = W5 := ⟨_, rfl⟩; have hg5 : W.grownBy W5 (some gb) := (by rw [← hW5]; exact grownBy_sorted_i _); have hrow5 : W5.ownsRow w.heap.size 3 1 (.slice (some ⟨gb, 0, none⟩) xs.length cap) xs.length (((keysU xs).mergeSort (fun x y => decide (x ≤ y))).map encZ) := (by rw [← hW5, ← hkl]; exact ownsRow_sorted_i (by simp) hbase hgb (by rw [hkl]; exact r1) r2 r3); rw [hW5]; clear hW5; have hv5 := hv.kept hg5 (hv.not_row (by decide) hrow); have hc5 := hv5.cell)
      have hK5 : W5.heap[D]? = some (.deferred (some [])) := (hg5.block D hDl (fun e => hDg (Option.some.inj e))).trans hK
      have hB5 : Below w.heap.size w W5 := hB.grown hg5 hB.size (fun k e => by cases e; exact hbase)
      refine ⟨by simp, .inl ⟨_, _, rfl, run_takeDeferred hK5, ?_⟩⟩
      exact ⟨_, results_tmp rfl _ _ _, .slice (some ⟨gb, 0, none⟩) xs.length cap, xs, rfl, hS, ownsRow_putObj hrow5 _ hK5 rfl, hnil, hB5.trans (belowK_b (w := w) (Nat.le_refl _) W5 D _ _ (by omega) hK5 rfl rfl)⟩
  case stop =>
    rintro D c pre W _ _ h _
    exact h.elim
end Go.AM

/- yield's Bans: Next. -/
namespace Go.AM
open Go.Proofs Go.RowKit Go.Maps Go.Sort Go.Shelf

def nxtU (xs : List PU) : Int × Bool := xs.foldl (fun a x => if a.2 = false ∨ x.1.2 < a.1 then (x.1.2, true) else a) (0, false)
theorem nxtU_snoc (xs : List PU) (x : PU) : nxtU (xs ++ [x]) = if (nxtU xs).2 = false ∨ x.1.2 < (nxtU xs).1 then (x.1.2, true) else nxtU xs := by unfold nxtU; rw [List.foldl_append]; rfl

set_option maxRecDepth 100000 in
set_option maxHeartbeats 4000000 in
theorem next_in (F : Fence) (n : Nat) (h3 : F.fn 36) (h4 : F.fn 65) (h5 : F.fn 76) (hro : F.round = none) (hn : 4 ≤ n) (p : Option Addr) (now : Int) (b : Nat) (w : World) (S : List PU → Prop) (N : Nat)
    (hseq : ∀ w2, Below w.heap.size w w2 → w2.heap[w.heap.size + 1 + 1]? = some (.cells #[.pointer p] 55 (0, 0)) → w2.heap[w.heap.size + 1 + 1 + 1]? = some (.cells #[.int .u64 now] 29 (0, 0)) →
      SeqStopsK F (n - 1) Try.prog 76 #[.pointer (some ⟨w.heap.size + 1 + 1, 0, none⟩), .pointer (some ⟨w.heap.size + 1 + 1 + 1, 0, none⟩)] encPU (KeepB b (w.heap.size + 1 + 1 + 1)) S (fun _ => True) N w2) :
    CallsIn F n Try.prog 36 #[.pointer p, .int .u64 now] w fun e W' => ∃ (xs : List PU), e = .returned (.tuple #[.int .u64 (nxtU xs).1, .bool (nxtU xs).2]) ∧ S xs ∧ Below w.heap.size w W' := by
  have h1 : 1 ≤ n := by omega
  refine callsIn_of_wp_marks Try.func36 rfl h3 ?_ hro
  simp only [Try.ntmps36, List.size_toArray, List.length_cons, List.length_nil, Nat.reduceAdd, Nat.reduceSub, Array.replicate_succ, Array.replicate_zero, List.push_toArray, List.append_toArray, List.nil_append, List.cons_append]
  gi_wp2_with (gi_at_call 65; refine (allU_in F (n - 1) h4 hro _ _ _).mono ?_; rintro e w' ⟨rfl, rfl⟩)
  obtain ⟨w2, hw2⟩ : ∃ w2, (((w.alloc (.cells #[.int .u64 0] 29)).alloc (.cells #[.bool false] 4)).alloc (.cells #[.pointer p] 55)).alloc (.cells #[.int .u64 now] 29) = w2 := ⟨_, rfl⟩
  have b6 := (((Boxed.new w 29 (.int .u64 0)).alloc (.cells #[.bool false] 4)).alloc (.cells #[.pointer p] 55)).alloc (.cells #[.int .u64 now] 29)
  have b7 := ((Boxed.new (w.alloc (.cells #[.int .u64 0] 29)) 4 (.bool false)).alloc (.cells #[.pointer p] 55)).alloc (.cells #[.int .u64 now] 29)
  have bP := (Boxed.new ((w.alloc (.cells #[.int .u64 0] 29)).alloc (.cells #[.bool false] 4)) 55 (.pointer p)).alloc (.cells #[.int .u64 now] 29)
  have bN := Boxed.new (((w.alloc (.cells #[.int .u64 0] 29)).alloc (.cells #[.bool false] 4)).alloc (.cells #[.pointer p] 55)) 29 (.int .u64 now)
  have hB0 : Below w.heap.size w ((((w.alloc (.cells #[.int .u64 0] 29)).alloc (.cells #[.bool false] 4)).alloc (.cells #[.pointer p] 55)).alloc (.cells #[.int .u64 now] 29)) := ((((Below.refl _ w).alloc (Nat.le_refl _) _).alloc (by simp) _).alloc (by simp; omega) _).alloc (by simp; omega) _
  simp only [World.size_alloc] at b7 bP bN
  rw [hw2] at b6 b7 bP bN hB0
  have hs2 : w2.heap.size = w.heap.size + 4 := by rw [← hw2]; simp
  rw [hw2]
  clear hw2
  have keep : ∀ (W : World) (B : Nat) (u : Value) (t : TypeId) (v : Value), Boxed W (w.heap.size + 1 + 1 + 1) 29 (.int .u64 now) → Boxed W B t v → B ≠ w.heap.size + 1 + 1 + 1 → KeepB b (w.heap.size + 1 + 1 + 1) W (W.setCell ⟨B, 0, none⟩ u) := fun W B u t v hN hb hne =>
    KeepB.of_others (KeepsOthers.setCell _ _ _) (fun o e _ => by rw [show W.heap[_]? = _ from hN] at e; cases e; exact hN.other (fun e => hne e.symm) u)
  refine wpIn_rangeFunc_ownG hro h1 (gf := 76) (lb := #[.pointer (some ⟨w.heap.size + 1 + 1, 0, none⟩), .pointer (some ⟨w.heap.size + 1 + 1 + 1, 0, none⟩)]) rfl h5 (enters_of Try.func76 (by kernel_rfl) rfl)
    (hseq w2 hB0 bP bN) KeepB.trans (fun W l o o' _ h hc hw => KeepB.putObj W l o o' h hc hw) (Below.refl _ _) (fun _ => rfl)
    (fun pre W => (Boxed W w.heap.size 29 (.int .u64 (nxtU pre).1) ∧ Boxed W (w.heap.size + 1) 4 (.bool (nxtU pre).2) ∧ Boxed W (w.heap.size + 1 + 1 + 1) 29 (.int .u64 now)) ∧ Below w.heap.size w W)
    (fun _ _ _ => False)
    (OwnFrom.and (fun s X Y row h hg hrow =>
      have k : ∀ {B : Nat} {t : TypeId} {v : Value}, Boxed X B t v → Boxed Y B t v := fun {B t v} hv => hv.kept hg (fun e => by obtain ⟨_, o, ho, hc⟩ := hrow _ e.symm; rw [show X.heap[_]? = _ from hv] at ho; cases ho; cases hc)
      ⟨k h.1, k h.2.1, k h.2.2⟩) (ownFrom_below (Nat.le_refl _) (by omega)))
    (fun _ _ _ _ _ hs _ _ => hs)
    ⟨⟨b6, b7, bN⟩, hB0⟩
    (fun x => { tmps := #[.pointer p, .int .u64 now, undef, undef, .int .u64 0, .bool false, .pointer (some ⟨w.heap.size, 0, none⟩), .pointer (some ⟨w.heap.size + 1, 0, none⟩), undef, .int .u64 x.1.2, .pointer p, .int .u64 now, .func (.func 76) #[] #[.pointer (some ⟨w.heap.size + 1 + 1, 0, none⟩), .pointer (some ⟨w.heap.size + 1 + 1 + 1, 0, none⟩)], .int .i64 x.1.1, .int .u64 x.1.2, undef, undef, undef, undef, undef, undef, undef, undef, undef, undef], defers := [] }) ?assign ?body ?done ?stop
  case assign =>
    intro l x W K hK
    gi_wp2_with (rw [Oper.semAt_eq _ _ _ (fun c h => by cases h)]; go_simp; try go_bits)
    exact hK
  case body =>
    rintro l pre x W ⟨⟨h6, h7, hN⟩, hB⟩ hlt
    have hsn := nxtU_snoc pre x
    have store : KeepB b (w.heap.size + 1 + 1 + 1) W ((W.setCell ⟨w.heap.size, 0, none⟩ (.int .u64 x.1.2)).setCell ⟨w.heap.size + 1, 0, none⟩ (.bool true)) ∧ KeepsOthers W ((W.setCell ⟨w.heap.size, 0, none⟩ (.int .u64 x.1.2)).setCell ⟨w.heap.size + 1, 0, none⟩ (.bool true)) ∧
        Boxed ((W.setCell ⟨w.heap.size, 0, none⟩ (.int .u64 x.1.2)).setCell ⟨w.heap.size + 1, 0, none⟩ (.bool true)) w.heap.size 29 (.int .u64 x.1.2) ∧ Boxed ((W.setCell ⟨w.heap.size, 0, none⟩ (.int .u64 x.1.2)).setCell ⟨w.heap.size + 1, 0, none⟩ (.bool true)) (w.heap.size + 1) 4 (.bool true) ∧
        Boxed ((W.setCell ⟨w.heap.size, 0, none⟩ (.int .u64 x.1.2)).setCell ⟨w.heap.size + 1, 0, none⟩ (.bool true)) (w.heap.size + 1 + 1 + 1) 29 (.int .u64 now) ∧ Below w.heap.size w ((W.setCell ⟨w.heap.size, 0, none⟩ (.int .u64 x.1.2)).setCell ⟨w.heap.size + 1, 0, none⟩ (.bool true)) := by
      have a6 := h6.set (.int .u64 x.1.2)
      have a7 := h7.other (B' := w.heap.size) (by omega) (.int .u64 x.1.2)
      have aN := hN.other (B' := w.heap.size) (by omega) (.int .u64 x.1.2)
      exact ⟨(keep W w.heap.size _ _ _ hN h6 (by omega)).trans (keep _ (w.heap.size + 1) _ _ _ aN a7 (by omega)), (KeepsOthers.setCell _ _ _).trans (KeepsOthers.setCell _ _ _), a6.other (by omega) _, a7.set _, aN.other (by omega) _, (hB.setCell (p := ⟨w.heap.size, 0, none⟩) (Nat.le_refl _) _).setCell (p := ⟨w.heap.size + 1, 0, none⟩) (by simp) _⟩
    generalize hnx : nxtU pre = a at h6 h7 hsn
    obtain ⟨m, is⟩ := a
    simp only at h6 h7 hsn
    have hc6 := h6.cell
    have hf6 := h6.frozen
    have hc7 := h7.cell
    have hf7 := h7.frozen
    have hc7' := (h7.other (B' := w.heap.size) (by omega) (.int .u64 x.1.2)).cell
    have hf7' := (h7.other (B' := w.heap.size) (by omega) (.int .u64 x.1.2)).frozen
    obtain ⟨s1, s2, s3, s4, s5, s6⟩ := store
    cases is with
    | false =>
      gi_wp2_with (rw [Oper.semAt_eq _ _ _ (fun c h => by cases h)]; go_simp; try go_bits)
      have e : nxtU (pre ++ [x]) = (x.1.2, true) := by rw [hsn]; simp
      exact ⟨s2.from _, s1, ⟨by rw [e]; exact s3, by rw [e]; exact s4, s5⟩, s6⟩
    | true =>
      by_cases hx : x.1.2 < m
      · have dx : decide (x.1.2 < m) = true := decide_eq_true hx
        gi_wp2_with (rw [Oper.semAt_eq _ _ _ (fun c h => by cases h)]; go_simp; try go_bits)
        have e : nxtU (pre ++ [x]) = (x.1.2, true) := by rw [hsn]; simp [hx]
        exact ⟨s2.from _, s1, ⟨by rw [e]; exact s3, by rw [e]; exact s4, s5⟩, s6⟩
      · have dx : decide (x.1.2 < m) = false := decide_eq_false hx
        gi_wp2_with (rw [Oper.semAt_eq _ _ _ (fun c h => by cases h)]; go_simp; try go_bits)
        have e : nxtU (pre ++ [x]) = (m, true) := by rw [hsn]; exact if_neg (by simp; omega)
        exact ⟨KeepsFrom.refl _ _, KeepB.of_others (KeepsOthers.refl _) (fun o e _ => e), ⟨by rw [e]; exact h6, by rw [e]; exact h7, hN⟩, hB⟩
  case done =>
    rintro D xs W hD hS ⟨⟨h6, h7, hN⟩, hB⟩ hK
    have hc6 := h6.cell
    have hc7 := h7.cell
    gi_wp2
    have hKd : W.drew.heap[D]? = some (.deferred (some [])) := hK
    have hBd : Below w.heap.size w W.drew := hB.trans ⟨rfl, rfl, rfl, Nat.le_refl _, fun _ _ => rfl⟩
    gi_region
    all_goals
      gi_wp2
      refine ⟨by simp, .inl ⟨_, _, rfl, run_takeDeferred hKd, ?_⟩⟩
      refine ⟨.tuple #[.int .u64 (nxtU xs).1, .bool (nxtU xs).2], ?_, xs, rfl, hS, hBd.trans (belowK_b (w := w) (Nat.le_refl _) W.drew D _ _ (by omega) hKd rfl rfl)⟩
      simp [results, Try.f36, go_sem]
  case stop =>
    rintro D c pre W _ _ h _
    exact h.elim
end Go.AM

/- yield's Bans: maps.Collect over the iterator. -/
namespace Go.AM
open Go.Proofs Go.RowKit Go.Maps Go.Sort Go.Shelf

def foldU {H : Type} (xs : List PU) : DataW H := xs.foldl (fun D x => D.put (.int .i64 x.1.1) (.lit (.int .u64 x.1.2))) (.map [])
theorem foldU_snoc {H : Type} (xs : List PU) (x : PU) : foldU (H := H) (xs ++ [x]) = (foldU xs).put (.int .i64 x.1.1) (.lit (.int .u64 x.1.2)) := by unfold foldU; rw [List.foldl_append]; rfl

set_option maxRecDepth 100000 in
set_option maxHeartbeats 4000000 in
theorem insertU_in {H : Type} (F : Fence) (n : Nat) (h3 : F.fn 75) (h5 : F.fn 76) (hro : F.round = none) (hn : 3 ≤ n) (lb : Array Value) (b Bn : Nat) (w0 w : World) (S : List PU → Prop) (N : Nat) (hN : N ≤ 1099511627776)
    (hseq : SeqStopsK F (n - 1) Try.prog 76 lb encPU (KeepB b Bn) S (fun _ => True) N w0) (hb0 : Below w0.heap.size w0 w) (hM : w.ownsMap Try.prog 3 (plainElem (H := H) Try.prog 29) w0.heap.size 0 (.map [])) (hb : b < w0.heap.size) (hBn : Bn < w0.heap.size) :
    CallsIn F n Try.prog 75 #[.map (some w0.heap.size), .func (.func 76) #[] lb] w fun e W' => ∃ (xs : List PU) (v : Value), e = .returned v ∧ S xs ∧ W'.ownsMap Try.prog 3 (plainElem (H := H) Try.prog 29) w0.heap.size xs.length (foldU xs) ∧ Below w0.heap.size w0 W' := by
  have h1 : 1 ≤ n := by omega
  have hMl := hM.lt
  refine callsIn_of_wp_marks Try.func75 rfl h3 ?_ hro
  simp only [Try.ntmps75, List.size_toArray, List.length_cons, List.length_nil, Nat.reduceAdd, Nat.reduceSub, Array.replicate_succ, Array.replicate_zero, List.push_toArray, List.append_toArray, List.nil_append, List.cons_append]
  gi_wp2
  have bS := Boxed.new w 56 (.map (some w0.heap.size))
  have hB0 : Below w0.heap.size w0 (w.alloc (.cells #[.map (some w0.heap.size)] 56)) := hb0.alloc hb0.size _
  refine wpIn_rangeFunc_ownG hro h1 (gf := 76) (lb := lb) rfl h5 (enters_of Try.func76 (by kernel_rfl) rfl)
    hseq KeepB.trans (fun W l o o' _ h hc hw => KeepB.putObj W l o o' h hc hw) hB0 (fun _ => rfl)
    (fun pre W => (W.cell? ⟨w.heap.size, 0, none⟩ = some (.map (some w0.heap.size)) ∧ W.ownsMap Try.prog 3 (plainElem (H := H) Try.prog 29) w0.heap.size pre.length (foldU pre)) ∧ Below w0.heap.size w0 W)
    (fun _ _ _ => False)
    (OwnFrom.and (fun s A B row hs hg hr => ⟨cell_kept hs.1 hg (fun r e => (hr r e).2), hs.2.kept hg (fun e => by have := (hr _ e.symm).1; simp at this; omega)⟩) (ownFrom_below (Nat.le_refl _) (by simp; omega)))
    (fun _ _ _ _ _ hs _ _ => hs)
    ⟨⟨bS.cell, hM.alloc _⟩, hB0⟩
    (fun x => { tmps := #[.map (some w0.heap.size), .func (.func 76) #[] lb, .pointer (some ⟨w.heap.size, 0, none⟩), undef, .int .i64 x.1.1, .int .u64 x.1.2, .func (.func 76) #[] lb, .int .i64 x.1.1, .int .u64 x.1.2, undef, undef, undef], defers := [] }) ?assign ?body ?done ?stop
  case assign =>
    intro l x W K hK
    gi_wp2_with (rw [Oper.semAt_eq _ _ _ (fun c h => by cases h)]; go_simp; try go_bits)
    exact hK
  case body =>
    rintro l pre x W ⟨⟨hc, hown⟩, hB⟩ hlt
    have hkey := Maps.keyOf_int_mk Try.underlying3 x.2.1
    gi_wp2_with (first
      | (gi_at_mapUpdate; refine wpListIn_mapUpdate_own _ rfl _ _ _ 56 rfl 3 29 (Maps.int_keyed Try.underlying3) Try.underlying56 _ w0.heap.size pre.length _ rfl hown (by unfold maxLen; omega) _ _ _ rfl rfl hkey _ [] (plainElem_int Try.underlying29 x.2.2) ?_; intro w1 hown1 hgrow1)
      | (rw [Oper.semAt_eq _ _ _ (fun c h => by cases h)]; go_simp; try go_bits))
    obtain ⟨es, ck, hh, _⟩ := hown
    have oth : ∀ k o, W.heap[k]? = some o → k ≠ w0.heap.size → w1.heap[k]? = some o := fun k o e ne => (hgrow1.block k (Array.getElem?_eq_some_iff.1 e).1 (fun q => ne (Option.some.inj q))).trans e
    refine ⟨KeepsFrom.of_grownBy hgrow1 (fun j e => by cases e; simp; omega), ⟨hgrow1.size, fun o e _ => oth _ o e (by omega), fun k o e c => oth k o e (fun q => by subst q; rw [hh] at e; cases e; cases c), fun o e _ => oth _ o e (by omega)⟩, ⟨?_, by rw [foldU_snoc, List.length_append]; exact hown1⟩, hB.grown hgrow1 hB.size (fun k e => by cases e; exact Nat.le_refl _)⟩
    exact cell_kept hc hgrow1 (fun r e => by cases e; exact ⟨_, hh, rfl⟩)
  case done =>
    rintro D xs W hD hS ⟨⟨hc, hown⟩, hB⟩ hK
    gi_wp2
    refine ⟨by simp, .inl ⟨_, _, rfl, run_takeDeferred hK, ?_⟩⟩
    exact ⟨_, results_none rfl _ _ _, xs, _, rfl, hS, hown.kept (grownBy_putObj' _ D _) (fun e => by cases e; simp at hD; omega), hB.trans (belowK_b (w := w0) (Nat.le_refl _) W D _ _ (by simp at hD; omega) hK rfl rfl)⟩
  case stop =>
    rintro D c pre W _ _ h _
    exact h.elim

set_option maxRecDepth 100000 in
set_option maxHeartbeats 4000000 in
theorem collectU_in {H : Type} (F : Fence) (n : Nat) (h2 : F.fn 64) (h3 : F.fn 75) (h5 : F.fn 76) (hro : F.round = none) (hn : 4 ≤ n) (lb : Array Value) (b Bn : Nat) (w : World) (S : List PU → Prop) (N : Nat) (hN : N ≤ 1099511627776)
    (hseq : SeqStopsK F (n - 1 - 1) Try.prog 76 lb encPU (KeepB b Bn) S (fun _ => True) N w) (hb : b < w.heap.size) (hBn : Bn < w.heap.size) :
    CallsIn F n Try.prog 64 #[.func (.func 76) #[] lb] w fun e W' => ∃ (xs : List PU), e = .returned (.map (some w.heap.size)) ∧ S xs ∧ W'.ownsMap Try.prog 3 (plainElem (H := H) Try.prog 29) w.heap.size xs.length (foldU xs) ∧ Below w.heap.size w W' := by
  have hmm := @run_makeMap Try.prog
  refine callsIn_of_wp Try.func64 rfl h2 ?_ hro
  simp only [Try.ntmps64, List.size_toArray, List.length_cons, List.length_nil, Nat.reduceAdd, Nat.reduceSub, Array.replicate_succ, Array.replicate_zero, List.push_toArray, List.append_toArray, List.nil_append, List.cons_append]
  gi_wp2
  refine ⟨fun _ => by omega, ?_⟩
  have cI := insertU_in (H := H) F (n - 1) h3 h5 hro (by omega) lb b Bn w (w.alloc (.map #[] 0)) S N hN hseq ((Below.refl _ w).alloc (Nat.le_refl _) _) (World.ownsMap_made w Try.prog 3 _) hb hBn
  refine cI.mono ?_
  rintro e w' ⟨xs, v, rfl, hS, hown, hB⟩
  gi_wp2
  go_ret
  exact ⟨xs, rfl, hS, hown, hB⟩
end Go.AM

/- yield's Bans: what a map's entries are as pairs. -/
namespace Go.AM
open Go.Proofs Go.RowKit Go.Maps Go.Sort Go.Shelf

/-- Is a value a number of 64 bits without a sign? -/
def isWU (v : Value) : Bool := match v with | .int .u64 n => (Lit.int .u64 n).wf | _ => false
theorem isWU_form {v : Value} (hv : isWU v = true) : ∃ n, v = .int .u64 n ∧ (Lit.int .u64 n).wf = true := by
  unfold isWU at hv
  split at hv
  · exact ⟨_, rfl, hv⟩
  · cases hv
theorem VRs.isWU {μ : Map} {l l' : List Value} (hl : VRs μ l l') (hi : l.all AM.isWU = true) : l' = l := by
  induction l generalizing l' with
  | nil => exact hl.nil_inv
  | cons x l ih =>
    obtain ⟨x', m, rfl, hx, hl2⟩ := hl.cons_inv
    simp only [List.all_cons, Bool.and_eq_true] at hi
    obtain ⟨n, rfl, _⟩ := isWU_form hi.1
    cases hx
    rw [ih hl2 hi.2]
def okEsU (es : List (Value × Value)) : Bool := decide (es.length ≤ roomy) && es.all fun p => isW64 p.1 && isWU p.2
/-- An entry as two numbers. -/
abbrev prU (p : Value × Value) : Int × Int := (valOf p.1, valOf p.2)
abbrev prE (e : MapEntry) : Int × Int := (valOf e.key, valOf e.val)

theorem MR.okU {μ : Map} {es : List (Value × Value)} {E : Array MapEntry} {clock : Nat} (hm : MR μ es E clock) (hok : okEsU es = true) :
    (E.toList.map prE).Perm (es.map prU) ∧ E.size ≤ roomy ∧ (∀ x ∈ E.toList, isW64 x.key = true ∧ isWU x.val = true) := by
  have hsz := hm.size
  obtain ⟨hst, _, F, hp, h1, h2⟩ := hm
  simp only [okEsU, Bool.and_eq_true, decide_eq_true_eq, List.all_eq_true] at hok
  have e1 := h1.isW64 (by simp only [List.all_map, List.all_eq_true, Function.comp]; exact fun x hx => (hok.2 x hx).1)
  have e2 := h2.isWU (by simp only [List.all_map, List.all_eq_true, Function.comp]; exact fun x hx => (hok.2 x hx).2)
  refine ⟨?_, by omega, fun x hx => ?_⟩
  · have hz : ∀ (l : List (Value × Value)) (M : List MapEntry), M.map (·.key) = l.map (·.1) → M.map (·.val) = l.map (·.2) → M.map prE = l.map prU := by
      intro l
      induction l with
      | nil => intro M a _; cases M with | nil => rfl | cons x M => simp at a
      | cons y l ih =>
        intro M a b
        cases M with
        | nil => simp at a
        | cons x M => simp at a b; simp only [List.map_cons, prE, prU, a.1, b.1]; rw [show M.map (fun e => (valOf e.key, valOf e.val)) = _ from ih M a.2 b.2]
    have := hz es F e1 e2
    rw [← this]
    exact (hp.map _).symm
  · have hx' := hp.mem_iff.2 hx
    have k1 : x.key ∈ es.map (·.1) := by rw [← e1]; exact List.mem_map.2 ⟨x, hx', rfl⟩
    have k2 : x.val ∈ es.map (·.2) := by rw [← e2]; exact List.mem_map.2 ⟨x, hx', rfl⟩
    obtain ⟨y, hy, ey⟩ := List.mem_map.1 k1
    obtain ⟨z, hz, ez⟩ := List.mem_map.1 k2
    rw [← ey, ← ez]
    exact ⟨(hok.2 y hy).1, (hok.2 z hz).2⟩

noncomputable abbrev RU : Value → Option (DataW Unit × List MemPlace) := plainElem Try.prog 29
abbrev litU (p : Int × Int) : Lit × DataW Unit := (.int .i64 p.1, .lit (.int .u64 p.2))
theorem rdU {x : MapEntry} (h1 : isW64 x.key = true) (h2 : isWU x.val = true) : WideElems.rd Try.prog 3 RU x = some (litU (prE x)) := by
  obtain ⟨n, e, hw⟩ := isW64_form h1
  obtain ⟨c, e', hw'⟩ := isWU_form h2
  have := WideElems.rd_mk (P := Try.prog) (k := 3) (R := RU) (born := x.born) (key := x.key) (val := x.val) (by rw [e]; exact Maps.keyOf_int_mk Try.underlying3 hw) (by rw [e']; exact plainElem_int Try.underlying29 hw')
  rw [show x = ⟨x.key, x.val, x.born⟩ from rfl, this]
  simp [prE, litU, e, e', valOf]
theorem rdU_inv {x : MapEntry} {y : Lit × DataW Unit} (h : WideElems.rd Try.prog 3 RU x = some y) : isW64 x.key = true ∧ isWU x.val = true := by
  unfold WideElems.rd at h
  simp only [Option.bind_eq_some_iff, Option.map_eq_some_iff] at h
  obtain ⟨k, hk, z, hz, _⟩ := h
  obtain ⟨n, e, _, hw⟩ := Maps.keyOf_i64 Try.underlying3 hk
  obtain ⟨c, e', _, hw'⟩ := plainElem_int_inv Try.underlying29 hz
  rw [e, e']
  exact ⟨hw, hw'⟩
theorem fit_ofU {E : Array MapEntry} {clock : Nat} (hst : MapKept.Stamped E clock) (hsz : E.size ≤ roomy) (hk : ∀ x ∈ E.toList, isW64 x.key = true ∧ isWU x.val = true) : WideElems.Fit Try.prog 3 RU E clock :=
  ⟨by unfold roomy at hsz; unfold maxLen; omega, hst, fun x hx => ⟨_, rdU (hk x hx).1 (hk x hx).2⟩⟩
noncomputable abbrev datU (E : Array MapEntry) : DataW Unit := .map ((E.toList.map (WideElems.rg Try.prog 3 RU)).foldr DataW.insert [])
theorem rgsU {E : Array MapEntry} (hk : ∀ x ∈ E.toList, isW64 x.key = true ∧ isWU x.val = true) : E.toList.map (WideElems.rg Try.prog 3 RU) = (E.toList.map prE).map litU := by
  rw [List.map_map]
  exact List.map_congr_left fun x hx => WideElems.rg_of (rdU (hk x hx).1 (hk x hx).2)
theorem sizeU (E : Array MapEntry) : Maps.size (datU E) = E.size := by simp only [Maps.size]; rw [(WideShapes.sorted_perm _).length_eq]; simp

/-- What the iterator has told are the map's pairs. -/
theorem allOf_perm {E : Array MapEntry} {clock : Nat} (hst : MapKept.Stamped E clock) (hsz : E.size ≤ roomy) (hk : ∀ x ∈ E.toList, isW64 x.key = true ∧ isWU x.val = true) {ps : List PU} (h : AllOfU (datU E) ps) : (ps.map (·.1)).Perm (E.toList.map prE) := by
  have fit := fit_ofU hst hsz hk
  have hnd : (E.toList.map prE).Pairwise (fun p q => p.1 ≠ q.1) := by
    rw [List.pairwise_map]
    refine (((MapKept.stamped_iff E clock).1 hst).2.2).imp_of_mem ?_
    intro a b ha hb hne he
    obtain ⟨n, e, _⟩ := isW64_form (hk a ha).1
    obtain ⟨m, e', _⟩ := isW64_form (hk b hb).1
    rw [e, e'] at hne
    simp only [prE, e, e', valOf] at he
    exact hne (by rw [he])
  have hkeys : (ps.map (·.1.1)).Perm ((E.toList.map prE).map (·.1)) := by
    refine h.1.trans ?_
    have h1 : (intKeys (datU E)).Perm ((E.toList.map (WideElems.rg Try.prog 3 RU)).map fun p => intOf p.1) := (WideShapes.sorted_perm _).map _
    rw [rgsU hk, List.map_map] at h1
    simpa [Function.comp_def, intOf] using h1
  have hnk : ((E.toList.map prE).map (·.1)).Nodup := List.pairwise_map.2 hnd
  have hnp : ((ps.map (·.1)).map (·.1)).Nodup := by
    rw [List.map_map]
    exact hkeys.nodup_iff.2 hnk
  have sub : ∀ a ∈ ps.map (·.1), a ∈ E.toList.map prE := by
    intro a ha
    obtain ⟨p, hp, rfl⟩ := List.mem_map.1 ha
    have hin : p.1.1 ∈ (E.toList.map prE).map (·.1) := hkeys.mem_iff.1 (List.mem_map.2 ⟨p, hp, rfl⟩)
    obtain ⟨q, hq, eq⟩ := List.mem_map.1 hin
    have hv := h.2 p hp (.nil : DataW Unit)
    have hat : (datU E).atKey (.int .i64 q.1) (.nil : DataW Unit) = .lit (.int .u64 q.2) := by
      refine WideAt.atKey_mem _ trivial ?_ ?_
      · refine ((WideShapes.sorted_perm _).pairwise_iff (fun {_ _} hne => Ne.symm hne)).2 ?_
        rw [rgsU hk, List.pairwise_map]
        exact hnd.imp (fun {a b} hne e => hne (by simpa [litU] using e))
      · refine (WideShapes.sorted_perm _).mem_iff.2 ?_
        rw [rgsU hk]
        exact List.mem_map.2 ⟨q, hq, rfl⟩
    rw [eq, hv] at hat
    have : p.1 = q := by
      have e2 : p.1.2 = q.2 := by simpa using hat
      exact Prod.ext eq.symm e2
    rw [this]; exact hq
  have nd1 : (ps.map (·.1)).Nodup := List.Pairwise.imp (fun {a b} h e => h (by rw [e])) (List.pairwise_map.1 hnp)
  have nd2 : (E.toList.map prE).Nodup := hnd.imp (fun {a b} h e => h (by rw [e]))
  refine (List.perm_ext_iff_of_nodup nd1 nd2).2 fun a => ⟨sub a, fun ha => ?_⟩
  have : a.1 ∈ ps.map (·.1.1) := hkeys.mem_iff.2 (List.mem_map.2 ⟨a, ha, rfl⟩)
  obtain ⟨p, hp, ep⟩ := List.mem_map.1 this
  have hp' := sub p.1 (List.mem_map.2 ⟨p, hp, rfl⟩)
  have : p.1 = a := by
    have hinj : ∀ (l : List (Int × Int)), (l.map (·.1)).Nodup → ∀ x ∈ l, ∀ y ∈ l, x.1 = y.1 → x = y := by
      intro l
      induction l with
      | nil => intro _ x hx; cases hx
      | cons z l ih =>
        intro hn x hx y hy e
        simp only [List.map_cons, List.nodup_cons, List.mem_map, not_exists, not_and] at hn
        rcases List.mem_cons.1 hx with rfl | hx <;> rcases List.mem_cons.1 hy with rfl | hy
        · rfl
        · exact absurd e.symm (hn.1 y hy)
        · exact absurd e (hn.1 x (by assumption))
        · exact ih hn.2 x hx y hy e
    exact hinj _ hnk _ hp' _ ha ep
  rw [← this]; exact List.mem_map.2 ⟨p, hp, rfl⟩
end Go.AM

/- What stands for maps.Collect over Bans' iterator, for Banned, and for Next. -/
namespace Go.AM
open Go.Proofs Go.RowKit Go.Maps Go.Sort Go.Shelf

abbrev onP (now : Int) (p : Int × Int) : Bool := decide (now < p.2)
def nxtP (L : List (Int × Int)) : Int × Bool := L.foldl (fun a x => if a.2 = false ∨ x.2 < a.1 then (x.2, true) else a) (0, false)
theorem nxtP_perm {L L' : List (Int × Int)} (h : L.Perm L') : nxtP L = nxtP L' := by
  unfold nxtP
  have key : ∀ (a : Int × Bool) (x y : Int × Int), (fun (a : Int × Bool) (x : Int × Int) => if a.2 = false ∨ x.2 < a.1 then (x.2, true) else a) ((fun (a : Int × Bool) (x : Int × Int) => if a.2 = false ∨ x.2 < a.1 then (x.2, true) else a) a x) y = (fun (a : Int × Bool) (x : Int × Int) => if a.2 = false ∨ x.2 < a.1 then (x.2, true) else a) ((fun (a : Int × Bool) (x : Int × Int) => if a.2 = false ∨ x.2 < a.1 then (x.2, true) else a) a y) x := by
    rintro ⟨m, b⟩ x y
    cases b <;> simp only [true_or, if_true, Bool.true_eq_false, false_or]
    · by_cases h1 : y.2 < x.2 <;> by_cases h2 : x.2 < y.2 <;> simp [h1, h2] <;> omega
    · by_cases h1 : x.2 < m <;> by_cases h2 : y.2 < m <;> by_cases h3 : y.2 < x.2 <;> by_cases h4 : x.2 < y.2 <;> simp [h1, h2, h3, h4] <;> omega
  have gen : ∀ (a : Int × Bool), L.foldl (fun a x => if a.2 = false ∨ x.2 < a.1 then (x.2, true) else a) a = L'.foldl (fun a x => if a.2 = false ∨ x.2 < a.1 then (x.2, true) else a) a := by
    induction h with
    | nil => intro a; rfl
    | cons x _ ih => intro a; exact ih _
    | swap x y l => intro a; simp only [List.foldl_cons]; rw [show (if (if a.2 = false ∨ y.2 < a.1 then (y.2, true) else a).2 = false ∨ x.2 < (if a.2 = false ∨ y.2 < a.1 then (y.2, true) else a).1 then (x.2, true) else (if a.2 = false ∨ y.2 < a.1 then (y.2, true) else a)) = _ from key a y x]
    | trans _ _ h1 h2 => intro a; exact (h1 a).trans (h2 a)
  exact gen _
theorem nxtU_P : ∀ (xs : List PU), nxtU xs = nxtP (xs.map (·.1)) := by
  intro xs
  unfold nxtU nxtP
  rw [List.foldl_map]
theorem filt_perm {ps : List PU} {L : List (Int × Int)} (now : Int) (h : (ps.map (·.1)).Perm L) : ((ps.filter (onU now)).map (·.1)).Perm (L.filter (onP now)) := by
  have := h.filter (onP now)
  rwa [List.filter_map] at this

noncomputable def pBanned : CallV → List Value → AHeap → R Value := fun _ all h => match all with
  | [.pointer (some ⟨id, off, none⟩), .int .u64 now] =>
    match h.get id with
    | some (.cells c _ _) =>
      match c[off]? with
      | some (.map none) => if h.low ≤ id then some (.slice none 0 0, h) else none
      | some (.map (some m)) =>
        match h.get m with
        | some (.map es) => if h.low ≤ id ∧ okEsU es = true then (if ((es.map prU).filter (onP now)).length = 0 then some (.slice none 0 0, h) else some (sliceTo h.next 0 ((es.map prU).filter (onP now)).length ((es.map prU).filter (onP now)).length, h.alloc (.cells (((((es.map prU).filter (onP now)).map (·.1)).mergeSort leI).map (Value.int .i64)) 3 true))) else none
        | _ => none
      | _ => none
    | _ => none
  | _ => none
noncomputable def pNext : CallV → List Value → AHeap → R Value := fun _ all h => match all with
  | [.pointer (some ⟨id, off, none⟩), .int .u64 now] =>
    match h.get id with
    | some (.cells c _ _) =>
      match c[off]? with
      | some (.map none) => if h.low ≤ id then some (.tuple #[.int .u64 0, .bool false], h) else none
      | some (.map (some m)) =>
        match h.get m with
        | some (.map es) => if h.low ≤ id ∧ okEsU es = true then some (.tuple #[.int .u64 (nxtP ((es.map prU).filter (onP now))).1, .bool (nxtP ((es.map prU).filter (onP now))).2], h) else none
        | _ => none
      | _ => none
    | _ => none
  | _ => none
noncomputable def pCollect : CallV → List Value → AHeap → R Value := fun _ all h => match all with
  | [.func (.func g) a c] =>
    match a.toList, c.toList with
    | [], [.pointer (some ⟨Bb, ob, none⟩), .pointer (some ⟨Bn, on, none⟩)] =>
      match h.get Bb, h.get Bn with
      | some (.cells [.pointer (some ⟨id, off, none⟩)] _ false), some (.cells [.int .u64 now] _ false) =>
        match h.get id with
        | some (.cells c _ _) =>
          match c[off]? with
          | some (.map none) => if (g = 76 ∧ ob = 0 ∧ on = 0) ∧ h.low ≤ Bb ∧ h.low ≤ Bn ∧ h.low ≤ id then some (.map (some h.next), h.alloc (.map [])) else none
          | some (.map (some m)) =>
            match h.get m with
            | some (.map es) => if (g = 76 ∧ ob = 0 ∧ on = 0) ∧ h.low ≤ Bb ∧ h.low ≤ Bn ∧ h.low ≤ id ∧ okEsU es = true then some (.map (some h.next), h.alloc (.map (es.filter fun p => onP now (prU p)))) else none
            | _ => none
          | _ => none
        | _ => none
      | _, _ => none
    | _, _ => none
  | _ => none

section
variable {P : Program} {B : Nat} {μ : Map} {h : AHeap} {w : World}
/-- A map of bans, as it lies in memory. -/
structure BansAt (w : World) (L : List (Int × Int)) (bm : Nat) (E : Array MapEntry) (clock : Nat) : Prop where
  at' : w.heap[bm]? = some (.map E clock)
  stamped : MapKept.Stamped E clock
  small : E.size ≤ roomy
  keys : ∀ x ∈ E.toList, isW64 x.key = true ∧ isWU x.val = true
  perm : (E.toList.map prE).Perm L
theorem BansAt.owns {L : List (Int × Int)} {bm : Nat} {E : Array MapEntry} {clock : Nat} (x : BansAt w L bm E clock) : w.ownsMap Try.prog 3 RU bm E.size (datU E) :=
  ⟨E, clock, x.at', fit_ofU x.stamped x.small x.keys, Nat.le_refl _, rfl⟩
theorem bansAt (hr : HR P B μ h w) {id off m : Nat} {loc : Loc} {c : List Value} {e : TypeId} {o : Bool} {es : List (Value × Value)} (hl : μ id = some loc) (hg : h.get id = some (.cells c e o)) (hlow : h.low ≤ id)
    (hc : c[off]? = some (.map (some m))) (hgm : h.get m = some (.map es)) (hok : okEsU es = true) : ∃ bm E clock, w.cell? ⟨loc.blk, loc.base + off, none⟩ = some (.map (some bm)) ∧ BansAt w (es.map prU) bm E clock := by
  obtain ⟨x1, k1, u1⟩ := cell_at hr hl hg hlow hc
  cases u1 with
  | map _ locm hlm =>
  obtain ⟨E, clock, hb, hm⟩ := hr.mapAt hlm hgm
  obtain ⟨hp, hsz, hall⟩ := hm.okU hok
  exact ⟨_, E, clock, k1, hb, hm.1, hsz, hall, hp⟩

theorem next_ok (G : Nat → Bool) : PrimOk Try.prog G 36 pNext := by
  intro call _ B μ h w all r h' hh hg hr all' ha
  have enter := fun xs => enterS Try.func36 rfl (by kernel_rfl) xs w
  unfold pNext at hh
  split at hh
  · rename_i id off now
    obtain ⟨a, m, e1, v1, ha⟩ := ha.cons_inv
    obtain ⟨a2, m2, e2, v2, ha⟩ := ha.cons_inv
    obtain rfl := ha.nil_inv
    cases v2
    cases v1 with
    | ptr _ _ loc hl =>
    obtain rfl : all' = #[.pointer (some ⟨loc.blk, loc.base + off, none⟩), .int .u64 now] := by apply Array.toList_inj.1; rw [e1, e2]
    have llt := (hr.dom _ _ hl).2
    split at hh
    · rename_i c e o hgid
      split at hh
      · rename_i hc1
        split at hh
        · rename_i hlow
          cases hh
          obtain ⟨x1, k1, u1⟩ := cell_at hr hl hgid hlow hc1
          cases u1
          refine .inr ⟨_, _, w, enter _, callsIn_wide.2 ((callsIn_wide (n := 6)).1 ?_)⟩
          refine (next_in Fence.wide 6 trivial trivial trivial rfl (by omega) (some ⟨loc.blk, loc.base + off, none⟩) now 0 w (fun xs => xs = []) 0 (fun w2 hb hP hN => ?_)).mono ?_
          · have hs2 := hb.size
            refine allU_stopsNil Fence.wide 5 trivial rfl _ _ loc.blk (loc.base + off) 0 w2 (Array.getElem?_eq_some_iff.1 hP).1 (by omega) (by simp [World.cell?, hP]) ?_
            rw [← k1]; exact hb.cell llt
          · rintro x w' ⟨xs, rfl, rfl, hbl⟩
            exact ⟨_, rfl, μ, VR.tuple' (VRs.plain (by simp [plainV, nxtU])), hr.below hbl, Keeps.refl _⟩
        · cases hh
      · rename_i m hc1
        split at hh
        · rename_i es hgm
          split at hh
          · rename_i hcond
            obtain ⟨hlow, hok⟩ := hcond
            cases hh
            obtain ⟨bm, E, clock, k1, hB⟩ := bansAt hr hl hgid hlow hc1 hgm hok
            have blt := hB.owns.lt
            refine .inr ⟨_, _, w, enter _, callsIn_wide.2 ((callsIn_wide (n := 6)).1 ?_)⟩
            refine (next_in Fence.wide 6 trivial trivial trivial rfl (by omega) (some ⟨loc.blk, loc.base + off, none⟩) now bm w (fun xs => ∃ ps, AllOfU (datU E) ps ∧ xs = ps.filter (onU now)) (Maps.size (datU E)) (fun w2 hb hP hN => ?_)).mono ?_
            · have hs2 := hb.size
              refine allU_stops Fence.wide 5 trivial rfl (by omega) _ _ loc.blk (loc.base + off) bm E.size now _ _ (datU E) w2 (Array.getElem?_eq_some_iff.1 hP).1 (by omega) (by simp [World.cell?, hP]) ?_ hN ?_
              · rw [← k1]; exact hb.cell llt
              · obtain ⟨es', ck, h1, h2⟩ := hB.owns
                exact ⟨es', ck, (hb.block bm blt).trans h1, h2⟩
            · rintro x w' ⟨xs, rfl, ⟨ps, hps, rfl⟩, hbl⟩
              have hp := filt_perm now ((allOf_perm hB.stamped hB.small hB.keys hps).trans hB.perm)
              rw [nxtU_P, nxtP_perm hp]
              exact ⟨_, rfl, μ, VR.tuple' (VRs.plain (by simp [plainV])), hr.below hbl, Keeps.refl _⟩
          · cases hh
        · cases hh
      · cases hh
    · cases hh
  · cases hh

theorem banned_ok (G : Nat → Bool) : PrimOk Try.prog G 33 pBanned := by
  intro call _ B μ h w all r h' hh hg hr all' ha
  have enter := fun xs => enterS Try.func33 rfl (by kernel_rfl) xs w
  unfold pBanned at hh
  split at hh
  · rename_i id off now
    obtain ⟨a, m, e1, v1, ha⟩ := ha.cons_inv
    obtain ⟨a2, m2, e2, v2, ha⟩ := ha.cons_inv
    obtain rfl := ha.nil_inv
    cases v2
    cases v1 with
    | ptr _ _ loc hl =>
    obtain rfl : all' = #[.pointer (some ⟨loc.blk, loc.base + off, none⟩), .int .u64 now] := by apply Array.toList_inj.1; rw [e1, e2]
    have llt := (hr.dom _ _ hl).2
    have hB0 : Below w.heap.size w (((w.alloc (.cells #[.slice none 0 0] 22)).alloc (.cells #[.pointer (some ⟨loc.blk, loc.base + off, none⟩)] 55)).alloc (.cells #[.int .u64 now] 29)) := (((Below.refl _ w).alloc (Nat.le_refl _) _).alloc (by simp) _).alloc (by simp; omega) _
    obtain ⟨w2, hw2⟩ : ∃ w2, ((w.alloc (.cells #[.slice none 0 0] 22)).alloc (.cells #[.pointer (some ⟨loc.blk, loc.base + off, none⟩)] 55)).alloc (.cells #[.int .u64 now] 29) = w2 := ⟨_, rfl⟩
    have hs2 : w2.heap.size = w.heap.size + 3 := by rw [← hw2]; simp
    have hP : w2.heap[w.heap.size + 1]? = some (.cells #[.pointer (some ⟨loc.blk, loc.base + off, none⟩)] 55 (0, 0)) := by
      have := (Boxed.new (w.alloc (.cells #[.slice none 0 0] 22)) 55 (.pointer (some ⟨loc.blk, loc.base + off, none⟩))).alloc (.cells #[.int .u64 now] 29)
      simp only [World.size_alloc] at this
      rw [hw2] at this; exact this
    have hN : w2.heap[w.heap.size + 1 + 1]? = some (.cells #[.int .u64 now] 29 (0, 0)) := by
      have := Boxed.new ((w.alloc (.cells #[.slice none 0 0] 22)).alloc (.cells #[.pointer (some ⟨loc.blk, loc.base + off, none⟩)] 55)) 29 (.int .u64 now)
      simp only [World.size_alloc] at this
      rw [hw2] at this; exact this
    rw [hw2] at hB0
    split at hh
    · rename_i c e o hgid
      split at hh
      · rename_i hc1
        split at hh
        · rename_i hlow
          cases hh
          obtain ⟨x1, k1, u1⟩ := cell_at hr hl hgid hlow hc1
          cases u1
          refine .inr ⟨_, _, w, enter _, callsIn_wide.2 ((callsIn_wide (n := 6)).1 ?_)⟩
          refine (banned_in Fence.wide 6 trivial trivial trivial trivial rfl (by omega) (sortsA _) (some ⟨loc.blk, loc.base + off, none⟩) now 0 w w2 (fun xs => xs = []) 0 (by omega) (fun xs h => by subst h; simp) hw2 ?_).mono ?_
          · refine allU_stopsNil Fence.wide 5 trivial rfl _ _ loc.blk (loc.base + off) 0 w2 (by omega) (by omega) (by simp [World.cell?, hP]) ?_
            rw [← k1]; exact hB0.cell llt
          · rintro x w' ⟨v, xs, rfl, hxs, hrow, hnil, hbl⟩
            obtain rfl := hnil.2 hxs
            exact ⟨_, rfl, μ, .snil, hr.below hbl, Keeps.refl _⟩
        · cases hh
      · rename_i m hc1
        split at hh
        · rename_i es hgm
          split at hh
          · rename_i hcond
            obtain ⟨hlow, hok⟩ := hcond
            obtain ⟨bm, E, clock, k1, hB⟩ := bansAt hr hl hgid hlow hc1 hgm hok
            have blt := hB.owns.lt
            have hsz := hB.small
            have hsN : ∀ ps, AllOfU (datU E) ps → ps.length = E.size := fun ps hps => by
              have := (allOf_perm hB.stamped hB.small hB.keys hps).length_eq
              simpa using this
            refine .inr ⟨_, _, w, enter _, callsIn_wide.2 ((callsIn_wide (n := 6)).1 ?_)⟩
            refine (banned_in Fence.wide 6 trivial trivial trivial trivial rfl (by omega) (sortsA _) (some ⟨loc.blk, loc.base + off, none⟩) now bm w w2 (fun xs => ∃ ps, AllOfU (datU E) ps ∧ xs = ps.filter (onU now)) (Maps.size (datU E)) (by rw [sizeU]; unfold roomy at hsz; omega) ?_ hw2 ?_).mono ?_
            · rintro xs ⟨ps, hps, rfl⟩
              rw [sizeU, ← hsN ps hps]
              exact List.length_filter_le _ _
            · refine allU_stops Fence.wide 5 trivial rfl (by omega) _ _ loc.blk (loc.base + off) bm E.size now _ _ (datU E) w2 (by omega) (by omega) (by simp [World.cell?, hP]) ?_ hN ?_
              · rw [← k1]; exact hB0.cell llt
              · obtain ⟨es', ck, h1, h2⟩ := hB.owns
                exact ⟨es', ck, (hB0.block bm blt).trans h1, h2⟩
            · rintro x w' ⟨v, xs, rfl, ⟨ps, hps, rfl⟩, hrow, hnil, hbl⟩
              have hp := filt_perm now ((allOf_perm hB.stamped hB.small hB.keys hps).trans hB.perm)
              have hsl : (ps.filter (onU now)).length = ((es.map prU).filter (onP now)).length := by have := hp.length_eq; simpa using this
              split at hh
              · rename_i h0
                cases hh
                have : ps.filter (onU now) = [] := List.eq_nil_of_length_eq_zero (by omega)
                obtain rfl := hnil.2 this
                exact ⟨_, rfl, μ, .snil, hr.below hbl, Keeps.refl _⟩
              · rename_i h0
                cases hh
                have hsort : (keysU (ps.filter (onU now))).mergeSort (fun x y => decide (x ≤ y)) = (((es.map prU).filter (onP now)).map (·.1)).mergeSort leI := mergeSort_of_perm_i (by have := hp.map (·.1); simpa [keysU, List.map_map, Function.comp_def] using this)
                obtain ⟨hxl, ⟨rfl, hn0⟩ | ⟨g, cap, cur, rfl, hgb, hgO, hnc, hcm, hcs, htk⟩⟩ := hrow
                · omega
                · rw [hsort] at htk
                  rw [hsl] at hnc htk ⊢
                  generalize hLL : (es.map prU).filter (onP now) = LL at *
                  have hesz : Try.prog.cellsOf 3 = 1 := by kernel_rfl
                  have hcl : cur.toList.length = cap := by rw [Array.length_toList]; omega
                  obtain ⟨μ', hm', p1, p2⟩ := hr.found (o := .cells (((LL.map (·.1)).mergeSort leI).map (Value.int .i64)) 3 true) (loc := ⟨g, 0, LL.length, cap, 1, true, false⟩) hbl hgb hgO ⟨rfl, rfl⟩ (fun μ' _ _ => by
                    refine ⟨.inr rfl, by simp, rfl, hesz.symm, by simpa using hcs, by simp; exact hnc, ?_, ?_, .inr (Melted.all fun j hh => by simp at hh)⟩
                    · simp only [List.drop_zero]
                      rw [Nat.mul_one] at htk
                      rw [htk]
                      exact VRs.plain (by simp [plainV])
                    · simp [List.all_map, Function.comp_def, Value.oneCell'])
                  refine ⟨_, rfl, μ', ?_, p1, p2⟩
                  unfold maxLen at hcm
                  exact VR.slice (μ := μ') h.next 0 LL.length LL.length cap _ hm' (Nat.le_refl _) hnc (.inr ⟨rfl, by simp⟩) (by simp) (by simp) (by omega)
          · cases hh
        · cases hh
      · cases hh
    · cases hh
  · cases hh
end
end Go.AM

/- The stand-in for maps.Collect over Bans' iterator answers so. -/
namespace Go.AM
open Go.Proofs Go.RowKit Go.Maps Go.Sort Go.Shelf

theorem perm_map_inv {α β : Type} {f : α → β} {l m : List β} (h : l.Perm m) : ∀ (E : List α), m = E.map f → ∃ F : List α, F.Perm E ∧ F.map f = l := by
  induction h with
  | nil => intro E e; cases E with | nil => exact ⟨[], List.Perm.refl _, rfl⟩ | cons a E => simp at e
  | cons x _ ih =>
    intro E e
    cases E with
    | nil => simp at e
    | cons a E =>
      simp only [List.map_cons, List.cons.injEq] at e
      obtain ⟨F, h1, h2⟩ := ih E e.2
      exact ⟨a :: F, h1.cons a, by simp [h2, e.1]⟩
  | swap x y l =>
    intro E e
    rcases E with _ | ⟨a, _ | ⟨b, E⟩⟩
    · simp at e
    · simp at e
    · simp only [List.map_cons, List.cons.injEq] at e
      exact ⟨b :: a :: E, List.Perm.swap a b E, by simp [e.1, e.2.1, e.2.2]⟩
  | trans _ _ h1 h2 =>
    intro E e
    obtain ⟨F, p, q⟩ := h2 E e
    obtain ⟨F', p', q'⟩ := h1 F q.symm
    exact ⟨F', p'.trans p, q'⟩

theorem putsU : ∀ (xs : List PU) (l : List (Lit × DataW Unit)), (∀ p ∈ l, ∀ x ∈ xs, p.1.sameKey (.int .i64 x.1.1) = false) → (xs.map (·.1.1)).Nodup →
    ∃ l', xs.foldl (fun D x => D.put (.int .i64 x.1.1) (.lit (.int .u64 x.1.2))) (.map l : DataW Unit) = .map l' ∧ l'.Perm (l ++ xs.map fun x => litU x.1) := by
  intro xs
  induction xs with
  | nil => intro l _ _; exact ⟨l, rfl, by simp⟩
  | cons x xs ih =>
    intro l hl hn
    simp only [List.map_cons, List.nodup_cons, List.mem_map, not_exists, not_and] at hn
    have hf : l.filter (fun p => !p.1.sameKey (.int .i64 x.1.1)) = l := List.filter_eq_self.2 fun p hp => by simp [hl p hp x (by simp)]
    obtain ⟨l', h1, h2⟩ := ih (DataW.insert (litU x.1) l) (by
      intro p hp y hy
      rcases List.mem_cons.1 ((WideShapes.insert_perm _ _).mem_iff.1 hp) with rfl | hp
      · have := hn.1 y hy
        simp [litU, Lit.sameKey]
        exact fun e => this e.symm
      · exact hl p hp y (by simp [hy])) hn.2
    refine ⟨l', ?_, ?_⟩
    · rw [List.foldl_cons, ← h1]
      simp [DataW.put, hf]
    · refine h2.trans ?_
      refine ((WideShapes.insert_perm (litU x.1) l).append_right _).trans ?_
      simp only [List.map_cons]
      exact (List.perm_middle (a := litU x.1) (l₁ := l) (l₂ := xs.map fun x => litU x.1)).symm

abbrev unlit (p : Lit × DataW Unit) : Int × Int := (intOf p.1, match p.2 with | .lit l => intOf l | _ => 0)
theorem unlit_litU (L : List (Int × Int)) : (L.map litU).map unlit = L := by
  rw [List.map_map]
  refine (List.map_congr_left fun p _ => ?_).trans (List.map_id _)
  simp [Function.comp, unlit, litU, intOf]

theorem filt_es : ∀ (now : Int) (es : List (Value × Value)), (es.filter fun p => onP now (prU p)).map prU = (es.map prU).filter (onP now) := by
  intro now es
  rw [List.filter_map]
  rfl

/-- The new map stands for the entries that were kept. -/
theorem made_MR {μ : Map} {W' : World} {g n : Nat} {es : List (Value × Value)} (hkeys : (es.map (·.1)).Pairwise (fun a b => aKeyEq a b = some false ∧ aKeyEq b a = some false)) (hok : ∀ p ∈ es, isW64 p.1 = true ∧ isWU p.2 = true)
    {xs : List PU} (hperm : (xs.map (·.1)).Perm (es.map prU)) (hown : W'.ownsMap Try.prog 3 RU g n (foldU (H := Unit) xs)) : ∃ E clock, W'.heap[g]? = some (.map E clock) ∧ MR μ es E clock := by
  obtain ⟨E, clock, hb, fit, hsz, hD⟩ := hown
  have hk : ∀ x ∈ E.toList, isW64 x.key = true ∧ isWU x.val = true := fun x hx => by
    obtain ⟨y, hy⟩ := fit.reads x hx
    exact rdU_inv hy
  have hpk : (es.map prU).Pairwise (fun p q => p.1 ≠ q.1) := by
    rw [List.pairwise_map] at hkeys ⊢
    refine hkeys.imp_of_mem ?_
    intro a b ha hb' hne e
    obtain ⟨n, e1, _⟩ := isW64_form (hok a ha).1
    obtain ⟨m, e2, _⟩ := isW64_form (hok b hb').1
    rw [e1, e2] at hne
    simp only [prU, e1, e2, valOf] at e
    simp [aKeyEq, e] at hne
  have hnd : (xs.map (·.1.1)).Nodup := by
    have h1 : ((es.map prU).map (·.1)).Nodup := List.pairwise_map.2 hpk
    have h2 := hperm.map (·.1)
    rw [List.map_map] at h2
    exact h2.nodup_iff.2 h1
  obtain ⟨l', q1, q2⟩ := putsU xs [] (by simp) hnd
  have q3 : foldU (H := Unit) xs = .map l' := q1
  rw [q3] at hD
  have q4 : l' = (E.toList.map (WideElems.rg Try.prog 3 RU)).foldr DataW.insert [] := by simpa using hD
  have q5 : (E.toList.map (WideElems.rg Try.prog 3 RU)).Perm (xs.map fun x => litU x.1) := by
    have := (WideShapes.sorted_perm (E.toList.map (WideElems.rg Try.prog 3 RU))).symm
    rw [← q4] at this
    exact this.trans (by simpa using q2)
  rw [rgsU hk] at q5
  have q6 := q5.map unlit
  rw [unlit_litU] at q6
  rw [show (xs.map fun x => litU x.1) = (xs.map (·.1)).map litU by rw [List.map_map]; rfl, unlit_litU] at q6
  have q7 : (es.map prU).Perm (E.toList.map prE) := hperm.symm.trans q6.symm
  obtain ⟨F, f1, f2⟩ := perm_map_inv q7 E.toList rfl
  refine ⟨E, clock, hb, fit.stamped, hkeys, F, f1, ?_, ?_⟩
  · have : es.map (·.1) = F.map (·.key) := by
      have e1 : es.map (·.1) = (es.map prU).map fun p => Value.int .i64 p.1 := by
        rw [List.map_map]
        refine List.map_congr_left fun p hp => ?_
        obtain ⟨n, e, _⟩ := isW64_form (hok p hp).1
        simp [prU, e, valOf]
      have e2 : F.map (·.key) = (F.map prE).map fun p => Value.int .i64 p.1 := by
        rw [List.map_map]
        refine List.map_congr_left fun p hp => ?_
        obtain ⟨n, e, _⟩ := isW64_form (hk p (f1.mem_iff.1 hp)).1
        simp [prE, e, valOf]
      rw [e1, e2, f2]
    rw [← this]
    refine VRs.plain (List.all_eq_true.2 fun v hv => ?_)
    obtain ⟨p, hp, rfl⟩ := List.mem_map.1 hv
    obtain ⟨n, e, _⟩ := isW64_form (hok p hp).1
    rw [e]; rfl
  · have : es.map (·.2) = F.map (·.val) := by
      have e1 : es.map (·.2) = (es.map prU).map fun p => Value.int .u64 p.2 := by
        rw [List.map_map]
        refine List.map_congr_left fun p hp => ?_
        obtain ⟨n, e, _⟩ := isWU_form (hok p hp).2
        simp [prU, e, valOf]
      have e2 : F.map (·.val) = (F.map prE).map fun p => Value.int .u64 p.2 := by
        rw [List.map_map]
        refine List.map_congr_left fun p hp => ?_
        obtain ⟨n, e, _⟩ := isWU_form (hk p (f1.mem_iff.1 hp)).2
        simp [prE, e, valOf]
      rw [e1, e2, f2]
    rw [← this]
    refine VRs.plain (List.all_eq_true.2 fun v hv => ?_)
    obtain ⟨p, hp, rfl⟩ := List.mem_map.1 hv
    obtain ⟨n, e, _⟩ := isWU_form (hok p hp).2
    rw [e]; rfl

section
variable {P : Program} {B : Nat} {μ : Map} {h : AHeap} {w : World}
/-- A block of one cell. -/
theorem one_at (hr : HR P B μ h w) {id : Nat} {loc : Loc} {x : Value} {e : TypeId} (hl : μ id = some loc) (hg : h.get id = some (.cells [x] e false)) (hlow : h.low ≤ id) :
    loc.base = 0 ∧ ∃ x' fr, w.heap[loc.blk]? = some (.cells #[x'] e fr) ∧ VR μ x x' := by
  have hro := (hr.own id loc hl (by rw [hg]; simp) hlow).1
  obtain ⟨O, hb, ho⟩ := hr.obj id loc _ hl hg
  cases O with
  | cells C e' fr =>
    simp only [OR, hro, Bool.false_eq_true, false_or] at ho
    obtain ⟨rfl, hsz, _, _, hcs, ⟨_, hb0, hs0⟩, hvv, _, _⟩ := ho
    rw [hb0, List.drop_zero] at hvv
    have hC : C.toList.length = 1 := by rw [Array.length_toList, hcs, ← hs0, ← hsz]; rfl
    obtain ⟨y, hy⟩ : ∃ y, C.toList = [y] := List.length_eq_one_iff.1 hC
    rw [hy, ← hsz] at hvv
    obtain ⟨x', m, t1, u1, _⟩ := hvv.cons_inv
    simp at t1
    obtain ⟨rfl, _⟩ := t1
    refine ⟨hb0, y, fr, ?_, u1⟩
    rw [hb]
    have : C = #[y] := by apply Array.toList_inj.1; rw [hy]
    rw [this]
  | _ => exact ho.elim

theorem collect_ok (G : Nat → Bool) : PrimOk Try.prog G 64 pCollect := by
  intro call _ B μ h w all r h' hh hg hr all' ha
  have enter := fun xs => enterS Try.func64 rfl (by kernel_rfl) xs w
  unfold pCollect at hh
  split at hh
  · rename_i g ac cc
    obtain ⟨a, m, e1, v1, ha⟩ := ha.cons_inv
    obtain rfl := ha.nil_inv
    cases v1 with
    | func _ _ a' _ c' hs hi hc hi' =>
    split at hh
    rotate_left
    · cases hh
    rename_i Bb ob Bn on hac hcc
    obtain rfl : a' = #[] := by
      have : ac.size = 0 := by rw [← Array.length_toList, hac]; rfl
      apply Array.eq_empty_of_size_eq_zero; rw [← hs]; exact this
    have hc2 := VR.toArr hc hi'
    rw [hcc] at hc2
    obtain ⟨y1, m1, t1, u1, hc2⟩ := hc2.cons_inv
    obtain ⟨y2, m2, t2, u2, hc2⟩ := hc2.cons_inv
    obtain rfl := hc2.nil_inv
    cases u1 with
    | ptr _ _ lb hlb =>
    cases u2 with
    | ptr _ _ ln hln =>
    obtain rfl : c' = #[.pointer (some ⟨lb.blk, lb.base + ob, none⟩), .pointer (some ⟨ln.blk, ln.base + on, none⟩)] := by apply Array.toList_inj.1; rw [t1, t2]
    split at hh
    · rename_i id off eb now en hgb hgn
      split at hh
      · rename_i c e o hgid
        split at hh
        · rename_i hc1
          split at hh
          · rename_i hcond
            obtain ⟨⟨rfl, rfl, rfl⟩, hlb0, hln0, hlow⟩ := hcond
            cases hh
            obtain ⟨bb0, xb, frb, hbb, ub⟩ := one_at hr hlb hgb hlb0
            obtain ⟨bn0, xn, frn, hbn, un⟩ := one_at hr hln hgn hln0
            cases un
            cases ub with
            | ptr _ _ loc hl =>
            obtain ⟨x1, k1, u1⟩ := cell_at hr hl hgid hlow hc1
            cases u1
            have llt := (hr.dom _ _ hl).2
            rw [bb0, bn0] at e1
            simp only [Nat.zero_add, Nat.add_zero] at e1
            obtain rfl := Array.toList_inj.1 (show all'.toList = #[_].toList from e1)
            have lbt : lb.blk < w.heap.size := (Array.getElem?_eq_some_iff.1 hbb).1
            have lnt : ln.blk < w.heap.size := (Array.getElem?_eq_some_iff.1 hbn).1
            refine .inr ⟨_, _, w, enter _, callsIn_wide.2 ((callsIn_wide (n := 7)).1 ?_)⟩
            refine (collectU_in (H := Unit) Fence.wide 7 trivial trivial trivial rfl (by omega) _ 0 ln.blk w (fun xs => xs = []) 0 (by omega) ?_ (by omega) lnt).mono ?_
            · exact allU_stopsNil Fence.wide 5 trivial rfl lb.blk ln.blk loc.blk (loc.base + off) 0 w lbt llt (by simp [World.cell?, hbb]) k1
            · rintro x w' ⟨xs, rfl, rfl, hown, hbl⟩
              obtain ⟨E, clock, hgO, hmr⟩ := made_MR (μ := μ) (es := []) (by simp) (by simp) (by simp) hown
              obtain ⟨μ', hm', p1, p2⟩ := hr.found (o := .map []) (loc := ⟨w.heap.size, 0, 0, 0, 0, true, false⟩) hbl (Nat.le_refl _) hgO ⟨rfl, rfl⟩ (fun μ' hle _ => MR.mono hle hmr)
              exact ⟨_, rfl, μ', VR.map _ _ hm', p1, p2⟩
          · cases hh
        · rename_i m hc1
          split at hh
          · rename_i es hgm
            split at hh
            · rename_i hcond
              obtain ⟨⟨rfl, rfl, rfl⟩, hlb0, hln0, hlow, hok⟩ := hcond
              cases hh
              obtain ⟨bb0, xb, frb, hbb, ub⟩ := one_at hr hlb hgb hlb0
              obtain ⟨bn0, xn, frn, hbn, un⟩ := one_at hr hln hgn hln0
              cases un
              cases ub with
              | ptr _ _ loc hl =>
              obtain ⟨x1, k1, u1⟩ := cell_at hr hl hgid hlow hc1
              cases u1 with
              | map _ locm hlm =>
              obtain ⟨E, clock, hb, hm⟩ := hr.mapAt hlm hgm
              obtain ⟨hp, hsz, hall⟩ := hm.okU hok
              have hB : BansAt w (es.map prU) locm.blk E clock := ⟨hb, hm.1, hsz, hall, hp⟩
              have blt := hB.owns.lt
              have llt := (hr.dom _ _ hl).2
              rw [bb0, bn0] at e1
              simp only [Nat.zero_add, Nat.add_zero] at e1
              obtain rfl := Array.toList_inj.1 (show all'.toList = #[_].toList from e1)
              have lbt : lb.blk < w.heap.size := (Array.getElem?_eq_some_iff.1 hbb).1
              have lnt : ln.blk < w.heap.size := (Array.getElem?_eq_some_iff.1 hbn).1
              have hokm : ∀ p ∈ es, isW64 p.1 = true ∧ isWU p.2 = true := by
                simp only [okEsU, Bool.and_eq_true, decide_eq_true_eq, List.all_eq_true] at hok
                exact hok.2
              refine .inr ⟨_, _, w, enter _, callsIn_wide.2 ((callsIn_wide (n := 7)).1 ?_)⟩
              refine (collectU_in (H := Unit) Fence.wide 7 trivial trivial trivial rfl (by omega) _ locm.blk ln.blk w (fun xs => ∃ ps, AllOfU (datU E) ps ∧ xs = ps.filter (onU now)) (Maps.size (datU E)) (by rw [sizeU]; unfold roomy at hsz; omega) ?_ blt lnt).mono ?_
              · exact allU_stops Fence.wide 5 trivial rfl (by omega) lb.blk ln.blk loc.blk (loc.base + off) locm.blk E.size now _ _ (datU E) w lbt llt (by simp [World.cell?, hbb]) k1 hbn hB.owns
              · rintro x w' ⟨xs, rfl, ⟨ps, hps, rfl⟩, hown, hbl⟩
                have hp2 := filt_perm now ((allOf_perm hB.stamped hB.small hB.keys hps).trans hB.perm)
                rw [← filt_es] at hp2
                obtain ⟨E', clock', hgO, hmr⟩ := made_MR (μ := μ) (es := es.filter fun p => onP now (prU p)) (hm.2.1.sublist (List.filter_sublist.map _)) (fun p hp => hokm p (List.mem_filter.1 hp).1) hp2 hown
                obtain ⟨μ', hm', p1, p2⟩ := hr.found (o := .map (es.filter fun p => onP now (prU p))) (loc := ⟨w.heap.size, 0, 0, 0, 0, true, false⟩) hbl (Nat.le_refl _) hgO ⟨rfl, rfl⟩ (fun μ' hle _ => MR.mono hle hmr)
                exact ⟨_, rfl, μ', VR.map _ _ hm', p1, p2⟩
            · cases hh
          · cases hh
        · cases hh
      · cases hh
    · cases hh
  · cases hh
end

theorem next_keeps {call : CallV} {all : List Value} {h : AHeap} {r : Value} {h' : AHeap} (hh : pNext call all h = some (r, h')) : Keeps h h' := by
  unfold pNext at hh
  repeat' split at hh
  all_goals first | (cases hh; exact Keeps.refl _) | cases hh
theorem banned_keeps {call : CallV} {all : List Value} {h : AHeap} {r : Value} {h' : AHeap} (hl : h.low ≤ h.next) (hh : pBanned call all h = some (r, h')) : Keeps h h' := by
  unfold pBanned at hh
  repeat' split at hh
  all_goals first | (cases hh; exact Keeps.refl _) | (cases hh; exact Keeps.ofAlloc hl _) | cases hh
theorem collect_keeps {call : CallV} {all : List Value} {h : AHeap} {r : Value} {h' : AHeap} (hl : h.low ≤ h.next) (hh : pCollect call all h = some (r, h')) : Keeps h h' := by
  unfold pCollect at hh
  repeat' split at hh
  all_goals first | (cases hh; exact Keeps.ofAlloc hl _) | cases hh
end Go.AM

namespace Go.Proofs.Ytodcnfabnlojdaa
open Go.AM

/-- What stands for the functions that go through a map. -/
noncomputable def prims : Prims := fun g => if g = 25 then some pNow else if g = 26 then some pFrom else if g = 33 then some pBanned else if g = 36 then some pNext else if g = 64 then some pCollect else none
theorem hp : PMono prims := by
  intro g p e c c' _ all h r hh
  unfold prims at e
  repeat' split at e
  all_goals first | (cases e; exact hh) | cases e
theorem primsOk : ∀ g p, prims g = some p → PrimOk Try.prog (fun _ => false) g p := by
  intro g p e
  unfold prims at e
  split at e
  · rename_i q; cases e; subst q; exact now_ok _
  split at e
  · rename_i q; cases e; subst q; exact from_ok _
  split at e
  · rename_i q; cases e; subst q; exact banned_ok _
  split at e
  · rename_i q; cases e; subst q; exact next_ok _
  split at e
  · rename_i q; cases e; subst q; exact collect_ok _
  · cases e
theorem primsKeep : PrimsKeep prims := by
  intro g p e call hk all h r h' hl hh
  unfold prims at e
  split at e
  · cases e; exact now_keeps hh
  split at e
  · cases e; exact from_keeps hl hh
  split at e
  · cases e; exact banned_keeps hl hh
  split at e
  · cases e; exact next_keeps hh
  split at e
  · cases e; exact collect_keeps hl hh
  · cases e
abbrev W (K : Nat) (args : List Value) (h : AHeap) (Q : VQ) : Prop := CallW Try.prog prims (.func (.func K) #[] #[]) args h Q
abbrev pv (p : Nat) : Value := .pointer (some ⟨p, 0, none⟩)
end Go.Proofs.Ytodcnfabnlojdaa

namespace Go.Proofs.Ytodcnfabnlojdaa
open Go.AM
set_option maxRecDepth 8000
theorem b49_T1 : type_of% (And.intro (@AM.bin_geq) (And.intro (@AM.bin_leq) (@AM.op_binOp))) := And.intro (@AM.bin_geq) (And.intro (@AM.bin_leq) (@AM.op_binOp))
theorem b48_T1 : type_of% (And.intro (@AM.op_call) (And.intro (@AM.op_unOp) (And.intro (@AM.un_neg) (@AM.un_not)))) := And.intro (@AM.op_call) (And.intro (@AM.op_unOp) (And.intro (@AM.un_neg) (@AM.un_not)))


theorem may_w (p : Int) (h : AHeap) (Q : VQ) (hq : Q (.bool (decide (0 ≤ p ∧ p ≤ 15))) h) : W 49 [.int .i64 p] h Q := by
  refine AM.enter hp (fn := Try.f49) (rs := [.tmp 2]) (nt := 9) (by kernel_rfl) Try.func49 rfl rfl rfl (by kernel_rfl) ?_
  simp (maxSteps := 1000000) (disch := first | omega | (simp only [AM.DB, List.length_set, List.length_map]; first | done | omega)) only [AM.RB, Nat.reduceAdd, Nat.reduceMul, Nat.reduceEqDiff, reduceCtorEq, b49_T1]
  refine AM.guard_split (fun h0 => ?_) (fun h0 => ?_)
  · simp (maxSteps := 1000000) (disch := first | omega | (simp only [AM.DB, List.length_set, List.length_map]; first | done | omega)) only [AM.RB, Nat.reduceAdd, Nat.reduceMul, Nat.reduceEqDiff, reduceCtorEq, b49_T1, decide_eq_true h0]
    simpa [show 0 ≤ p from h0] using hq
  · simp (maxSteps := 1000000) (disch := first | omega | (simp only [AM.DB, List.length_set, List.length_map]; first | done | omega)) only [AM.RB, Nat.reduceAdd, Nat.reduceMul, Nat.reduceEqDiff, reduceCtorEq, b49_T1, decide_eq_false h0]
    simpa [show ¬ 0 ≤ p from h0] using hq

theorem all1_w (p : Int) (h : AHeap) (Q : VQ) (hq : Q (.bool (!decide (0 ≤ p ∧ p ≤ 15))) h) : W 48 [.int .i64 p] h Q := by
  refine AM.enter hp (fn := Try.f48) (rs := [.tmp 2]) (nt := 6) (by kernel_rfl) Try.func48 rfl rfl rfl (by kernel_rfl) ?_
  simp (maxSteps := 1000000) (disch := first | omega | (simp only [AM.DB, List.length_set, List.length_map]; first | done | omega)) only [AM.RB, Nat.reduceAdd, Nat.reduceMul, Nat.reduceEqDiff, reduceCtorEq, b48_T1]
  refine may_w p h _ ?_
  simp (maxSteps := 1000000) (disch := first | omega | (simp only [AM.DB, List.length_set, List.length_map]; first | done | omega)) only [AM.RB, Nat.reduceAdd, Nat.reduceMul, Nat.reduceEqDiff, reduceCtorEq, b48_T1]
  exact hq

end Go.Proofs.Ytodcnfabnlojdaa

namespace Go.Proofs.Ytodcnfabnlojdaa
open Go.AM
set_option maxRecDepth 8000
theorem b69_T2 : type_of% (And.intro (@AM.bin_add) (And.intro (@AM.bin_lss) (And.intro (@AM.iaO_ok) (And.intro (AM.ia_slice el_22) (And.intro (@AM.ldO_agg) (And.intro (@AM.ldO_one) (And.intro (@AM.ld_ptr) (And.intro (AM.len_slice ul_22) (And.intro (@lk_3) (And.intro (@AM.op_binOp) (And.intro (@AM.op_call) (And.intro (@AM.op_indexAddr) (And.intro (@AM.op_len) (@AM.op_load)))))))))))))) := And.intro (@AM.bin_add) (And.intro (@AM.bin_lss) (And.intro (@AM.iaO_ok) (And.intro (AM.ia_slice el_22) (And.intro (@AM.ldO_agg) (And.intro (@AM.ldO_one) (And.intro (@AM.ld_ptr) (And.intro (AM.len_slice ul_22) (And.intro (@lk_3) (And.intro (@AM.op_binOp) (And.intro (@AM.op_call) (And.intro (@AM.op_indexAddr) (And.intro (@AM.op_len) (@AM.op_load)))))))))))))


/-- A function that says of a number whether it has a property. -/
def PredF (f : Value) (p : Int → Bool) : Prop := ∀ (x : Int) (h : AHeap) (Q : VQ), (∀ h', Fr none' h h' → Q (.bool (p x)) h') → CallW Try.prog prims f [.int .i64 x] h Q

theorem findIdx_at (l : List Int) (p : Int → Bool) (i : Nat) (hi : i < l.length) (hall : ∀ j, j < i → p (l.getD j 0) = false) (hp1 : p (l.getD i 0) = true) : l.findIdx? p = some i := by
  rw [List.findIdx?_eq_some_iff_getElem]
  refine ⟨hi, ?_, fun j hj => ?_⟩
  · simpa [List.getD, hi] using hp1
  · have := hall j hj
    simpa [List.getD, show j < l.length by omega] using this
theorem findIdx_no (l : List Int) (p : Int → Bool) (hall : ∀ j, j < l.length → p (l.getD j 0) = false) : l.findIdx? p = none := by
  rw [List.findIdx?_eq_none_iff]
  intro x hx
  obtain ⟨j, hj, rfl⟩ := List.getElem_of_mem hx
  simpa [List.getD, hj] using hall j hj

theorem indexFunc_w {f : Value} {p : Int → Bool} (hf : PredF f p) {s : Value} {n : Nat} {l : List Int} {h : AHeap} (hs : Rd h 3 1 s n (l.map (.int .i64))) (hn : n ≤ 4000000000) {Q : VQ}
    (hq : ∀ h' r, Fr none' h h' → (r = (l.findIdx? p).elim (-1) (fun (i : Nat) => (i : Int))) → Q (.int .i64 r) h') : W 69 [s, f] h Q := by
  obtain ⟨a, cap, rfl⟩ := hs.form
  have hlen : l.length = n := by simpa using hs.length
  refine AM.enter hp (fn := Try.f69) (rs := [.tmp 4]) (nt := 19) (by kernel_rfl) Try.func69 rfl rfl rfl (by kernel_rfl) ?_
  simp (maxSteps := 1000000) (disch := first | omega | (simp only [AM.DB, List.length_set, List.length_map]; first | done | omega)) only [AM.RB, Nat.reduceAdd, Nat.reduceMul, Nat.reduceEqDiff, reduceCtorEq, b69_T2]
  refine AM.loop_w hp 19 (fun i : Nat => [(0, .slice a n cap), (1, f), (7, .int .i64 n), (8, .int .i64 i)]) (fun i h' => i ≤ n ∧ Fr none' h h' ∧ ∀ j, j < i → p (l.getD j 0) = false) (fun i => n - i) (by kernel_rfl) 0 ?_ ?_ ?_
  · simp (maxSteps := 1000000) (disch := first | omega | (simp only [AM.DB, List.length_set, List.length_map]; first | done | omega)) only [AM.RB, Nat.reduceAdd, Nat.reduceMul, Nat.reduceEqDiff, reduceCtorEq, b69_T2]
  · exact ⟨Nat.zero_le _, Fr.refl _ _, fun j hj => by omega⟩
  · rintro i h1 ρ ⟨hi, fr, hall⟩
    have hs1 := hs.fr0 fr
    simp (maxSteps := 1000000) (disch := first | omega | (simp only [AM.DB, List.length_set, List.length_map]; first | done | omega)) only [AM.RB, Nat.reduceAdd, Nat.reduceMul, Nat.reduceEqDiff, reduceCtorEq, b69_T2]
    refine AM.condV_split (fun hlt => ?_) (fun hlt => ?_)
    · simp (maxSteps := 1000000) (disch := first | omega | (simp only [AM.DB, List.length_set, List.length_map]; first | done | omega)) only [AM.RB, Nat.reduceAdd, Nat.reduceMul, Nat.reduceEqDiff, reduceCtorEq, b69_T2, hs1.ia el_22, hs1.ldi lk_3]
      refine hf _ _ _ fun h2 fr2 => ?_
      simp (maxSteps := 1000000) (disch := first | omega | (simp only [AM.DB, List.length_set, List.length_map]; first | done | omega)) only [AM.RB, Nat.reduceAdd, Nat.reduceMul, Nat.reduceEqDiff, reduceCtorEq, b69_T2]
      refine AM.condV_bool (fun hp1 => ?_) (fun hp1 => ?_)
      · simp (maxSteps := 1000000) (disch := first | omega | (simp only [AM.DB, List.length_set, List.length_map]; first | done | omega)) only [AM.RB, Nat.reduceAdd, Nat.reduceMul, Nat.reduceEqDiff, reduceCtorEq, b69_T2]
        refine hq _ _ (fr.trans fr2) ?_
        rw [findIdx_at l p i (by omega) hall (by simpa using hp1)]; rfl
      · simp (maxSteps := 1000000) (disch := first | omega | (simp only [AM.DB, List.length_set, List.length_map]; first | done | omega)) only [AM.RB, Nat.reduceAdd, Nat.reduceMul, Nat.reduceEqDiff, reduceCtorEq, b69_T2, AM.wrap_i64]
        refine ⟨i + 1, by omega, ?_, by omega, fr.trans fr2, fun j hj => ?_⟩
        · simp
        · by_cases e : j = i
          · subst e; simpa using hp1
          · exact hall j (by omega)
    · simp (maxSteps := 1000000) (disch := first | omega | (simp only [AM.DB, List.length_set, List.length_map]; first | done | omega)) only [AM.RB, Nat.reduceAdd, Nat.reduceMul, Nat.reduceEqDiff, reduceCtorEq, b69_T2]
      refine hq _ _ fr ?_
      rw [findIdx_no l p (fun j hj => hall j (by omega))]; rfl

end Go.Proofs.Ytodcnfabnlojdaa

namespace Go.Proofs.Ytodcnfabnlojdaa
open Go.AM
set_option maxRecDepth 8000
theorem b47_T3 : type_of% (And.intro (@AM.bin_geq) (And.intro (@AM.op_binOp) (@AM.op_call))) := And.intro (@AM.bin_geq) (And.intro (@AM.op_binOp) (@AM.op_call))
theorem b50_T3 : type_of% (And.intro (@Option.isNone_none.{0}) (And.intro (@Option.isNone_some.{0}) (And.intro (AM.bin_snil ul_22) (And.intro (AM.bsW_int bs_22) (And.intro (AM.bsW_nil bs_22) (And.intro (AM.bsW_slice bs_22) (And.intro (AM.bsW_string bs_22) (And.intro (@AM.op_append) (And.intro (@AM.op_binOp) (@AM.op_buildSlice)))))))))) := And.intro (@Option.isNone_none.{0}) (And.intro (@Option.isNone_some.{0}) (And.intro (AM.bin_snil ul_22) (And.intro (AM.bsW_int bs_22) (And.intro (AM.bsW_nil bs_22) (And.intro (AM.bsW_slice bs_22) (And.intro (AM.bsW_string bs_22) (And.intro (@AM.op_append) (And.intro (@AM.op_binOp) (@AM.op_buildSlice)))))))))
theorem b51_T3 : type_of% (And.intro (@List.map_toArray.{0,0}) (And.intro (@AM.boxK_agg) (And.intro (@AM.boxK_bool) (And.intro (@AM.boxK_func) (And.intro (@AM.boxK_int) (And.intro (@AM.boxK_map) (And.intro (@AM.boxK_pointer) (And.intro (@AM.boxK_slice) (And.intro (@AM.boxK_string) (And.intro (@AM.op_box) (@AM.op_makeFunc))))))))))) := And.intro (@List.map_toArray.{0,0}) (And.intro (@AM.boxK_agg) (And.intro (@AM.boxK_bool) (And.intro (@AM.boxK_func) (And.intro (@AM.boxK_int) (And.intro (@AM.boxK_map) (And.intro (@AM.boxK_pointer) (And.intro (@AM.boxK_slice) (And.intro (@AM.boxK_string) (And.intro (@AM.op_box) (@AM.op_makeFunc))))))))))


theorem containsFunc_w {f : Value} {p : Int → Bool} (hf : PredF f p) {s : Value} {n : Nat} {l : List Int} {h : AHeap} (hs : Rd h 3 1 s n (l.map (.int .i64))) (hn : n ≤ 4000000000) {Q : VQ}
    (hq : ∀ h', Fr none' h h' → Q (.bool (l.any p)) h') : W 47 [s, f] h Q := by
  refine AM.enter hp (fn := Try.f47) (rs := [.tmp 4]) (nt := 9) (by kernel_rfl) Try.func47 rfl rfl rfl (by kernel_rfl) ?_
  simp (maxSteps := 1000000) (disch := first | omega | (simp only [AM.DB, List.length_set, List.length_map]; first | done | omega)) only [AM.RB, Nat.reduceAdd, Nat.reduceMul, Nat.reduceEqDiff, reduceCtorEq, b47_T3]
  refine indexFunc_w hf hs hn fun h' r fr hr => ?_
  simp (maxSteps := 1000000) (disch := first | omega | (simp only [AM.DB, List.length_set, List.length_map]; first | done | omega)) only [AM.RB, Nat.reduceAdd, Nat.reduceMul, Nat.reduceEqDiff, reduceCtorEq, b47_T3]
  have e : decide (0 ≤ r) = l.any p := by
    rw [hr]
    cases hx : l.findIdx? p with
    | none =>
      rw [List.findIdx?_eq_none_iff] at hx
      have : l.any p = false := by rw [List.any_eq_false]; intro x hxx; simpa using hx x hxx
      rw [this]; rfl
    | some i =>
      rw [List.findIdx?_eq_some_iff_getElem] at hx
      obtain ⟨hi, hp1, _⟩ := hx
      have : l.any p = true := by rw [List.any_eq_true]; exact ⟨_, List.getElem_mem hi, hp1⟩
      rw [this]; simp
  rw [e]
  exact hq h' fr

theorem clone_w {s : Value} {n : Nat} {cs : List Value} {h : AHeap} (hs : Rd h 3 1 s n cs) (hc : cs.all (·.oneCell') = true) (hn : n ≤ 4000000000) (hl : h.low ≤ h.next) {Q : VQ}
    (hq : ∀ v h', Ow h' 3 1 v n cs → Fr none' h h' → (∀ id, idOf v id → h.next ≤ id) → Q v h') : W 50 [s] h Q := by
  obtain ⟨a, cap, rfl⟩ := hs.form
  refine AM.enter hp (fn := Try.f50) (rs := [.tmp 2]) (nt := 8) (by kernel_rfl) Try.func50 rfl rfl rfl (by kernel_rfl) ?_
  simp (maxSteps := 1000000) (disch := first | omega | (simp only [AM.DB, List.length_set, List.length_map]; first | done | omega)) only [AM.RB, Nat.reduceAdd, Nat.reduceMul, Nat.reduceEqDiff, reduceCtorEq, b50_T3]
  cases a with
  | none =>
    simp (maxSteps := 1000000) (disch := first | omega | (simp only [AM.DB, List.length_set, List.length_map]; first | done | omega)) only [AM.RB, Nat.reduceAdd, Nat.reduceMul, Nat.reduceEqDiff, reduceCtorEq, b50_T3, Option.isNone_none]
    rcases hs with ⟨e, rfl, rfl⟩ | ⟨id, off, cap', c, e', o, e, _⟩
    · exact hq _ _ (Ow.nil _ _ _) (Fr.refl _ _) (fun _ q => q.elim)
    · cases e
  | some a =>
    simp (maxSteps := 1000000) (disch := first | omega | (simp only [AM.DB, List.length_set, List.length_map]; first | done | omega)) only [AM.RB, Nat.reduceAdd, Nat.reduceMul, Nat.reduceEqDiff, reduceCtorEq, b50_T3, Option.isNone_some]
    have fr0 : Fr none' h (h.alloc (.cells [] 3 false)) := (Fr.refl _ _).alloc _
    have ow0 : Ow (h.alloc (.cells [] 3 false)) 3 1 (.slice (some ⟨h.next, 0, none⟩) 0 0) 0 [] := AM.Ow.whole (n := 0) (AM.get_alloc_self rfl) rfl hl
    have hl1 : (h.alloc (.cells [] 3 false)).low ≤ (h.alloc (.cells [] 3 false)).next := by simp only [AHeap.next_alloc, AHeap.low_alloc]; omega
    refine AM.appends_w ap_22 ap_22 ow0 (hs.fr0 fr0) hc hl1 (AM.fits (by omega) (by omega)) (AM.fits' (by omega)) ?_
    intro v h' how fr hid
    simp (maxSteps := 1000000) (disch := first | omega | (simp only [AM.DB, List.length_set, List.length_map]; first | done | omega)) only [AM.RB, Nat.reduceAdd, Nat.reduceMul, Nat.reduceEqDiff, reduceCtorEq, b50_T3]
    rw [Nat.zero_add] at how
    refine hq _ _ how (fr0.then fr fun id h1 h2 => ?_) (fun id q => ?_)
    · have : id = h.next := h2
      omega
    · rcases hid id q with h2 | h2
      · have : id = h.next := h2
        omega
      · have : h.next + 1 ≤ id := h2
        omega

theorem along_w {s : Value} {r : Int} {h : AHeap} {Q : VQ} (hs : s.cells = #[s]) (h1 : s.oneCell' = true)
    (hq : ∀ w1 w2 h', h'.get w1 = some (.cells [s] 22 false) → h'.get w2 = some (.cells [.int .i64 r] 3 false) → Fr none' h h' → h.next ≤ w1 → h.next ≤ w2 →
      Q (.func (.func 70) #[] #[.pointer (some ⟨w1, 0, none⟩), .pointer (some ⟨w2, 0, none⟩)]) h') : W 51 [s, .int .i64 r] h Q := by
  refine AM.enter hp (fn := Try.f51) (rs := [.tmp 4]) (nt := 6) (by kernel_rfl) Try.func51 rfl rfl rfl (by kernel_rfl) ?_
  simp (maxSteps := 1000000) (disch := first | omega | (simp only [AM.DB, List.length_set, List.length_map]; first | done | omega)) only [AM.RB, Nat.reduceAdd, Nat.reduceMul, Nat.reduceEqDiff, reduceCtorEq, b51_T3, AM.boxK_one _ _ s _ hs h1]
  refine hq _ _ _ ?_ ?_ (((Fr.refl _ _).alloc _).alloc _) (Nat.le_refl _) (Nat.le_succ _)
  · rw [AM.get_alloc_ne (by simp only [AHeap.next_alloc]; omega), AM.get_alloc_self rfl]
  · rw [AM.get_alloc_self (by simp only [AHeap.next_alloc])]

end Go.Proofs.Ytodcnfabnlojdaa
