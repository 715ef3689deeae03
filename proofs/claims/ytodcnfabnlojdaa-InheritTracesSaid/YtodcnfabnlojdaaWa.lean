/- Walks of this claim's functions, and plain laws. -/
import Derived.Test.YtodcnfabnlojdaaProg
import Derived.Test.YtodcnfabnlojdaaAMRules
import Derived.Test.YtodcnfabnlojdaaAMOps6
import Derived.KernelRfl
import Derived.Shelf.SlIterI.Nil
import Derived.Shelf.SortM.Plain
import Derived.Shelf.SortM.SortNone
import Derived.Ground.GgzProg
import Derived.Ground.SlgmProg
import Derived.Test.YtodcnfabnlojdaaAMIter2
import Derived.Test.YtodcnfabnlojdaaAMLaw
import Derived.Test.YtodcnfabnlojdaaChecked
import Derived.WalkKit
import Derived.Tactics
import Derived.Tactics2
import Derived.LoopTactic
import Derived.LoopN
import Derived.Laws.Pointers
import Derived.Laws.Small
import Derived.Laws.IdiomRangeMap
import Derived.Maps.Range
import Derived.TacticsInMore
import Derived.RegionIn
import Derived.LoopNIn
import Derived.LoopIn
import Derived.OwnWalkIn
import Derived.Test.YtodcnfabnlojdaaAMOps10
set_option linter.unusedSimpArgs false
set_option linter.unusedVariables false
namespace Go.Proofs.Ytodcnfabnlojdaa
open Go.AM

theorem lk_3 : lkI Try.prog 3 = some none := by kernel_rfl
theorem sz_3 : szI Try.prog 3 = some 1 := by kernel_rfl
theorem ul_4 : Try.prog.underlying 4 = some (.bool) := by kernel_rfl
theorem ul_22 : Try.prog.underlying 22 = some (.slice 3) := by kernel_rfl
theorem el_22 : elI Try.prog 22 = some (3, 1) := by kernel_rfl
theorem bs_22 : bsI Try.prog 22 = some (3, 1) := by kernel_rfl
theorem ul_40 : Try.prog.underlying 40 = some (.slice 42) := by kernel_rfl
theorem el_40 : elI Try.prog 40 = some (42, 3) := by kernel_rfl
theorem fd_42_1 : fdI Try.prog 42 1 = some 1 := by kernel_rfl
theorem fd_42_2 : fdI Try.prog 42 2 = some 2 := by kernel_rfl
theorem ul_43 : Try.prog.underlying 43 = some (.map 3 3) := by kernel_rfl
theorem lk_43 : lkI Try.prog 43 = some none := by kernel_rfl
theorem sz_43 : szI Try.prog 43 = some 1 := by kernel_rfl
theorem mp_43 : mpI Try.prog 43 = some (.int .i64 0) := by kernel_rfl
theorem al_45 : alI Try.prog 45 = some ([.int .i64 0, .map none]) := by kernel_rfl
theorem fd_45_0 : fdI Try.prog 45 0 = some 0 := by kernel_rfl
theorem fd_45_1 : fdI Try.prog 45 1 = some 1 := by kernel_rfl
theorem ul_72 : Try.prog.underlying 72 = some (.pointer 45) := by kernel_rfl
theorem lk_72 : lkI Try.prog 72 = some none := by kernel_rfl
end Go.Proofs.Ytodcnfabnlojdaa

/-
  DERIVED: THE SHELF's CONTRACTS AT THIS DUMP, IN PLAIN WORDS (tools/lay-plain.mjs out of 'the laying.lean', which tools/lay-shelf.mjs wrote): THE SAME DECLARATIONS UNDER THE SAME NAMES: 'import', 'namespace', 'open', 'def', 'theorem' AND NOTHING ELSE: no command of the shelf's: FOR A HAND-IN. Each laying: the table of numbers ('.._ren') and one theorem, a field a fact of the dump's own or the kernel's comparison; each contract: ONE APPLICATION.
-/
namespace Go.Proofs
open Go.Shelf
def Try.keysA_ren : Go.Shelf.Ren := ⟨fun | 7 => 61 | 10 => 74 | n => n, fun | 23 => 43 | 26 => 3 | 3 => 3 | 28 => 86 | 0 => 0 | 27 => 85 | 33 => 50 | 4 => 4 | n => n, fun | n => n⟩
theorem Try.keysA : Go.Proofs.SlLaysZI.n7 Try.prog Try.keysA_ren := {
  mixed := by kernel_rfl
  f7 := ⟨Try.f61.name, by decide, Try.func61.trans (congrArg some (by kernel_rfl))⟩
  f10 := ⟨Try.f74.name, by decide, Try.func74.trans (congrArg some (by kernel_rfl))⟩
  t0 := Try.underlying0
  a0 := Try.isAgg0
  z0 := Try.sizeOf0
  v0 := Try.zeroValue0
  t4 := Try.underlying4
  a4 := Try.isAgg4
  z4 := Try.sizeOf4
  v4 := Try.zeroValue4
  t23 := Try.underlying43
  a23 := Try.isAgg43
  z23 := Try.sizeOf43
  v23 := Try.zeroValue43
  t26 := Try.underlying3
  a26 := Try.isAgg3
  z26 := Try.sizeOf3
  v26 := Try.zeroValue3
  t27 := Try.underlying85
  a27 := Try.isAgg85
  z27 := Try.sizeOf85
  v27 := Try.zeroValue85
  t28 := Try.underlying86
  a28 := Try.isAgg86
  z28 := Try.sizeOf86
  v28 := Try.zeroValue86
  t33 := Try.underlying50
  a33 := Try.isAgg50
  z33 := Try.sizeOf50
  v33 := Try.zeroValue50 }
def Try.sortedA_ren : Go.Shelf.Ren := ⟨fun | 6 => 60 | 8 => 73 | 9 => 67 | 11 => 79 | 13 => 78 | 12 => 77 | 23 => 89 | 24 => 90 | 14 => 80 | 15 => 81 | 16 => 82 | 17 => 83 | 18 => 84 | 19 => 85 | 20 => 86 | 21 => 87 | 22 => 88 | 25 => 91 | 26 => 92 | 27 => 93 | 28 => 94 | 29 => 95 | 30 => 71 | 31 => 96 | n => n, fun | 26 => 3 | 28 => 86 | 24 => 22 | 0 => 0 | 3 => 3 | 37 => 111 | 48 => 122 | 50 => 29 | 4 => 4 | 40 => 115 | 39 => 114 | 45 => 119 | 5 => 5 | 9 => 9 | 51 => 124 | 55 => 128 | 57 => 130 | 58 => 131 | 33 => 50 | n => n, fun | n => n⟩
theorem Try.sortedA : Go.Proofs.SlLaysZI.n6 Try.prog Try.sortedA_ren := {
  mixed := by kernel_rfl
  f6 := ⟨Try.f60.name, by decide, Try.func60.trans (congrArg some (by kernel_rfl))⟩
  f8 := ⟨Try.f73.name, by decide, Try.func73.trans (congrArg some (by kernel_rfl))⟩
  f11 := ⟨Try.f79.name, by decide, Try.func79.trans (congrArg some (by kernel_rfl))⟩
  t0 := Try.underlying0
  a0 := Try.isAgg0
  z0 := Try.sizeOf0
  v0 := Try.zeroValue0
  t24 := Try.underlying22
  a24 := Try.isAgg22
  z24 := Try.sizeOf22
  v24 := Try.zeroValue22
  t26 := Try.underlying3
  a26 := Try.isAgg3
  z26 := Try.sizeOf3
  v26 := Try.zeroValue3
  t28 := Try.underlying86
  a28 := Try.isAgg86
  z28 := Try.sizeOf86
  v28 := Try.zeroValue86
  i26 := by kernel_rfl }
def Try.sortA_ren : Go.Shelf.Ren := ⟨fun | 5 => 67 | 8 => 78 | 7 => 77 | 19 => 89 | 20 => 90 | 10 => 80 | 11 => 81 | 12 => 82 | 13 => 83 | 14 => 84 | 15 => 85 | 16 => 86 | 17 => 87 | 18 => 88 | 30 => 91 | 31 => 92 | 32 => 93 | 33 => 94 | 34 => 95 | 35 => 71 | 40 => 96 | n => n, fun | 23 => 22 | 25 => 3 | 3 => 3 | 32 => 111 | 22 => 22 | 0 => 0 | 44 => 122 | 46 => 29 | 4 => 4 | 36 => 115 | 35 => 114 | 41 => 119 | 5 => 5 | 9 => 9 | 53 => 124 | 57 => 128 | 63 => 130 | 64 => 131 | n => n, fun | n => n⟩
theorem Try.sortA : Go.Proofs.SlLaysM.n5 Try.prog Try.sortA_ren := {
  mixed := by kernel_rfl
  f5 := ⟨Try.f67.name, by decide, Try.func67.trans (congrArg some (by kernel_rfl))⟩
  f7 := ⟨Try.f77.name, by decide, Try.func77.trans (congrArg some (by kernel_rfl))⟩
  f8 := Try.func78.trans (congrArg some (by kernel_rfl))
  f10 := ⟨Try.f80.name, by decide, Try.func80.trans (congrArg some (by kernel_rfl))⟩
  f11 := ⟨Try.f81.name, by decide, Try.func81.trans (congrArg some (by kernel_rfl))⟩
  f12 := ⟨Try.f82.name, by decide, Try.func82.trans (congrArg some (by kernel_rfl))⟩
  f13 := ⟨Try.f83.name, by decide, Try.func83.trans (congrArg some (by kernel_rfl))⟩
  f14 := ⟨Try.f84.name, by decide, Try.func84.trans (congrArg some (by kernel_rfl))⟩
  f15 := ⟨Try.f85.name, by decide, Try.func85.trans (congrArg some (by kernel_rfl))⟩
  f16 := ⟨Try.f86.name, by decide, Try.func86.trans (congrArg some (by kernel_rfl))⟩
  f17 := ⟨Try.f87.name, by decide, Try.func87.trans (congrArg some (by kernel_rfl))⟩
  f18 := ⟨Try.f88.name, by decide, Try.func88.trans (congrArg some (by kernel_rfl))⟩
  f19 := Try.func89.trans (congrArg some (by kernel_rfl))
  f20 := Try.func90.trans (congrArg some (by kernel_rfl))
  f30 := ⟨Try.f91.name, by decide, Try.func91.trans (congrArg some (by kernel_rfl))⟩
  f31 := Try.func92.trans (congrArg some (by kernel_rfl))
  f32 := Try.func93.trans (congrArg some (by kernel_rfl))
  f33 := ⟨Try.f94.name, by decide, Try.func94.trans (congrArg some (by kernel_rfl))⟩
  f34 := ⟨Try.f95.name, by decide, Try.func95.trans (congrArg some (by kernel_rfl))⟩
  f35 := ⟨Try.f71.name, by decide, Try.func71.trans (congrArg some (by kernel_rfl))⟩
  f40 := ⟨Try.f96.name, by decide, Try.func96.trans (congrArg some (by kernel_rfl))⟩
  t0 := Try.underlying0
  a0 := Try.isAgg0
  z0 := Try.sizeOf0
  v0 := Try.zeroValue0
  t3 := Try.underlying3
  a3 := Try.isAgg3
  z3 := Try.sizeOf3
  v3 := Try.zeroValue3
  t4 := Try.underlying4
  a4 := Try.isAgg4
  z4 := Try.sizeOf4
  v4 := Try.zeroValue4
  t5 := Try.underlying5
  a5 := Try.isAgg5
  z5 := Try.sizeOf5
  v5 := Try.zeroValue5
  t9 := Try.underlying9
  a9 := Try.isAgg9
  z9 := Try.sizeOf9
  v9 := Try.zeroValue9
  t22 := Try.underlying22
  a22 := Try.isAgg22
  z22 := Try.sizeOf22
  v22 := Try.zeroValue22
  t23 := Try.underlying22
  a23 := Try.isAgg22
  z23 := Try.sizeOf22
  v23 := Try.zeroValue22
  t25 := Try.underlying3
  a25 := Try.isAgg3
  z25 := Try.sizeOf3
  v25 := Try.zeroValue3
  t32 := Try.underlying111
  a32 := Try.isAgg111
  z32 := Try.sizeOf111
  v32 := Try.zeroValue111
  t35 := Try.underlying114
  a35 := Try.isAgg114
  z35 := Try.sizeOf114
  v35 := Try.zeroValue114
  t36 := Try.underlying115
  a36 := Try.isAgg115
  z36 := Try.sizeOf115
  v36 := Try.zeroValue115
  t41 := Try.underlying119
  a41 := Try.isAgg119
  z41 := Try.sizeOf119
  v41 := Try.zeroValue119
  t44 := Try.underlying122
  a44 := Try.isAgg122
  z44 := Try.sizeOf122
  v44 := Try.zeroValue122
  t46 := Try.underlying29
  a46 := Try.isAgg29
  z46 := Try.sizeOf29
  v46 := Try.zeroValue29
  t53 := Try.underlying124
  a53 := Try.isAgg124
  z53 := Try.sizeOf124
  v53 := Try.zeroValue124
  t57 := Try.underlying128
  a57 := Try.isAgg128
  z57 := Try.sizeOf128
  v57 := Try.zeroValue128
  t63 := Try.underlying130
  a63 := Try.isAgg130
  z63 := Try.sizeOf130
  v63 := Try.zeroValue130
  t64 := Try.underlying131
  a64 := Try.isAgg131
  z64 := Try.sizeOf131
  v64 := Try.zeroValue131 }
end Go.Proofs

/- inherit's Holder.Now: the greatest of all, in whatever order the map is gone through. -/
namespace Go.AM
open Go.Proofs Go.RowKit

/-- The greatest of a number and of the values of the entries that have been handed out. -/
def seenMax (o : Int) : List MapEntry → Array Nat → Int
  | [], _ => o
  | x :: l, seen => if seen.contains x.born then max (valOf x.val) (seenMax o l seen) else seenMax o l seen
theorem seenMax_none (o : Int) : ∀ (es : List MapEntry), seenMax o es #[] = o
  | [] => rfl
  | x :: l => by
    have : (#[] : Array Nat).contains x.born = false := by simp
    simp only [seenMax, this, Bool.false_eq_true, if_false, seenMax_none o l]
theorem seenMax_other (o : Int) (seen : Array Nat) (b : Nat) : ∀ (es : List MapEntry), b ∉ es.map (·.born) → seenMax o es (seen.push b) = seenMax o es seen
  | [], _ => rfl
  | x :: l, h => by
    have hx : (x.born == b) = false := by
      cases hc : x.born == b with
      | false => rfl
      | true => exact absurd (List.mem_cons.2 (Or.inl (beq_iff_eq.1 hc).symm)) h
    have ih := seenMax_other o seen b l (fun e => h (List.mem_cons.2 (Or.inr e)))
    simp only [seenMax, contains_push, hx, Bool.or_false, ih]
theorem seenMax_push (o : Int) (seen : Array Nat) (e : MapEntry) (hs : seen.contains e.born = false) : ∀ (es : List MapEntry), (es.map (·.born)).Nodup → e ∈ es → seenMax o es (seen.push e.born) = max (seenMax o es seen) (valOf e.val)
  | x :: l, hn, he => by
    have hn' : x.born ∉ l.map (·.born) ∧ (l.map (·.born)).Nodup := List.nodup_cons.1 hn
    rcases List.mem_cons.1 he with rfl | h
    · simp only [seenMax, contains_push, hs, beq_self_eq_true, Bool.or_true, if_true, Bool.false_eq_true, if_false, seenMax_other o seen e.born l hn'.1]
      omega
    · have hx : (x.born == e.born) = false := by
        cases hc : x.born == e.born with
        | false => rfl
        | true => exact absurd (by rw [beq_iff_eq.1 hc]; exact List.mem_map.2 ⟨e, h, rfl⟩) hn'.1
      simp only [seenMax, contains_push, hx, Bool.or_false, seenMax_push o seen e hs l hn'.2 h]
      split <;> omega
theorem seenMax_full (o : Int) (seen : Array Nat) : ∀ (es : List MapEntry), (∀ x ∈ es, seen.contains x.born = true) → seenMax o es seen = (es.map fun e => valOf e.val).foldr max o
  | [], _ => rfl
  | x :: l, h => by
    simp only [seenMax, h x (List.mem_cons.2 (Or.inl rfl)), if_true, List.map_cons, List.foldr_cons, seenMax_full o seen l (fun y hy => h y (List.mem_cons.2 (Or.inr hy)))]

section
variable {P : Program} {B : Nat} {μ : Map} {h : AHeap} {w : World}
theorem HR.below (hr : HR P B μ h w) {w' : World} (hb : Below w.heap.size w w') : Post P B μ h w μ h w' :=
  ⟨Map.le_refl _, fun _ _ a b => (by rw [a] at b; cases b), ⟨fun id loc a => ⟨(hr.dom id loc a).1, Nat.lt_of_lt_of_le (hr.dom id loc a).2 hb.size⟩,
    fun id loc o a g => (by rw [hb.block _ (hr.dom id loc a).2]; exact hr.obj id loc o a g), hr.own, hr.low, Nat.le_trans hr.base hb.size⟩, hb.size, fun b hb' _ => hb.block b hb', fun _ _ _ => rfl, ⟨hb.os, hb.tape, hb.output⟩⟩

/-- A block that the call has made is a new object. -/
theorem HR.found (hr : HR P B μ h w) {w' : World} (hbl : Below w.heap.size w w') {g : Nat} (hg : w.heap.size ≤ g) {o : AObj} {O : Obj} (hO : w'.heap[g]? = some O) {loc : Loc} (hbr : loc.blk = g ∧ loc.ro = false) (ho : ∀ μ', μ.le μ' → μ' h.next = some loc → OR P μ' loc o O) :
    ∃ μ', μ' h.next = some loc ∧ Post P B μ h w μ' (h.alloc o) w' ∧ Keeps h (h.alloc o) := by
  obtain ⟨hb, hro⟩ := hbr
  have hgs : g < w'.heap.size := (Array.getElem?_eq_some_iff.1 hO).1
  have hn : μ h.next = none := by
    cases e : μ h.next with
    | none => rfl
    | some l => have := (hr.dom _ _ e).1; omega
  let μ' : Map := fun id => if id = h.next then some loc else μ id
  have hle : μ.le μ' := by
    intro id l hl
    by_cases e : id = h.next
    · subst e; rw [hn] at hl; cases hl
    · simp [μ', e, hl]
  have hm : μ' h.next = some loc := by simp [μ']
  have off : ∀ {id l}, id ≠ h.next → μ' id = some l → μ id = some l := fun {id l} e a => by simpa only [μ', if_neg e] using a
  refine ⟨μ', hm, ⟨hle, ?_, ⟨?_, ?_, ?_, ?_, ?_⟩, hbl.size, fun b hb' _ => hbl.block b hb', fun id hid _ => (by rw [AHeap.get_alloc, if_neg (by omega)]), ⟨hbl.os, hbl.tape, hbl.output⟩⟩, Keeps.ofAlloc hr.low o⟩
  · intro id l a b
    by_cases e : id = h.next
    · subst e; rw [hm] at a; cases a; exact ⟨Nat.le_refl _, .inl (by omega)⟩
    · rw [off e a] at b; cases b
  · intro id l a
    by_cases e : id = h.next
    · subst e; rw [hm] at a; cases a; exact ⟨by simp, by omega⟩
    · have := hr.dom id l (off e a); have := hbl.size; simp; omega
  · intro id l ob a g'
    rw [AHeap.get_alloc] at g'
    by_cases e : id = h.next
    · subst e; rw [hm] at a; cases a
      rw [if_pos rfl] at g'; cases g'
      exact ⟨O, by rw [hb]; exact hO, ho μ' hle hm⟩
    · rw [if_neg e] at g'
      obtain ⟨O', h1, h2⟩ := hr.obj id l ob (off e a) g'
      exact ⟨O', by rw [hbl.block _ (hr.dom id l (off e a)).2]; exact h1, h2.mono hle⟩
  · intro id l a g' hlow
    rw [AHeap.get_alloc] at g'
    simp only [AHeap.low_alloc] at hlow
    by_cases e : id = h.next
    · subst e; rw [hm] at a; cases a
      refine ⟨hro, fun id' l' a' _ hne => ?_⟩
      have := (hr.dom id' l' (off hne a')).2
      omega
    · rw [if_neg e] at g'
      obtain ⟨h1, h2⟩ := hr.own id l (off e a) g' hlow
      refine ⟨h1, fun id' l' a' g'' hne => ?_⟩
      by_cases e' : id' = h.next
      · subst e'; rw [hm] at a'; cases a'; have := (hr.dom id l (off e a)).2; omega
      · rw [AHeap.get_alloc, if_neg e'] at g''
        exact h2 id' l' (off e' a') g'' hne
  · have := hr.low; simp; omega
  · have := hr.base; have := hbl.size; omega

theorem keyed3 : Maps.Keyed Try.prog 3 := Maps.int_keyed Try.underlying3
abbrev rdAny : Value → Option (DataW Unit × List MemPlace) := fun _ => some (.nil, [])

/-- Is a value a number of 64 bits? -/
def isW64 (v : Value) : Bool := match v with | .int .i64 n => (Lit.int .i64 n).wf | _ => false
theorem isW64_form {v : Value} (hv : isW64 v = true) : ∃ n, v = .int .i64 n ∧ (Lit.int .i64 n).wf = true := by
  unfold isW64 at hv
  split at hv
  · exact ⟨_, rfl, hv⟩
  · cases hv
def okEs (es : List (Value × Value)) : Bool := decide (es.length ≤ roomy) && es.all fun p => isW64 p.1 && isW64 p.2

theorem VRs.isW64 {l l' : List Value} (hl : VRs μ l l') (hi : l.all AM.isW64 = true) : l' = l := by
  induction l generalizing l' with
  | nil => exact hl.nil_inv
  | cons x l ih =>
    obtain ⟨x', m, rfl, hx, hl2⟩ := hl.cons_inv
    simp only [List.all_cons, Bool.and_eq_true] at hi
    obtain ⟨n, rfl, _⟩ := isW64_form hi.1
    cases hx
    rw [ih hl2 hi.2]

/-- What a map's block holds of such entries. -/
theorem MR.ok {es : List (Value × Value)} {E : Array MapEntry} {clock : Nat} (hm : MR μ es E clock) (hok : okEs es = true) :
    ∃ F : List MapEntry, F.Perm E.toList ∧ F.map (·.key) = es.map (·.1) ∧ F.map (·.val) = es.map (·.2) ∧ E.size ≤ roomy ∧ (∀ x ∈ E.toList, isW64 x.key = true ∧ isW64 x.val = true) := by
  have hsz := hm.size
  obtain ⟨hst, _, F, hp, h1, h2⟩ := hm
  simp only [okEs, Bool.and_eq_true, decide_eq_true_eq, List.all_eq_true] at hok
  have e1 := h1.isW64 (by simp only [List.all_map, List.all_eq_true, Function.comp]; exact fun x hx => (hok.2 x hx).1)
  have e2 := h2.isW64 (by simp only [List.all_map, List.all_eq_true, Function.comp]; exact fun x hx => (hok.2 x hx).2)
  refine ⟨F, hp, e1, e2, by omega, fun x hx => ?_⟩
  have hx' := hp.mem_iff.2 hx
  have k1 : x.key ∈ es.map (·.1) := by rw [← e1]; exact List.mem_map.2 ⟨x, hx', rfl⟩
  have k2 : x.val ∈ es.map (·.2) := by rw [← e2]; exact List.mem_map.2 ⟨x, hx', rfl⟩
  obtain ⟨y, hy, ey⟩ := List.mem_map.1 k1
  obtain ⟨z, hz, ez⟩ := List.mem_map.1 k2
  rw [← ey, ← ez]
  exact ⟨(hok.2 y hy).1, (hok.2 z hz).2⟩

theorem fit_of {E : Array MapEntry} {clock : Nat} (hst : MapKept.Stamped E clock) (hsz : E.size ≤ roomy) (hk : ∀ x ∈ E.toList, isW64 x.key = true ∧ isW64 x.val = true) : WideElems.Fit Try.prog 3 rdAny E clock :=
  ⟨by unfold roomy at hsz; unfold maxLen; omega, hst, fun x hx => by
    obtain ⟨n, e, hw⟩ := isW64_form (hk x hx).1
    exact ⟨_, WideElems.rd_mk (born := x.born) (by rw [e]; exact Maps.keyOf_int_mk Try.underlying3 hw) (val := x.val) rfl⟩⟩

open Classical in
/-- A step of the iterator leaves the tape. -/
theorem next_tape {es : Array MapEntry} {clock bm : Nat} (F : WideElems.Fit Try.prog 3 rdAny es clock) (w1 : World) (hb1 : w1.heap[bm]? = some (.map es clock)) (seen : Array Nat) {r : Value} {w' : World} {ty : TypeId}
    (hrun : (Instr.next (.pointer (some ⟨w1.heap.size, 0, none⟩)) false ty).run Try.prog (w1.alloc (.mapIter (some bm) clock seen clock)) = .ok r w') : w'.tape = w1.tape := by
  have hlt : bm < w1.heap.size := (Array.getElem?_eq_some_iff.1 hb1).1
  have hrg : (w1.alloc (.mapIter (some bm) clock seen clock)).ranges Try.prog 3 rdAny bm w1.heap.size es.size (.map ((es.toList.map (WideElems.rg Try.prog 3 rdAny)).foldr DataW.insert []))
      (fun kl => es.toList.any fun x => decide ((WideElems.rg Try.prog 3 rdAny x).1 = kl) && !seen.contains x.born) (leftOf es seen).size := by
    refine ⟨es, clock, clock, seen, clock, (heap_alloc_old w1 _ hlt).trans hb1, F, Nat.le_refl _, rfl, heap_alloc_new w1 _, F.stamped.1, rfl, ?_, ?_, Nat.le_refl _, Nat.le_refl _⟩
    · intro x hx
      cases hc : seen.contains x.born with
      | false => simp only [List.any_eq_true, Bool.not_false]; exact ⟨x, hx, by simp only [hc]; simp⟩
      | true =>
        simp only [Bool.not_true, List.any_eq_false]
        intro e he
        by_cases hk : (WideElems.rg Try.prog 3 rdAny e).1 = (WideElems.rg Try.prog 3 rdAny x).1
        · have := entry_eq_of_key ((MapKept.stamped_iff es clock).1 F.stamped).2.2 he hx (Maps.fit_key_inj keyed3 F he hx hk)
          subst this; rw [hc]; simp
        · simp [hk]
    · intro kl hkl
      obtain ⟨x, hx, hq⟩ := List.any_eq_true.1 hkl
      simp only [Bool.and_eq_true, decide_eq_true_eq] at hq
      exact ⟨x, hx, hq.1⟩
  rcases hrg.next keyed3 ty with ⟨_, _, h⟩ | ⟨key, v, kl, y, w'', cnt', _, _, _, _, h, _, _, hg, _⟩
  · rw [hrun] at h; cases h; rfl
  · rw [hrun] at h; cases h; exact hg.tape
end

set_option maxRecDepth 1000000 in
theorem now_some (b off bm clock : Nat) (own : Int) (es : Array MapEntry) (w : World) (hb : w.heap[bm]? = some (.map es clock)) (F : WideElems.Fit Try.prog 3 rdAny es clock) (hv : ∀ x ∈ es.toList, ∃ v, x.val = .int .i64 v)
    (h0 : w.cell? ⟨b, off, none⟩ = some (.int .i64 own)) (h1 : w.cell? ⟨b, off + 1, none⟩ = some (.map (some bm))) :
    Calls Try.prog 25 #[.pointer (some ⟨b, off, none⟩)] w fun e w' => e = .returned (.int .i64 ((es.toList.map fun e => valOf e.val).foldr max own)) ∧ ∃ (w1 : World) (seen : Array Nat), w1.Alike w ∧ w1.tape = w.tape ∧ w' = w1.alloc (.mapIter (some bm) clock seen clock) := by
  have hst := F.stamped
  have hrg := run_range_map (P := Try.prog) w 43 3 3 bm es clock Try.underlying43 hb
  go_enter Try.func25, Try.ntmps25
  go_wp2
  go_loopw [3] (fun s w' => ∃ (w1 : World) (seen : Array Nat), w1.Alike w ∧ w1.tape = w.tape ∧ w' = w1.alloc (.mapIter (some bm) clock seen clock) ∧ s = .int .i64 (seenMax own es.toList seen)) (fun _ w' => (leftOf es (w'.iterSeen w.heap.size)).size)
  case atStart => exact ⟨w, #[], ⟨rfl, rfl, rfl⟩, rfl, rfl, by rw [seenMax_none]⟩
  case round =>
    obtain ⟨w1, seen, hal, htp, rfl, rfl⟩ := hrel
    have hsz : w1.heap.size = w.heap.size := by rw [hal.1]
    have hb1 : w1.heap[bm]? = some (.map es clock) := by rw [hal.1]; exact hb
    have law := run_next_map (P := Try.prog) w1 0 bm clock clock seen es clock hb1 hst.1 (Nat.le_refl _)
    rw [hsz] at law
    rcases law with ⟨h0, hrun⟩ | ⟨e, he, w2, hal2, hrun⟩
    · have hnx : ∀ ty, (Instr.next (.pointer (some ⟨w.heap.size, 0, none⟩)) false ty).run Try.prog (w1.alloc (.mapIter (some bm) clock seen clock)) = _ := fun _ => hrun
      go_wp2
      go_ret
      rw [seenMax_full own seen es.toList (all_seen es seen h0)]
      exact ⟨rfl, w1, seen, hal, htp, rfl⟩
    · obtain ⟨v, hval⟩ := hv e (mem_left he).1
      have htp2 : w2.tape = w1.tape := next_tape F w1 hb1 seen (w' := w2.alloc (.mapIter (some bm) clock (seen.push e.born) clock)) (by rw [hsz]; exact hrun)
      rw [hval] at hrun
      have hnx : ∀ ty, (Instr.next (.pointer (some ⟨w.heap.size, 0, none⟩)) false ty).run Try.prog (w1.alloc (.mapIter (some bm) clock seen clock)) = _ := fun _ => hrun
      have hsz2 : w2.heap.size = w.heap.size := by rw [hal2.1, hal.1]
      have hb2 : w2.heap[bm]? = some (.map es clock) := by rw [hal2.1]; exact hb1
      have hen := run_entry_map (P := Try.prog) w2 bm clock seen es clock e hb2 (mem_left he).1 hst.2.1
      rw [hsz2, hval] at hen
      go_wp2
      go_roundw
      case rel =>
        refine ⟨w2, seen.push e.born, ⟨hal2.1.trans hal.1, hal2.2.1.trans hal.2.1, hal2.2.2.trans hal.2.2⟩, htp2.trans htp, rfl, ?_⟩
        rw [seenMax_push own seen e (mem_left he).2 es.toList hst.2.1 (mem_left he).1, hval]
        try simp only [valOf]
        try rfl
      case measure =>
        rw [← hsz2, World.iterSeen_alloc, hsz2, ← hsz, World.iterSeen_alloc]
        exact left_shrinks es seen e he

set_option maxRecDepth 1000000 in
theorem now_nilMap (b off : Nat) (own : Int) (w : World) (h0 : w.cell? ⟨b, off, none⟩ = some (.int .i64 own)) (h1 : w.cell? ⟨b, off + 1, none⟩ = some (.map none)) :
    Calls Try.prog 25 #[.pointer (some ⟨b, off, none⟩)] w fun e w' => e = .returned (.int .i64 own) ∧ w' = w.alloc (.mapIter none 0 #[] 0) := by
  have hrg := run_range_nilMap (P := Try.prog) w 43 3 3 Try.underlying43
  have hnx : ∀ ty, (Instr.next (.pointer (some ⟨w.heap.size, 0, none⟩)) false ty).run Try.prog (w.alloc (.mapIter none 0 #[] 0)) = _ := fun ty => run_next_nilMap w ty 0 0 #[]
  go_enter Try.func25, Try.ntmps25
  go_wp2
  refine wp_loop_rounds 1 ?_
  rw [rounds_succ]
  go_wp2
  go_ret
  exact ⟨rfl, rfl⟩

set_option maxRecDepth 1000000 in
theorem now_none (w : World) : Calls Try.prog 25 #[.pointer none] w fun e w' => e = .returned (.int .i64 0) ∧ w' = w := by
  go_enter Try.func25, Try.ntmps25
  go_wp2
  go_ret
  exact ⟨rfl, rfl⟩
end Go.AM

/- inherit's Holder.From: the map's keys, sorted. -/
namespace Go.AM
open Go.Proofs Go.RowKit Go.Maps Go.Sort Go.Shelf

theorem sortsA (m : Nat) : AnyZI.SortsIn Try.prog Try.sortedA_ren Fence.wide m :=
  ⟨fun blk off cap ss W hH hblk hsz => callsIn_wide.2 (AnyM.slices_Sort_int Try.sortA blk off cap ss W hH hblk hsz),
   fun p cap W => callsIn_wide.2 (AnyM.slices_Sort_int_none Try.sortA p cap W)⟩

set_option maxRecDepth 100000 in
set_option maxHeartbeats 1000000 in
theorem from_some {H : Type} (hb ho b nn : Nat) (D0 : DataW H) (R : Value → Option (DataW H × List MemPlace)) (w : World) (hown : w.ownsMap Try.prog 3 R b nn D0) (hmax : Maps.size D0 ≤ maxLen) (hbytes : Maps.size D0 * 8 ≤ 140737488355328)
    (h1 : w.cell? ⟨hb, ho + 1, none⟩ = some (.map (some b))) :
    Calls Try.prog 26 #[.pointer (some ⟨hb, ho, none⟩)] w fun e w' => ∃ (v : Value) (ss : List Int), e = .returned v ∧ ss.Perm (intKeys D0) ∧
      w'.ownsRow w.heap.size 3 1 v ss.length ((ss.mergeSort (fun x y => decide (x ≤ y))).map encZ) ∧ (v = .slice none 0 0 ↔ ss = []) ∧ Below w.heap.size w w' := by
  refine (callsIn_wide (n := 6)).1 ?_
  have hbl := hown.lt
  have hseq : SeqGives Fence.wide 2 Try.prog 74 #[.pointer (some ⟨w.heap.size, 0, none⟩)] encZ (fun ss => ss.Perm (intKeys D0)) (Maps.size D0) (w.alloc (.cells #[.map (some b)] 43)) :=
    AnyZI.keys_gives (ρ := Try.keysA_ren) { Try.keysA with } Fence.wide _ trivial rfl (by omega) w.heap.size b nn D0 _ (by simp) (by simp) (by
      obtain ⟨es, clock, hb, Ft, hs, hD⟩ := hown
      exact ⟨es, clock, (Below.heap_alloc _ _ b hbl).trans hb, Ft, hs, hD⟩)
  have cK : ∀ mb W, CallsIn Fence.wide 5 Try.prog 61 #[.map mb] W fun e w' => e = .returned (.func (.func 74) #[] #[.pointer (some ⟨W.heap.size, 0, none⟩)]) ∧ w' = W.alloc (.cells #[.map mb] 43) := fun mb W => AnyZI.keys_in Try.keysA Fence.wide 5 trivial rfl mb W
  have cS := AnyZI.sorted_in Try.sortedA Fence.wide 5 trivial trivial trivial trivial rfl (by omega) (sortsA _) (enters_of Try.func67 (by kernel_rfl) rfl) 74 #[.pointer (some ⟨w.heap.size, 0, none⟩)] trivial (enters_of Try.func74 (by kernel_rfl) rfl) _ _ hmax hbytes _ hseq
  change CallsIn _ _ Try.prog 60 _ _ _ at cS
  have hfK : Fence.wide.fn 61 := trivial
  have hfS : Fence.wide.fn 60 := trivial
  refine callsIn_of_wp Try.func26 rfl trivial ?_ rfl
  simp only [Try.ntmps26, List.size_toArray, List.length_cons, List.length_nil, Nat.reduceAdd, Nat.reduceSub, Array.replicate_succ, Array.replicate_zero, List.push_toArray, List.append_toArray, List.nil_append, List.cons_append]
  gi_wp2_with (first
    | (gi_at_call 61; refine (cK _ _).mono ?_; rintro e w' ⟨rfl, rfl⟩)
    | (gi_at_call 60; refine cS.mono ?_; rintro e w' ⟨v, ss, rfl, hS, hrow, hnil, hb⟩))
  go_ret
  exact ⟨v, ss, rfl, hS, ownsRow_base_a hrow (by simp), hnil, ((Below.refl _ w).alloc (Nat.le_refl _) _).trans (hb.mono (by simp))⟩

set_option maxHeartbeats 1000000 in
theorem from_nilMap (hb ho : Nat) (w : World) (h1 : w.cell? ⟨hb, ho + 1, none⟩ = some (.map none)) : Calls Try.prog 26 #[.pointer (some ⟨hb, ho, none⟩)] w fun e w' => e = .returned (.slice none 0 0) ∧ Below w.heap.size w w' := by
  refine (callsIn_wide (n := 6)).1 ?_
  have hseq : SeqGives Fence.wide 2 Try.prog 74 #[.pointer (some ⟨w.heap.size, 0, none⟩)] encZ (fun ss : List Int => ss = []) 0 (w.alloc (.cells #[.map none] 43)) :=
    AnyZI.keys_gives_nil (ρ := Try.keysA_ren) { Try.keysA with } Fence.wide _ trivial rfl w.heap.size _ (by simp) (by simp)
  have cK : ∀ mb W, CallsIn Fence.wide 5 Try.prog 61 #[.map mb] W fun e w' => e = .returned (.func (.func 74) #[] #[.pointer (some ⟨W.heap.size, 0, none⟩)]) ∧ w' = W.alloc (.cells #[.map mb] 43) := fun mb W => AnyZI.keys_in Try.keysA Fence.wide 5 trivial rfl mb W
  have cS := AnyZI.sorted_in Try.sortedA Fence.wide 5 trivial trivial trivial trivial rfl (by omega) (sortsA _) (enters_of Try.func67 (by kernel_rfl) rfl) 74 #[.pointer (some ⟨w.heap.size, 0, none⟩)] trivial (enters_of Try.func74 (by kernel_rfl) rfl) _ 0 (Nat.zero_le _) (by omega) _ hseq
  change CallsIn _ _ Try.prog 60 _ _ _ at cS
  have hfK : Fence.wide.fn 61 := trivial
  have hfS : Fence.wide.fn 60 := trivial
  refine callsIn_of_wp Try.func26 rfl trivial ?_ rfl
  simp only [Try.ntmps26, List.size_toArray, List.length_cons, List.length_nil, Nat.reduceAdd, Nat.reduceSub, Array.replicate_succ, Array.replicate_zero, List.push_toArray, List.append_toArray, List.nil_append, List.cons_append]
  gi_wp2_with (first
    | (gi_at_call 61; refine (cK _ _).mono ?_; rintro e w' ⟨rfl, rfl⟩)
    | (gi_at_call 60; refine cS.mono ?_; rintro e w' ⟨v, ss, rfl, rfl, hrow, hnil, hb⟩; obtain rfl : v = .slice none 0 0 := hnil.2 rfl))
  go_ret
  exact ⟨rfl, ((Below.refl _ w).alloc (Nat.le_refl _) _).trans (hb.mono (by simp))⟩

set_option maxRecDepth 100000 in
theorem from_none (w : World) : Calls Try.prog 26 #[.pointer none] w fun e w' => e = .returned (.slice none 0 0) ∧ w' = w := by
  go_enter Try.func26, Try.ntmps26
  go_wp2
  go_ret
  exact ⟨rfl, rfl⟩
end Go.AM

/- What stands for Holder.Now and Holder.From, and that it answers so. -/
namespace Go.AM
open Go.Proofs Go.RowKit Go.Maps Go.Sort Go.Shelf

noncomputable def pNow : CallV → List Value → AHeap → R Value := fun _ all h => match all with
  | [.pointer none] => some (.int .i64 0, h)
  | [.pointer (some ⟨id, off, none⟩)] =>
    match h.get id with
    | some (.cells c _ _) =>
      match c[off]?, c[off + 1]? with
      | some (.int .i64 o), some (.map none) => if h.low ≤ id then some (.int .i64 o, h) else none
      | some (.int .i64 o), some (.map (some m)) =>
        match h.get m with
        | some (.map es) => if h.low ≤ id ∧ okEs es = true then some (.int .i64 ((es.map fun p => valOf p.2).foldr max o), h) else none
        | _ => none
      | _, _ => none
    | _ => none
  | _ => none

noncomputable def pFrom : CallV → List Value → AHeap → R Value := fun _ all h => match all with
  | [.pointer none] => some (.slice none 0 0, h)
  | [.pointer (some ⟨id, off, none⟩)] =>
    match h.get id with
    | some (.cells c _ _) =>
      match c[off + 1]? with
      | some (.map none) => if h.low ≤ id then some (.slice none 0 0, h) else none
      | some (.map (some m)) =>
        match h.get m with
        | some (.map es) => if h.low ≤ id ∧ okEs es = true then (if es.length = 0 then some (.slice none 0 0, h) else some (sliceTo h.next 0 es.length es.length, h.alloc (.cells (((es.map fun p => valOf p.1).mergeSort leI).map (Value.int .i64)) 3 true))) else none
        | _ => none
      | _ => none
    | _ => none
  | _ => none

section
variable {P : Program} {B : Nat} {μ : Map} {h : AHeap} {w : World}
theorem cell_at (hr : HR P B μ h w) {id off : Nat} {loc : Loc} {c : List Value} {e : TypeId} {b : Bool} {x : Value} (hl : μ id = some loc) (hg : h.get id = some (.cells c e b)) (hlow : h.low ≤ id)
    (hc : c[off]? = some x) : ∃ x', w.cell? ⟨loc.blk, loc.base + off, none⟩ = some x' ∧ VR μ x x' := by
  obtain ⟨C, fr, hb, hcl, ho, hes, hcs, hbs, hvv, hall, hfr0⟩ := hr.rowOwn hl hg hlow
  obtain ⟨v', k1, k2⟩ := hvv.get hc
  refine ⟨v', ?_, k2⟩
  rw [cell_of_row w _ _ C _ fr hb]
  rw [List.getElem?_take] at k1
  split at k1
  · rw [List.getElem?_drop] at k1; simpa using k1
  · cases k1
end

theorem foldr_max_perm {l l' : List Int} (hp : l.Perm l') (o : Int) : l.foldr max o = l'.foldr max o := by
  induction hp with
  | nil => rfl
  | cons x _ ih => simp [ih]
  | swap x y l => simp only [List.foldr_cons]; omega
  | trans _ _ h1 h2 => exact h1.trans h2

theorem enterS {P : Program} {g : FuncId} {fn : Func} {c : Code} (hfn : P.funcs[g]? = some fn) (hb : fn.body = some c) (hname : (fn.name == "runtime.NumGoroutine") = false) (xs : Array Value) (w : World) : (callFunc g xs).run P w = .ok (.enter g xs) w := by
  simp only [callFunc, Sem.run_bind, run_program, Result.andThen_ok, hfn, hname, hb]
  simp

theorem now_ok (G : Nat → Bool) : PrimOk Try.prog G 25 pNow := by
  intro call _ B μ h w all r h' hh hg hr all' ha
  have enter := fun xs => enterS Try.func25 rfl (by kernel_rfl) xs w
  unfold pNow at hh
  split at hh
  · cases hh
    obtain ⟨a, m, e1, v1, ha⟩ := ha.cons_inv
    obtain rfl := ha.nil_inv
    cases v1
    obtain rfl : all' = #[.pointer none] := by apply Array.toList_inj.1; rw [e1]
    refine .inr ⟨_, _, w, enter _, callsIn_wide.2 ?_⟩
    refine (now_none w).mono ?_
    rintro x w' ⟨rfl, rfl⟩
    exact ⟨_, rfl, μ, .int _ _, Post.refl hr, Keeps.refl _⟩
  · rename_i id off
    obtain ⟨a, m, e1, v1, ha⟩ := ha.cons_inv
    obtain rfl := ha.nil_inv
    cases v1 with
    | ptr _ _ loc hl =>
    obtain rfl : all' = #[.pointer (some ⟨loc.blk, loc.base + off, none⟩)] := by apply Array.toList_inj.1; rw [e1]
    split at hh
    · rename_i c e o hgid
      split at hh
      · rename_i own hc0 hc1
        split at hh
        · rename_i hlow
          cases hh
          obtain ⟨x0, k0, u0⟩ := cell_at hr hl hgid hlow hc0
          obtain ⟨x1, k1, u1⟩ := cell_at hr hl hgid hlow hc1
          cases u0; cases u1
          refine .inr ⟨_, _, w, enter _, callsIn_wide.2 ?_⟩
          refine (now_nilMap loc.blk (loc.base + off) own w k0 k1).mono ?_
          rintro x w' ⟨rfl, rfl⟩
          exact ⟨_, rfl, μ, .int _ _, hr.below ((Below.refl _ w).alloc (Nat.le_refl _) _), Keeps.refl _⟩
        · cases hh
      · rename_i own m hc0 hc1
        split at hh
        · rename_i es hgm
          split at hh
          · rename_i hcond
            obtain ⟨hlow, hok⟩ := hcond
            cases hh
            obtain ⟨x0, k0, u0⟩ := cell_at hr hl hgid hlow hc0
            obtain ⟨x1, k1, u1⟩ := cell_at hr hl hgid hlow hc1
            cases u0
            cases u1 with
            | map _ locm hlm =>
            obtain ⟨E, clock, hb, hm⟩ := hr.mapAt hlm hgm
            obtain ⟨F, hp, e1, e2, hsz, hall⟩ := hm.ok hok
            have fit := fit_of hm.1 hsz hall
            refine .inr ⟨_, _, w, enter _, callsIn_wide.2 ?_⟩
            refine (now_some loc.blk (loc.base + off) locm.blk clock own E w hb fit (fun x hx => by obtain ⟨n, e, _⟩ := isW64_form (hall x hx).2; exact ⟨n, e⟩) k0 k1).mono ?_
            rintro x w' ⟨rfl, w1, seen, hal, htp, rfl⟩
            have hv : (es.map fun p => valOf p.2) = F.map fun e => valOf e.val := by
              have := congrArg (List.map valOf) e2
              simpa [List.map_map, Function.comp_def] using this.symm
            rw [hv, foldr_max_perm (hp.map _)]
            refine ⟨_, rfl, μ, .int _ _, hr.below ?_, Keeps.refl _⟩
            refine ⟨hal.2.1, htp, hal.2.2, by simp [hal.1], fun k hk => ?_⟩
            rw [heap_alloc_old w1 _ (by rw [hal.1]; exact hk), hal.1]
          · cases hh
        · cases hh
      · cases hh
    · cases hh
  · cases hh

theorem from_ok (G : Nat → Bool) : PrimOk Try.prog G 26 pFrom := by
  intro call _ B μ h w all r h' hh hg hr all' ha
  have enter := fun xs => enterS Try.func26 rfl (by kernel_rfl) xs w
  unfold pFrom at hh
  split at hh
  · cases hh
    obtain ⟨a, m, e1, v1, ha⟩ := ha.cons_inv
    obtain rfl := ha.nil_inv
    cases v1
    obtain rfl : all' = #[.pointer none] := by apply Array.toList_inj.1; rw [e1]
    refine .inr ⟨_, _, w, enter _, callsIn_wide.2 ?_⟩
    refine (from_none w).mono ?_
    rintro x w' ⟨rfl, rfl⟩
    exact ⟨_, rfl, μ, .snil, Post.refl hr, Keeps.refl _⟩
  · rename_i id off
    obtain ⟨a, m, e1, v1, ha⟩ := ha.cons_inv
    obtain rfl := ha.nil_inv
    cases v1 with
    | ptr _ _ loc hl =>
    obtain rfl : all' = #[.pointer (some ⟨loc.blk, loc.base + off, none⟩)] := by apply Array.toList_inj.1; rw [e1]
    split at hh
    · rename_i c e o hgid
      split at hh
      · rename_i hc1
        split at hh
        · rename_i hlow
          cases hh
          obtain ⟨x1, k1, u1⟩ := cell_at hr hl hgid hlow hc1
          cases u1
          refine .inr ⟨_, _, w, enter _, callsIn_wide.2 ?_⟩
          refine (from_nilMap loc.blk (loc.base + off) w k1).mono ?_
          rintro x w' ⟨rfl, hbl⟩
          exact ⟨_, rfl, μ, .snil, hr.below hbl, Keeps.refl _⟩
        · cases hh
      · rename_i m hc1
        split at hh
        · rename_i es hgm
          split at hh
          · rename_i hcond
            obtain ⟨hlow, hok⟩ := hcond
            obtain ⟨x1, k1, u1⟩ := cell_at hr hl hgid hlow hc1
            cases u1 with
            | map _ locm hlm =>
            obtain ⟨E, clock, hb, hm⟩ := hr.mapAt hlm hgm
            have hsz0 := hm.size
            obtain ⟨F, hp, e1, e2, hsz, hall⟩ := hm.ok hok
            have fit := fit_of hm.1 hsz hall
            have hown : w.ownsMap Try.prog 3 rdAny locm.blk E.size (.map ((E.toList.map (WideElems.rg Try.prog 3 rdAny)).foldr DataW.insert [])) := ⟨E, clock, hb, fit, Nat.le_refl _, rfl⟩
            have hsD : Maps.size (DataW.map ((E.toList.map (WideElems.rg Try.prog 3 rdAny)).foldr DataW.insert [])) = E.size := by simp only [Maps.size]; rw [(WideShapes.sorted_perm _).length_eq]; simp
            have hbig : E.size ≤ 1099511627776 := by unfold roomy at hsz; omega
            -- the keys
            have hkeys : (intKeys (DataW.map ((E.toList.map (WideElems.rg Try.prog 3 rdAny)).foldr DataW.insert []))).Perm (es.map fun p => valOf p.1) := by
              have h1 : (intKeys (DataW.map ((E.toList.map (WideElems.rg Try.prog 3 rdAny)).foldr DataW.insert []))).Perm ((E.toList.map (WideElems.rg Try.prog 3 rdAny)).map fun p => intOf p.1) := (WideShapes.sorted_perm _).map _
              have h2 : (E.toList.map (WideElems.rg Try.prog 3 rdAny)).map (fun p => intOf p.1) = E.toList.map fun e => valOf e.key := by
                rw [List.map_map]
                apply List.map_congr_left
                intro x hx
                obtain ⟨n, e, hw⟩ := isW64_form (hall x hx).1
                have hy : WideElems.rd Try.prog 3 rdAny x = some (.int .i64 n, .nil) := by
                  have := WideElems.rd_mk (P := Try.prog) (k := 3) (R := rdAny) (born := x.born) (key := x.key) (val := x.val) (by rw [e]; exact Maps.keyOf_int_mk Try.underlying3 hw) rfl
                  exact this
                simp only [Function.comp, WideElems.rg_of hy, e]
                rfl
              have h3 : (es.map fun p => valOf p.1) = F.map fun e => valOf e.key := by
                have := congrArg (List.map valOf) e1
                simpa [List.map_map, Function.comp_def] using this.symm
              rw [h3]
              rw [h2] at h1
              exact h1.trans (hp.map _).symm
            have hlen : (intKeys (DataW.map ((E.toList.map (WideElems.rg Try.prog 3 rdAny)).foldr DataW.insert []))).length = es.length := by rw [hkeys.length_eq]; simp
            have run := from_some loc.blk (loc.base + off) locm.blk E.size _ rdAny w hown (by rw [hsD]; unfold maxLen; omega) (by rw [hsD]; omega) k1
            refine .inr ⟨_, _, w, enter _, callsIn_wide.2 ?_⟩
            refine run.mono ?_
            rintro x w' ⟨v, ss, rfl, hperm, hrow, hnil, hbl⟩
            have hsl : ss.length = es.length := by rw [hperm.length_eq, hlen]
            split at hh
            · rename_i h0
              cases hh
              have : ss = [] := List.eq_nil_of_length_eq_zero (by omega)
              obtain rfl := hnil.2 this
              exact ⟨_, rfl, μ, .snil, hr.below hbl, Keeps.refl _⟩
            · rename_i h0
              cases hh
              have hsort : ss.mergeSort (fun x y => decide (x ≤ y)) = (es.map fun p => valOf p.1).mergeSort leI := mergeSort_of_perm_i (hperm.trans hkeys)
              obtain ⟨hxl, ⟨rfl, hn0⟩ | ⟨g, cap, cur, rfl, hgb, hgO, hnc, hcm, hcs, htk⟩⟩ := hrow
              · omega
              · rw [hsort] at htk
                rw [hsl] at hnc htk ⊢
                have hesz : Try.prog.cellsOf 3 = 1 := by kernel_rfl
                have hcl : cur.toList.length = cap := by rw [Array.length_toList]; omega
                obtain ⟨μ', hm', p1, p2⟩ := hr.found (o := .cells (((es.map fun p => valOf p.1).mergeSort leI).map (Value.int .i64)) 3 true) (loc := ⟨g, 0, es.length, cap, 1, true, false⟩) hbl hgb hgO ⟨rfl, rfl⟩ (fun μ' _ _ => by
                  refine ⟨.inr rfl, by simp, rfl, hesz.symm, by simpa using hcs, by simp; exact hnc, ?_, ?_, .inr (Melted.all fun j hh => by simp at hh)⟩
                  · simp only [List.drop_zero]
                    rw [Nat.mul_one] at htk
                    rw [htk]
                    exact VRs.plain (by simp [plainV])
                  · simp [List.all_map, Function.comp_def, Value.oneCell'])
                refine ⟨_, rfl, μ', ?_, p1, p2⟩
                unfold maxLen at hcm
                exact VR.slice (μ := μ') h.next 0 es.length es.length cap _ hm' (Nat.le_refl _) hnc (.inr ⟨rfl, by simp⟩) (by simp) (by simp) (by omega)
          · cases hh
        · cases hh
      · cases hh
    · cases hh
  · cases hh

theorem now_keeps {call : CallV} {all : List Value} {h : AHeap} {r : Value} {h' : AHeap} (hh : pNow call all h = some (r, h')) : Keeps h h' := by
  unfold pNow at hh
  split at hh
  · cases hh; exact Keeps.refl _
  · split at hh
    · split at hh
      · split at hh
        · cases hh; exact Keeps.refl _
        · cases hh
      · split at hh
        · split at hh
          · cases hh; exact Keeps.refl _
          · cases hh
        · cases hh
      · cases hh
    · cases hh
  · cases hh
theorem from_keeps {call : CallV} {all : List Value} {h : AHeap} {r : Value} {h' : AHeap} (hl : h.low ≤ h.next) (hh : pFrom call all h = some (r, h')) : Keeps h h' := by
  unfold pFrom at hh
  split at hh
  · cases hh; exact Keeps.refl _
  · split at hh
    · split at hh
      · split at hh
        · cases hh; exact Keeps.refl _
        · cases hh
      · split at hh
        · split at hh
          · split at hh
            · cases hh; exact Keeps.refl _
            · cases hh; exact Keeps.ofAlloc hl _
          · cases hh
        · cases hh
      · cases hh
    · cases hh
  · cases hh
end Go.AM

namespace Go.Proofs.Ytodcnfabnlojdaa
open Go.AM

/-- What stands for the functions that go through a map. -/
noncomputable def prims : Prims := fun g => if g = 25 then some pNow else if g = 26 then some pFrom else none
theorem hp : PMono prims := by
  intro g p e c c' _ all h r hh
  unfold prims at e
  split at e
  · cases e; exact hh
  · split at e
    · cases e; exact hh
    · cases e
theorem primsOk : ∀ g p, prims g = some p → PrimOk Try.prog (fun _ => false) g p := by
  intro g p e
  unfold prims at e
  split at e
  · rename_i q; cases e; subst q; exact now_ok _
  · split at e
    · rename_i q; cases e; subst q; exact from_ok _
    · cases e
theorem primsKeep : PrimsKeep prims := by
  intro g p e call hk all h r h' hl hh
  unfold prims at e
  split at e
  · cases e; exact now_keeps hh
  · split at e
    · cases e; exact from_keeps hl hh
    · cases e
abbrev W (K : Nat) (args : List Value) (h : AHeap) (Q : VQ) : Prop := CallW Try.prog prims (.func (.func K) #[] #[]) args h Q
abbrev pv (p : Nat) : Value := .pointer (some ⟨p, 0, none⟩)
end Go.Proofs.Ytodcnfabnlojdaa

namespace Go.Proofs.Ytodcnfabnlojdaa
open Go.AM
set_option maxRecDepth 8000
theorem b49_T1 : type_of% (And.intro (@AM.bin_geq) (And.intro (@AM.bin_leq) (@AM.op_binOp))) := And.intro (@AM.bin_geq) (And.intro (@AM.bin_leq) (@AM.op_binOp))
theorem may_w (p : Int) (h : AHeap) (Q : VQ) (hq : Q (.bool (decide (0 ≤ p ∧ p ≤ 15))) h) : W 49 [.int .i64 p] h Q := by
  refine AM.enter hp (fn := Try.f49) (rs := [.tmp 2]) (nt := 9) (by kernel_rfl) Try.func49 rfl rfl rfl (by kernel_rfl) ?_
  simp (maxSteps := 1000000) (disch := first | omega | (simp only [AM.DB, List.length_set, List.length_map]; first | done | omega)) only [AM.RB, Nat.reduceAdd, Nat.reduceMul, Nat.reduceEqDiff, reduceCtorEq, b49_T1]
  refine AM.guard_split (fun h0 => ?_) (fun h0 => ?_)
  · simp (maxSteps := 1000000) (disch := first | omega | (simp only [AM.DB, List.length_set, List.length_map]; first | done | omega)) only [AM.RB, Nat.reduceAdd, Nat.reduceMul, Nat.reduceEqDiff, reduceCtorEq, b49_T1, decide_eq_true h0]
    simpa [show 0 ≤ p from h0] using hq
  · simp (maxSteps := 1000000) (disch := first | omega | (simp only [AM.DB, List.length_set, List.length_map]; first | done | omega)) only [AM.RB, Nat.reduceAdd, Nat.reduceMul, Nat.reduceEqDiff, reduceCtorEq, b49_T1, decide_eq_false h0]
    simpa [show ¬ 0 ≤ p from h0] using hq

end Go.Proofs.Ytodcnfabnlojdaa

namespace Go.Proofs.Ytodcnfabnlojdaa
open Go.AM
set_option maxRecDepth 8000
end Go.Proofs.Ytodcnfabnlojdaa

namespace Go.Proofs.Ytodcnfabnlojdaa
open Go.AM
set_option maxRecDepth 8000
end Go.Proofs.Ytodcnfabnlojdaa

namespace Go.Proofs.Ytodcnfabnlojdaa
open Go.AM
set_option maxRecDepth 8000
end Go.Proofs.Ytodcnfabnlojdaa

namespace Go.Proofs.Ytodcnfabnlojdaa
open Go.AM
set_option maxRecDepth 8000
end Go.Proofs.Ytodcnfabnlojdaa

namespace Go.Proofs.Ytodcnfabnlojdaa
open Go.AM
set_option maxRecDepth 8000
theorem b16_T6 : type_of% (And.intro (@AM.bin_add) (And.intro (@AM.bin_lss) (And.intro (@AM.bin_neq) (And.intro (@AM.iaO_ok) (And.intro (AM.ia_slice el_22) (And.intro (@AM.ldO_agg) (And.intro (@AM.ldO_one) (And.intro (@AM.ld_ptr) (And.intro (AM.len_slice ul_22) (And.intro (@lk_3) (And.intro (@AM.op_binOp) (And.intro (@AM.op_indexAddr) (And.intro (@AM.op_len) (@AM.op_load)))))))))))))) := And.intro (@AM.bin_add) (And.intro (@AM.bin_lss) (And.intro (@AM.bin_neq) (And.intro (@AM.iaO_ok) (And.intro (AM.ia_slice el_22) (And.intro (@AM.ldO_agg) (And.intro (@AM.ldO_one) (And.intro (@AM.ld_ptr) (And.intro (AM.len_slice ul_22) (And.intro (@lk_3) (And.intro (@AM.op_binOp) (And.intro (@AM.op_indexAddr) (And.intro (@AM.op_len) (@AM.op_load)))))))))))))


theorem same_w {sa sb : Value} {na nb : Nat} {la lb : List Int} {h : AHeap} (ha : Rd h 3 1 sa na (la.map (.int .i64))) (hb : Rd h 3 1 sb nb (lb.map (.int .i64))) (hn : na ≤ 4000000000) {Q : VQ}
    (hq : Q (.bool (decide (la = lb))) h) : W 16 [sa, sb] h Q := by
  obtain ⟨aa, ca, rfl⟩ := ha.form
  obtain ⟨ab, cb, rfl⟩ := hb.form
  have hla : la.length = na := by simpa using ha.length
  have hlb : lb.length = nb := by simpa using hb.length
  refine AM.enter hp (fn := Try.f16) (rs := [.tmp 4]) (nt := 26) (by kernel_rfl) Try.func16 rfl rfl rfl (by kernel_rfl) ?_
  simp (maxSteps := 1000000) (disch := first | omega | (simp only [AM.DB, List.length_set, List.length_map]; first | done | omega)) only [AM.RB, Nat.reduceAdd, Nat.reduceMul, Nat.reduceEqDiff, reduceCtorEq, b16_T6]
  refine AM.condV_split (fun he => ?_) (fun he => ?_)
  case' refine_2 =>
    simp (maxSteps := 1000000) (disch := first | omega | (simp only [AM.DB, List.length_set, List.length_map]; first | done | omega)) only [AM.RB, Nat.reduceAdd, Nat.reduceMul, Nat.reduceEqDiff, reduceCtorEq, b16_T6]
    have : decide (la = lb) = false := by
      rw [decide_eq_false_iff_not]; rintro rfl; omega
    rw [this] at hq; exact hq
  have he' : na = nb := by omega
  subst he'
  simp (maxSteps := 1000000) (disch := first | omega | (simp only [AM.DB, List.length_set, List.length_map]; first | done | omega)) only [AM.RB, Nat.reduceAdd, Nat.reduceMul, Nat.reduceEqDiff, reduceCtorEq, b16_T6]
  refine AM.loop_w hp 26 (fun i : Nat => [(0, .slice aa na ca), (1, .slice ab na cb), (12, .int .i64 na), (13, .int .i64 i)])
    (fun i h' => i ≤ na ∧ h' = h ∧ ∀ j, j < i → la.getD j 0 = lb.getD j 0) (fun i => na - i) (by kernel_rfl) 0 ?_ ?_ ?_
  · simp (maxSteps := 1000000) (disch := first | omega | (simp only [AM.DB, List.length_set, List.length_map]; first | done | omega)) only [AM.RB, Nat.reduceAdd, Nat.reduceMul, Nat.reduceEqDiff, reduceCtorEq, b16_T6]
  · exact ⟨Nat.zero_le _, rfl, fun j hj => by omega⟩
  · rintro i h1 ρ ⟨hi, rfl, hall⟩
    simp (maxSteps := 1000000) (disch := first | omega | (simp only [AM.DB, List.length_set, List.length_map]; first | done | omega)) only [AM.RB, Nat.reduceAdd, Nat.reduceMul, Nat.reduceEqDiff, reduceCtorEq, b16_T6]
    refine AM.condV_split (fun hlt => ?_) (fun hlt => ?_)
    · simp (maxSteps := 1000000) (disch := first | omega | (simp only [AM.DB, List.length_set, List.length_map]; first | done | omega)) only [AM.RB, Nat.reduceAdd, Nat.reduceMul, Nat.reduceEqDiff, reduceCtorEq, b16_T6]
      refine AM.drawW_fine hp (by kernel_rfl) (by kernel_rfl) (by kernel_rfl) ?_
      simp (maxSteps := 1000000) (disch := first | omega | (simp only [AM.DB, List.length_set, List.length_map]; first | done | omega)) only [AM.RB, Nat.reduceAdd, Nat.reduceMul, Nat.reduceEqDiff, reduceCtorEq, b16_T6, ha.ia el_22, ha.ldi lk_3, hb.ia el_22, hb.ldi lk_3]
      refine AM.condV_split (fun heq => ?_) (fun heq => ?_)
      · simp (maxSteps := 1000000) (disch := first | omega | (simp only [AM.DB, List.length_set, List.length_map]; first | done | omega)) only [AM.RB, Nat.reduceAdd, Nat.reduceMul, Nat.reduceEqDiff, reduceCtorEq, b16_T6, AM.wrap_i64]
        refine ⟨i + 1, by omega, ?_, by omega, fun j hj => ?_⟩
        · simp (maxSteps := 1000000) (disch := first | omega | (simp only [AM.DB, List.length_set, List.length_map]; first | done | omega)) only [AM.RB, Nat.reduceAdd, Nat.reduceMul, Nat.reduceEqDiff, reduceCtorEq, b16_T6]
        · by_cases e : j = i
          · subst e; simpa using heq
          · exact hall j (by omega)
      · simp (maxSteps := 1000000) (disch := first | omega | (simp only [AM.DB, List.length_set, List.length_map]; first | done | omega)) only [AM.RB, Nat.reduceAdd, Nat.reduceMul, Nat.reduceEqDiff, reduceCtorEq, b16_T6]
        have : decide (la = lb) = false := by
          rw [decide_eq_false_iff_not]; rintro rfl; exact heq rfl
        rw [this] at hq; exact hq
    · simp (maxSteps := 1000000) (disch := first | omega | (simp only [AM.DB, List.length_set, List.length_map]; first | done | omega)) only [AM.RB, Nat.reduceAdd, Nat.reduceMul, Nat.reduceEqDiff, reduceCtorEq, b16_T6]
      have : decide (la = lb) = true := by
        rw [decide_eq_true_iff]
        refine List.ext_getElem (by omega) fun j h2 h3 => ?_
        have := hall j (by omega)
        simpa [List.getD, h2, h3] using this
      rw [this] at hq; exact hq

end Go.Proofs.Ytodcnfabnlojdaa

namespace Go.Proofs.Ytodcnfabnlojdaa
open Go.AM
set_option maxRecDepth 8000
end Go.Proofs.Ytodcnfabnlojdaa

namespace Go.Proofs.Ytodcnfabnlojdaa
open Go.AM
set_option maxRecDepth 8000
end Go.Proofs.Ytodcnfabnlojdaa

namespace Go.Proofs.Ytodcnfabnlojdaa
open Go.AM

/-! ### What robots gave: robots, each once, and priorities -/
abbrev IL := List (Int × Int)
def vL (L : IL) : List (Int × Value) := L.map fun q => (q.1, .int .i64 q.2)
def getI : IL → Int → Option Int
  | [], _ => none
  | (k, v) :: l, x => if x = k then some v else getI l x
def setI : IL → Int → Int → IL
  | [], x, v => [(x, v)]
  | (k, w) :: l, x, v => if x = k then (x, v) :: l else (k, w) :: setI l x v
def delI : IL → Int → IL
  | [], _ => []
  | (k, w) :: l, x => if x = k then l else (k, w) :: delI l x
theorem vL_get : ∀ (L : IL) (x : Int), mgetL (vL L) x = (getI L x).map (Value.int .i64)
  | [], _ => rfl
  | (k, v) :: l, x => by
    show mgetL ((k, .int .i64 v) :: vL l) x = _
    unfold mgetL getI
    split
    · rfl
    · exact vL_get l x
theorem vL_set : ∀ (L : IL) (x v : Int), msetL (vL L) x (.int .i64 v) = vL (setI L x v)
  | [], _, _ => rfl
  | (k, w) :: l, x, v => by
    show msetL ((k, .int .i64 w) :: vL l) x _ = _
    unfold msetL setI
    split
    · rfl
    · show _ = (k, Value.int .i64 w) :: vL (setI l x v)
      rw [← vL_set l x v]
theorem vL_del : ∀ (L : IL) (x : Int), mdelL (vL L) x = vL (delI L x)
  | [], _ => rfl
  | (k, w) :: l, x => by
    show mdelL ((k, .int .i64 w) :: vL l) x = _
    unfold mdelL delI
    split
    · rfl
    · show _ = (k, Value.int .i64 w) :: vL (delI l x)
      rw [← vL_del l x]
theorem delI_none : ∀ {L : IL} {x : Int}, getI L x = none → delI L x = L
  | [], _, _ => rfl
  | (k, w) :: l, x, h => by
    unfold getI at h
    split at h
    · cases h
    · rename_i hk
      unfold delI
      rw [if_neg hk, delI_none h]
def nowL (o : Int) (L : IL) : Int := (L.map (·.2)).foldr max o
def fromL (L : IL) : List Int := (L.map (·.1)).mergeSort Go.leI
/-- Robots and priorities that may be. -/
def fitI (q : Int × Int) : Prop := (0 ≤ q.1 ∧ q.1 < 64) ∧ 0 ≤ q.2 ∧ q.2 ≤ 15
def okI (L : IL) : Prop := (∀ q ∈ L, fitI q) ∧ (L.map (·.1)).Nodup
theorem okI_nil : okI [] := ⟨by simp, by simp⟩
theorem setI_keys : ∀ (L : IL) (x v : Int), (setI L x v).map (·.1) = if x ∈ L.map (·.1) then L.map (·.1) else L.map (·.1) ++ [x]
  | [], x, v => by simp [setI]
  | (k, w) :: l, x, v => by
    unfold setI
    split
    · rename_i e; subst e; simp
    · rename_i e
      rw [List.map_cons, setI_keys l x v]
      by_cases h : x ∈ l.map (·.1)
      · rw [if_pos h, if_pos (by simp only [List.map_cons, List.mem_cons]; exact .inr h)]; rfl
      · rw [if_neg h, if_neg (by simp only [List.map_cons, List.mem_cons]; exact fun q => q.elim e h)]; rfl
theorem setI_mem : ∀ {L : IL} {x v : Int} {q : Int × Int}, q ∈ setI L x v → q ∈ L ∨ q = (x, v)
  | [], x, v, q, h => by simp [setI] at h; exact .inr h
  | (k, w) :: l, x, v, q, h => by
    unfold setI at h
    split at h
    · rcases List.mem_cons.1 h with h | h
      · exact .inr h
      · exact .inl (List.mem_cons_of_mem _ h)
    · rcases List.mem_cons.1 h with h | h
      · exact .inl (by rw [h]; exact List.mem_cons_self)
      · exact (setI_mem h).imp (List.mem_cons_of_mem _) id
theorem delI_sub : ∀ (L : IL) (x : Int), (delI L x).Sublist L
  | [], _ => List.Sublist.refl _
  | (k, w) :: l, x => by
    unfold delI
    split
    · exact List.sublist_cons_self _ _
    · exact (delI_sub l x).cons_cons _
theorem okI.set {L : IL} (ok : okI L) {x v : Int} (hx : fitI (x, v)) : okI (setI L x v) := by
  refine ⟨fun q hq => (setI_mem hq).elim (ok.1 q) (fun e => by rw [e]; exact hx), ?_⟩
  rw [setI_keys]
  split
  · exact ok.2
  · rename_i h
    rw [List.nodup_append]
    exact ⟨ok.2, by simp, fun a ha b hb e => by simp at hb; subst hb; exact h (e ▸ ha)⟩
theorem okI.del {L : IL} (ok : okI L) (x : Int) : okI (delI L x) := ⟨fun q hq => ok.1 q ((delI_sub L x).subset hq), ((delI_sub L x).map _).nodup ok.2⟩
/-- No more than 64. -/
theorem okI.len {L : IL} (ok : okI L) : L.length ≤ 64 := by
  have h1 : (L.map (·.1)).Perm (((List.range 64).map Int.ofNat).filter fun x => decide (x ∈ L.map (·.1))) := by
    refine (List.perm_ext_iff_of_nodup ok.2 ?_).2 fun x => ?_
    · exact List.filter_sublist.nodup (by decide)
    · simp only [List.mem_filter, decide_eq_true_eq]
      refine ⟨fun hx => ⟨?_, hx⟩, fun h => h.2⟩
      obtain ⟨q, hq, rfl⟩ := List.mem_map.1 hx
      have := (ok.1 q hq).1
      exact List.mem_map.2 ⟨q.1.toNat, List.mem_range.2 (by omega), by show ((q.1.toNat : Nat) : Int) = q.1; omega⟩
  have h2 := h1.length_eq
  have h3 := List.length_filter_le (fun x => decide (x ∈ L.map (·.1))) ((List.range 64).map Int.ofNat)
  simp only [List.length_map, List.length_range] at h2 h3
  omega
theorem okI.es {L : IL} (ok : okI L) : okEs (encM (vL L)) = true := by
  have h1 := ok.len
  unfold okEs
  simp only [Bool.and_eq_true, decide_eq_true_eq, List.all_eq_true]
  refine ⟨by simp [encM, vL]; unfold roomy; omega, fun p hp => ?_⟩
  simp only [encM, vL, List.map_map, List.mem_map, Function.comp] at hp
  obtain ⟨q, hq, rfl⟩ := hp
  obtain ⟨⟨a, b⟩, c, d⟩ := ok.1 q hq
  have w : ∀ n : Int, 0 ≤ n → n < 64 → isW64 (.int .i64 n) = true := fun n h0 h1 => by
    have e1 : IntKind.i64.min = -9223372036854775808 := by decide
    have e2 : IntKind.i64.max = 9223372036854775807 := by decide
    unfold isW64
    simp only [Lit.wf, e1, e2, Bool.and_eq_true, decide_eq_true_eq]
    omega
  exact ⟨w _ a b, w _ c (by omega)⟩
end Go.Proofs.Ytodcnfabnlojdaa

namespace Go.Proofs.Ytodcnfabnlojdaa
open Go.AM
set_option maxRecDepth 8000
theorem b58_IH6 : type_of% (And.intro (@AM.bin_neq) (And.intro (@AM.op_binOp) (@AM.op_call))) := And.intro (@AM.bin_neq) (And.intro (@AM.op_binOp) (@AM.op_call))
theorem b63_IH6 : type_of% (And.intro (@AM.fa_ptr) (And.intro (@fd_45_0) (And.intro (@AM.ldO_agg) (And.intro (@AM.ldO_one) (And.intro (@AM.ld_ptr) (And.intro (@lk_3) (And.intro (@lk_72) (And.intro (@AM.op_fieldAddr) (And.intro (@AM.op_load) (And.intro (@AM.op_nilCheck) (And.intro (@AM.op_store) (And.intro (@AM.stO_agg) (And.intro (@AM.stO_bool) (And.intro (@AM.stO_int) (And.intro (@AM.stO_map) (And.intro (@AM.stO_pointer) (And.intro (@AM.stO_slice) (And.intro (@AM.stO_string) (And.intro (@AM.st_ptr) (@sz_3)))))))))))))))))))) := And.intro (@AM.fa_ptr) (And.intro (@fd_45_0) (And.intro (@AM.ldO_agg) (And.intro (@AM.ldO_one) (And.intro (@AM.ld_ptr) (And.intro (@lk_3) (And.intro (@lk_72) (And.intro (@AM.op_fieldAddr) (And.intro (@AM.op_load) (And.intro (@AM.op_nilCheck) (And.intro (@AM.op_store) (And.intro (@AM.stO_agg) (And.intro (@AM.stO_bool) (And.intro (@AM.stO_int) (And.intro (@AM.stO_map) (And.intro (@AM.stO_pointer) (And.intro (@AM.stO_slice) (And.intro (@AM.stO_string) (And.intro (@AM.st_ptr) (@sz_3)))))))))))))))))))
theorem b59_IH6 : type_of% (And.intro (@Option.isNone_none.{0}) (And.intro (@Option.isNone_some.{0}) (And.intro (AM.bin_mnil ul_43) (And.intro (@AM.fa_ptr) (And.intro (@fd_45_1) (And.intro (@AM.ldO_agg) (And.intro (@AM.ldO_one) (And.intro (@AM.ld_ptr) (And.intro (@lk_3) (And.intro (@lk_43) (And.intro (@lk_72) (And.intro (@AM.op_binOp) (And.intro (@AM.op_fieldAddr) (And.intro (@AM.op_load) (And.intro (@AM.op_makeMap0) (And.intro (@AM.op_mapUpdate) (And.intro (@AM.op_nilCheck) (And.intro (@AM.op_store) (And.intro (@AM.stO_agg) (And.intro (@AM.stO_bool) (And.intro (@AM.stO_int) (And.intro (@AM.stO_map) (And.intro (@AM.stO_pointer) (And.intro (@AM.stO_slice) (And.intro (@AM.stO_string) (And.intro (@AM.st_ptr) (@sz_43))))))))))))))))))))))))))) := And.intro (@Option.isNone_none.{0}) (And.intro (@Option.isNone_some.{0}) (And.intro (AM.bin_mnil ul_43) (And.intro (@AM.fa_ptr) (And.intro (@fd_45_1) (And.intro (@AM.ldO_agg) (And.intro (@AM.ldO_one) (And.intro (@AM.ld_ptr) (And.intro (@lk_3) (And.intro (@lk_43) (And.intro (@lk_72) (And.intro (@AM.op_binOp) (And.intro (@AM.op_fieldAddr) (And.intro (@AM.op_load) (And.intro (@AM.op_makeMap0) (And.intro (@AM.op_mapUpdate) (And.intro (@AM.op_nilCheck) (And.intro (@AM.op_store) (And.intro (@AM.stO_agg) (And.intro (@AM.stO_bool) (And.intro (@AM.stO_int) (And.intro (@AM.stO_map) (And.intro (@AM.stO_pointer) (And.intro (@AM.stO_slice) (And.intro (@AM.stO_string) (And.intro (@AM.st_ptr) (@sz_43))))))))))))))))))))))))))
theorem b62_IH6 : type_of% (And.intro (@AM.fa_ptr) (And.intro (@fd_45_1) (And.intro (@AM.ldO_agg) (And.intro (@AM.ldO_one) (And.intro (@AM.ld_ptr) (And.intro (@lk_3) (And.intro (@lk_43) (And.intro (@lk_72) (And.intro (@AM.op_delete) (And.intro (@AM.op_fieldAddr) (And.intro (@AM.op_load) (@AM.op_nilCheck)))))))))))) := And.intro (@AM.fa_ptr) (And.intro (@fd_45_1) (And.intro (@AM.ldO_agg) (And.intro (@AM.ldO_one) (And.intro (@AM.ld_ptr) (And.intro (@lk_3) (And.intro (@lk_43) (And.intro (@lk_72) (And.intro (@AM.op_delete) (And.intro (@AM.op_fieldAddr) (And.intro (@AM.op_load) (@AM.op_nilCheck)))))))))))
theorem b28_IH6 : type_of% (And.intro (@List.map_toArray.{0,0}) (And.intro (@Option.isNone_none.{0}) (And.intro (@Option.isNone_some.{0}) (And.intro (AM.bin_pnil ul_72) (And.intro (@AM.boxK_agg) (And.intro (@AM.boxK_bool) (And.intro (@AM.boxK_func) (And.intro (@AM.boxK_int) (And.intro (@AM.boxK_map) (And.intro (@AM.boxK_pointer) (And.intro (@AM.boxK_slice) (And.intro (@AM.boxK_string) (And.intro (@AM.ldO_agg) (And.intro (@AM.ldO_one) (And.intro (@AM.ld_ptr) (And.intro (@lk_3) (And.intro (@lk_72) (And.intro (@AM.op_binOp) (And.intro (@AM.op_box) (And.intro (@AM.op_call) (And.intro (@AM.op_load) (And.intro (@AM.op_makeFunc) (And.intro (@AM.op_unOp) (And.intro (@AM.resL_two) (And.intro (@AM.un_neg) (@AM.un_not)))))))))))))))))))))))))) := And.intro (@List.map_toArray.{0,0}) (And.intro (@Option.isNone_none.{0}) (And.intro (@Option.isNone_some.{0}) (And.intro (AM.bin_pnil ul_72) (And.intro (@AM.boxK_agg) (And.intro (@AM.boxK_bool) (And.intro (@AM.boxK_func) (And.intro (@AM.boxK_int) (And.intro (@AM.boxK_map) (And.intro (@AM.boxK_pointer) (And.intro (@AM.boxK_slice) (And.intro (@AM.boxK_string) (And.intro (@AM.ldO_agg) (And.intro (@AM.ldO_one) (And.intro (@AM.ld_ptr) (And.intro (@lk_3) (And.intro (@lk_72) (And.intro (@AM.op_binOp) (And.intro (@AM.op_box) (And.intro (@AM.op_call) (And.intro (@AM.op_load) (And.intro (@AM.op_makeFunc) (And.intro (@AM.op_unOp) (And.intro (@AM.resL_two) (And.intro (@AM.un_neg) (@AM.un_not)))))))))))))))))))))))))
theorem b24_IH6 : type_of% (And.intro (@List.map_toArray.{0,0}) (And.intro (@Option.isNone_none.{0}) (And.intro (@Option.isNone_some.{0}) (And.intro (@AM.bin_geq) (And.intro (@AM.bin_lss) (And.intro (AM.bin_pnil ul_72) (And.intro (@AM.boxK_agg) (And.intro (@AM.boxK_bool) (And.intro (@AM.boxK_func) (And.intro (@AM.boxK_int) (And.intro (@AM.boxK_map) (And.intro (@AM.boxK_pointer) (And.intro (@AM.boxK_slice) (And.intro (@AM.boxK_string) (And.intro (@AM.ldO_agg) (And.intro (@AM.ldO_one) (And.intro (@AM.ld_ptr) (And.intro (@lk_3) (And.intro (@lk_72) (And.intro (@AM.op_binOp) (And.intro (@AM.op_box) (And.intro (@AM.op_call) (And.intro (@AM.op_load) (And.intro (@AM.op_makeFunc) (And.intro (@AM.op_unOp) (And.intro (@AM.resL_two) (And.intro (@AM.un_neg) (@AM.un_not)))))))))))))))))))))))))))) := And.intro (@List.map_toArray.{0,0}) (And.intro (@Option.isNone_none.{0}) (And.intro (@Option.isNone_some.{0}) (And.intro (@AM.bin_geq) (And.intro (@AM.bin_lss) (And.intro (AM.bin_pnil ul_72) (And.intro (@AM.boxK_agg) (And.intro (@AM.boxK_bool) (And.intro (@AM.boxK_func) (And.intro (@AM.boxK_int) (And.intro (@AM.boxK_map) (And.intro (@AM.boxK_pointer) (And.intro (@AM.boxK_slice) (And.intro (@AM.boxK_string) (And.intro (@AM.ldO_agg) (And.intro (@AM.ldO_one) (And.intro (@AM.ld_ptr) (And.intro (@lk_3) (And.intro (@lk_72) (And.intro (@AM.op_binOp) (And.intro (@AM.op_box) (And.intro (@AM.op_call) (And.intro (@AM.op_load) (And.intro (@AM.op_makeFunc) (And.intro (@AM.op_unOp) (And.intro (@AM.resL_two) (And.intro (@AM.un_neg) (@AM.un_not)))))))))))))))))))))))))))
theorem b27_IH6 : type_of% (And.intro (@List.map_toArray.{0,0}) (And.intro (@Option.isNone_none.{0}) (And.intro (@Option.isNone_some.{0}) (And.intro (AM.bin_pnil' ul_72) (And.intro (@AM.boxK_agg) (And.intro (@AM.boxK_bool) (And.intro (@AM.boxK_func) (And.intro (@AM.boxK_int) (And.intro (@AM.boxK_map) (And.intro (@AM.boxK_pointer) (And.intro (@AM.boxK_slice) (And.intro (@AM.boxK_string) (And.intro (@AM.ldO_agg) (And.intro (@AM.ldO_one) (And.intro (@AM.ld_ptr) (And.intro (@lk_72) (And.intro (@AM.op_binOp) (And.intro (@AM.op_box) (And.intro (@AM.op_call) (And.intro (@AM.op_load) (@AM.op_makeFunc))))))))))))))))))))) := And.intro (@List.map_toArray.{0,0}) (And.intro (@Option.isNone_none.{0}) (And.intro (@Option.isNone_some.{0}) (And.intro (AM.bin_pnil' ul_72) (And.intro (@AM.boxK_agg) (And.intro (@AM.boxK_bool) (And.intro (@AM.boxK_func) (And.intro (@AM.boxK_int) (And.intro (@AM.boxK_map) (And.intro (@AM.boxK_pointer) (And.intro (@AM.boxK_slice) (And.intro (@AM.boxK_string) (And.intro (@AM.ldO_agg) (And.intro (@AM.ldO_one) (And.intro (@AM.ld_ptr) (And.intro (@lk_72) (And.intro (@AM.op_binOp) (And.intro (@AM.op_box) (And.intro (@AM.op_call) (And.intro (@AM.op_load) (@AM.op_makeFunc))))))))))))))))))))
/-- A holder in memory: where its map lies, if it has one. -/
def own (p : Nat) (mo : Option Nat) (id : Nat) : Prop := id = p ∨ mo = some id
def Hd (h : AHeap) (p : Nat) (mo : Option Nat) (o : Int) (L : IL) : Prop :=
  h.get p = some (.cells [.int .i64 o, .map mo] 45 false) ∧ h.low ≤ p ∧ mo ≠ some p ∧
    match mo with
    | none => L = []
    | some m => h.get m = some (.map (encM (vL L))) ∧ h.low ≤ m
theorem Hd.fr {S : Nat → Prop} {h h' : AHeap} {p : Nat} {mo : Option Nat} {o : Int} {L : IL} (x : Hd h p mo o L) (fr : Fr S h h') (hS : ∀ id, own p mo id → ¬ S id) : Hd h' p mo o L := by
  obtain ⟨g, hl, hne, hm⟩ := x
  refine ⟨fr.get g (hS p (.inl rfl)), by rw [fr.low]; exact hl, hne, ?_⟩
  cases mo with
  | none => exact hm
  | some m => exact ⟨fr.get hm.1 (hS m (.inr rfl)), by rw [fr.low]; exact hm.2⟩
theorem Hd.fr0 {h h' : AHeap} {p : Nat} {mo : Option Nat} {o : Int} {L : IL} (x : Hd h p mo o L) (fr : Fr none' h h') : Hd h' p mo o L := x.fr fr fun _ _ q => q
theorem Hd.lt {h : AHeap} {p : Nat} {mo : Option Nat} {o : Int} {L : IL} (x : Hd h p mo o L) {id : Nat} (hi : own p mo id) : id < h.next := by
  obtain ⟨g, hl, hne, hm⟩ := x
  rcases hi with rfl | rfl
  · exact AM.get_some_lt g
  · exact AM.get_some_lt hm.1

theorem now_w {h : AHeap} {p : Nat} {mo : Option Nat} {o : Int} {L : IL} (x : Hd h p mo o L) (ok : okI L) {Q : VQ} (hq : Q (.int .i64 (nowL o L)) h) : W 25 [pv p] h Q := by
  obtain ⟨g, hl, hne, hm⟩ := x
  refine AM.callW_prim hp (p := pNow) (by unfold prims; rfl) ⟨0, ?_⟩ hq
  show pNow _ _ _ = _
  unfold pNow
  have hl' := hl
  cases mo with
  | none =>
    subst hm
    simp only [Array.toList_empty, List.nil_append, List.append_nil, pv, g]
    simp [hl', nowL]
  | some m =>
    simp only [Array.toList_empty, List.nil_append, List.append_nil, pv, g]
    simp only [List.getElem?_cons_zero, List.getElem?_cons_succ, hm.1, hl', ok.es, and_self, if_true, nowL]
    simp [encM, vL, List.map_map, Function.comp_def, valOf]
theorem fromL_len (L : IL) : (fromL L).length = L.length := by simp [fromL]
theorem from_w {h : AHeap} {p : Nat} {mo : Option Nat} {o : Int} {L : IL} (x : Hd h p mo o L) (ok : okI L) {Q : VQ}
    (hq : ∀ v h', Ow h' 3 1 v L.length ((fromL L).map (.int .i64)) → Fr none' h h' → (∀ id, idOf v id → h.next ≤ id) → Q v h') : W 26 [pv p] h Q := by
  obtain ⟨g, hl, hne, hm⟩ := x
  have hlow : h.low ≤ h.next := by have := AM.get_some_lt g; omega
  have key : ∃ v h', pFrom (callE Try.prog prims 0) [pv p] h = some (v, h') ∧ Q v h' := by
    unfold pFrom
    have hl' := hl
    cases mo with
    | none =>
      subst hm
      refine ⟨.slice none 0 0, h, ?_, hq _ _ (by simpa [fromL] using Ow.nil h 3 1) (Fr.refl _ _) (fun id q => q.elim)⟩
      simp only [pv, g]
      simp [hl']
    | some m =>
      by_cases h0 : L.length = 0
      · have := List.eq_nil_of_length_eq_zero h0
        subst this
        refine ⟨.slice none 0 0, h, ?_, hq _ _ (by simpa [fromL] using Ow.nil h 3 1) (Fr.refl _ _) (fun id q => q.elim)⟩
        have e := ok.es
        simp only [pv, g]
        simp only [List.getElem?_cons_zero, List.getElem?_cons_succ, hm.1, hl', e, and_self, if_true]
        rfl
      · have hle : (encM (vL L)).length = L.length := by simp [encM, vL]
        have hk : ((encM (vL L)).map fun p => valOf p.1) = L.map (·.1) := by simp [encM, vL, List.map_map, Function.comp_def, valOf]
        refine ⟨sliceTo h.next 0 L.length L.length, h.alloc (.cells ((fromL L).map (.int .i64)) 3 true), ?_, hq _ _ ?_ ((Fr.refl _ _).alloc _) (fun id q => by have q : id = h.next := q; omega)⟩
        · simp only [pv, g]
          simp only [List.getElem?_cons_zero, List.getElem?_cons_succ, hm.1, hl', ok.es, and_self, if_true, hle, if_neg h0, hk]
          rfl
        · have hfl := fromL_len L
          refine .inr ⟨h.next, 0, L.length, (fromL L).map (.int .i64), true, rfl, Nat.le_refl _, by rw [AHeap.get_alloc, if_pos rfl], by simp [hfl], by simp [List.take_of_length_le, hfl], hlow⟩
  obtain ⟨v, h', e, q⟩ := key
  exact AM.callW_prim hp (p := pFrom) (by unfold prims; rfl) ⟨0, e⟩ q
/-- What a call of a holder leaves. -/
def HdTo (h : AHeap) (p : Nat) (mo : Option Nat) (o : Int) (L : IL) (K : AHeap → Prop) : Prop :=
  ∀ h' mo', Hd h' p mo' o L → Fr (own p mo) h h' → (∀ id, mo' = some id → mo = some id ∨ h.next ≤ id) → K h'

theorem turned_w {h : AHeap} {p : Nat} {mo : Option Nat} {o o' : Int} {L L' : IL} {f : Value} (x : Hd h p mo o L) (ok : okI L) (ok' : okI L')
    (hf : ∀ Q : VQ, HdTo h p mo o' L' (fun h' => Q (.tuple #[]) h') → CallW Try.prog prims f [] h Q) {Q : VQ} (hq : HdTo h p mo o' L' fun h' => Q (.bool (decide (nowL o' L' ≠ nowL o L))) h') : W 58 [pv p, f] h Q := by
  refine AM.enter hp (fn := Try.f58) (rs := [.tmp 4]) (nt := 14) (by kernel_rfl) Try.func58 rfl rfl rfl (by kernel_rfl) ?_
  simp (maxSteps := 1000000) (disch := first | omega | (simp only [AM.DB, List.length_set, List.length_map]; first | done | omega)) only [AM.RB, Nat.reduceAdd, Nat.reduceMul, Nat.reduceEqDiff, reduceCtorEq, b58_IH6]
  refine now_w x ok ?_
  simp (maxSteps := 1000000) (disch := first | omega | (simp only [AM.DB, List.length_set, List.length_map]; first | done | omega)) only [AM.RB, Nat.reduceAdd, Nat.reduceMul, Nat.reduceEqDiff, reduceCtorEq, b58_IH6]
  refine hf _ fun h1 mo1 x1 fr1 hm1 => ?_
  simp (maxSteps := 1000000) (disch := first | omega | (simp only [AM.DB, List.length_set, List.length_map]; first | done | omega)) only [AM.RB, Nat.reduceAdd, Nat.reduceMul, Nat.reduceEqDiff, reduceCtorEq, b58_IH6]
  refine now_w x1 ok' ?_
  simp (maxSteps := 1000000) (disch := first | omega | (simp only [AM.DB, List.length_set, List.length_map]; first | done | omega)) only [AM.RB, Nat.reduceAdd, Nat.reduceMul, Nat.reduceEqDiff, reduceCtorEq, b58_IH6]
  have e : (!decide (nowL o' L' = nowL o L)) = decide (nowL o' L' ≠ nowL o L) := by simp
  first
    | exact hq h1 mo1 x1 fr1 hm1
    | (rw [e]; exact hq h1 mo1 x1 fr1 hm1)
    | (have := hq h1 mo1 x1 fr1 hm1; simpa using this)

theorem own1_w {h : AHeap} {p a b : Nat} {mo : Option Nat} {o v : Int} {L : IL} {e1 e2 : TypeId} {o1 o2 : Bool} (x : Hd h p mo o L) (g1 : h.get a = some (.cells [.int .i64 v] e1 o1)) (g2 : h.get b = some (.cells [pv p] e2 o2)) {Q : VQ} (hq : HdTo h p mo v L fun h' => Q (.tuple #[]) h') :
    CallW Try.prog prims (.func (.func 63) #[] #[pv a, pv b]) [] h Q := by
  obtain ⟨g, hl, hne, hm⟩ := x
  have hlt := AM.get_some_lt g
  refine AM.enter hp (fn := Try.f63) (rs := []) (nt := 6) (by kernel_rfl) Try.func63 rfl rfl rfl (by kernel_rfl) ?_
  simp (maxSteps := 1000000) (disch := first | omega | (simp only [AM.DB, List.length_set, List.length_map]; first | done | omega)) only [AM.RB, Nat.reduceAdd, Nat.reduceMul, Nat.reduceEqDiff, reduceCtorEq, b63_IH6, g1, g2, g]
  refine hq _ mo ⟨AM.get_put_self rfl hlt, hl, hne, ?_⟩ ((Fr.refl _ _).put _ (.inr (.inl rfl))) (fun id e => .inl e)
  cases mo with
  | none => exact hm
  | some m => exact ⟨by rw [AM.get_put_ne (fun e => hne (by rw [e]))]; exact hm.1, hm.2⟩
theorem give1_w {h : AHeap} {p a b c : Nat} {mo : Option Nat} {o v r : Int} {L : IL} {e1 e2 e3 : TypeId} {o1 o2 o3 : Bool} (x : Hd h p mo o L) (g1 : h.get a = some (.cells [pv p] e1 o1)) (g2 : h.get b = some (.cells [.int .i64 v] e2 o2)) (g3 : h.get c = some (.cells [.int .i64 r] e3 o3)) (ha : a ≠ p) (hb : b ≠ p) (hc : c ≠ p) {Q : VQ} (hq : HdTo h p mo o (setI L r v) fun h' => Q (.tuple #[]) h') :
    CallW Try.prog prims (.func (.func 59) #[] #[pv a, pv b, pv c]) [] h Q := by
  obtain ⟨g, hl, hne, hm⟩ := x
  have hlt := AM.get_some_lt g
  refine AM.enter hp (fn := Try.f59) (rs := []) (nt := 18) (by kernel_rfl) Try.func59 rfl rfl rfl (by kernel_rfl) ?_
  cases mo with
  | none =>
    have hL : L = [] := hm
    subst hL
    simp (maxSteps := 1000000) (disch := first | omega | (simp only [AM.DB, List.length_set, List.length_map]; first | done | omega)) only [AM.RB, Nat.reduceAdd, Nat.reduceMul, Nat.reduceEqDiff, reduceCtorEq, b59_IH6, g1, g2, g3, g]
    generalize hE_ : AHeap.put (h.alloc (.map [])) p _ = h3
    obtain ⟨g4, fr4, n4, l4⟩ := AM.put_get hE_ (by rw [AHeap.next_alloc]; omega)
    clear hE_
    have al : ∀ {id : Nat} {x : AObj}, h.get id = some x → id ≠ p → h3.get id = some x := fun {id x} e q => fr4.get (by rw [AM.get_alloc_ne (Nat.ne_of_lt (AM.get_some_lt e))]; exact e) q
    have ga := al g1 ha
    have gb := al g2 hb
    have gc := al g3 hc
    have gm : h3.get h.next = some (.map (encM (vL []))) := fr4.get (AM.get_alloc_self rfl) (fun e => by have e : h.next = p := e; omega)
    rw [AHeap.next_alloc] at n4
    rw [AHeap.low_alloc] at l4
    have lm : h3.low ≤ h.next := by omega
    (repeat' (first | (simp (maxSteps := 1000000) (disch := first | omega | (simp only [AM.DB, List.length_set, List.length_map]; first | done | omega)) only [AM.RB, Nat.reduceAdd, Nat.reduceMul, Nat.reduceEqDiff, reduceCtorEq, b59_IH6, ga, gb, gc, g4, AM.update_enc mp_43 gm lm]) | refine AM.drawW_fine hp (by kernel_rfl) (by kernel_rfl) (by kernel_rfl) ?_ | refine AM.opW_tied (by kernel_rfl) ?_ | refine AM.opW_untied (by kernel_rfl) ?_))
    rw [vL_set]
    refine hq _ (some h.next) ⟨by rw [AM.get_put_ne (by omega)]; exact g4, by simp only [AHeap.low_put]; omega, fun e => by cases e; omega, AM.get_put_self rfl (by omega), lm⟩ ?_ (fun id e => .inr (by cases e; exact Nat.le_refl _))
    have fr5 : Fr (own p none) h h3 := ((Fr.refl _ _).alloc _).then fr4 fun id _ e => .inl e
    exact fr5.put _ (.inl (Nat.le_refl _))
  | some m =>
    have gm := hm.1
    have lm := hm.2
    have hltm := AM.get_some_lt gm
    have hmp : p ≠ m := fun e => hne (by rw [e])
    (repeat' (first | (simp (maxSteps := 1000000) (disch := first | omega | (simp only [AM.DB, List.length_set, List.length_map]; first | done | omega)) only [AM.RB, Nat.reduceAdd, Nat.reduceMul, Nat.reduceEqDiff, reduceCtorEq, b59_IH6, g1, g2, g3, g, AM.update_enc mp_43 gm lm]) | refine AM.drawW_fine hp (by kernel_rfl) (by kernel_rfl) (by kernel_rfl) ?_ | refine AM.opW_tied (by kernel_rfl) ?_ | refine AM.opW_untied (by kernel_rfl) ?_))
    rw [vL_set]
    exact hq _ (some m) ⟨by rw [AM.get_put_ne hmp]; exact g, hl, hne, AM.get_put_self rfl hltm, lm⟩ ((Fr.refl _ _).put _ (.inr (.inr rfl))) (fun id e => .inl e)
theorem back1_w {h : AHeap} {p a b : Nat} {mo : Option Nat} {o r : Int} {L : IL} {e1 e2 : TypeId} {o1 o2 : Bool} (x : Hd h p mo o L) (g1 : h.get a = some (.cells [pv p] e1 o1)) (g2 : h.get b = some (.cells [.int .i64 r] e2 o2)) {Q : VQ} (hq : HdTo h p mo o (delI L r) fun h' => Q (.tuple #[]) h') :
    CallW Try.prog prims (.func (.func 62) #[] #[pv a, pv b]) [] h Q := by
  obtain ⟨g, hl, hne, hm⟩ := x
  have hlt := AM.get_some_lt g
  refine AM.enter hp (fn := Try.f62) (rs := []) (nt := 7) (by kernel_rfl) Try.func62 rfl rfl rfl (by kernel_rfl) ?_
  cases mo with
  | none =>
    have hL : L = [] := hm
    subst hL
    (repeat' (first | (simp (maxSteps := 1000000) (disch := first | omega | (simp only [AM.DB, List.length_set, List.length_map]; first | done | omega)) only [AM.RB, Nat.reduceAdd, Nat.reduceMul, Nat.reduceEqDiff, reduceCtorEq, b62_IH6, g1, g2, g, AM.delete_nil mp_43]) | refine AM.drawW_fine hp (by kernel_rfl) (by kernel_rfl) (by kernel_rfl) ?_ | refine AM.opW_tied (by kernel_rfl) ?_ | refine AM.opW_untied (by kernel_rfl) ?_))
    exact hq _ none ⟨g, hl, hne, rfl⟩ (Fr.refl _ _) (fun id e => .inl e)
  | some m =>
    have gm := hm.1
    have lm := hm.2
    have hltm := AM.get_some_lt gm
    have hmp : p ≠ m := fun e => hne (by rw [e])
    (repeat' (first | (simp (maxSteps := 1000000) (disch := first | omega | (simp only [AM.DB, List.length_set, List.length_map]; first | done | omega)) only [AM.RB, Nat.reduceAdd, Nat.reduceMul, Nat.reduceEqDiff, reduceCtorEq, b62_IH6, g1, g2, g, AM.delete_enc mp_43 gm lm]) | refine AM.drawW_fine hp (by kernel_rfl) (by kernel_rfl) (by kernel_rfl) ?_ | refine AM.opW_tied (by kernel_rfl) ?_ | refine AM.opW_untied (by kernel_rfl) ?_))
    cases hg : getI L r with
    | none =>
      rw [delI_none hg] at hq
      rw [vL_get, hg, if_neg (by simp)]
      exact hq _ (some m) ⟨g, hl, hne, gm, lm⟩ (Fr.refl _ _) (fun id e => .inl e)
    | some v =>
      rw [vL_get, hg, if_pos (by simp), vL_del]
      exact hq _ (some m) ⟨by rw [AM.get_put_ne hmp]; exact g, hl, hne, AM.get_put_self rfl hltm, lm⟩ ((Fr.refl _ _).put _ (.inr (.inr rfl))) (fun id e => .inl e)
theorem two_new (h : AHeap) (c1 c2 : List Value) (e1 e2 : TypeId) : ∃ h2, (h.alloc (.cells c1 e1 false)).alloc (.cells c2 e2 false) = h2 ∧ h2.get h.next = some (.cells c1 e1 false) ∧ h2.get (h.next + 1) = some (.cells c2 e2 false) ∧ Fr none' h h2 ∧ h2.next = h.next + 2 ∧ h2.low = h.low := by
  refine ⟨_, rfl, ?_, ?_, ((Fr.refl _ _).alloc _).alloc _, rfl, rfl⟩
  · rw [AM.get_alloc_ne (by simp), AM.get_alloc_self rfl]
  · rw [AM.get_alloc_self (by simp)]
theorem three_new (h : AHeap) (c1 c2 c3 : List Value) (e1 e2 e3 : TypeId) : ∃ h2, ((h.alloc (.cells c1 e1 false)).alloc (.cells c2 e2 false)).alloc (.cells c3 e3 false) = h2 ∧ h2.get h.next = some (.cells c1 e1 false) ∧ h2.get (h.next + 1) = some (.cells c2 e2 false) ∧ h2.get (h.next + 1 + 1) = some (.cells c3 e3 false) ∧ Fr none' h h2 ∧ h2.next = h.next + 3 ∧ h2.low = h.low := by
  refine ⟨_, rfl, ?_, ?_, ?_, (((Fr.refl _ _).alloc _).alloc _).alloc _, rfl, rfl⟩
  · rw [AM.get_alloc_ne (by simp; omega), AM.get_alloc_ne (by simp), AM.get_alloc_self rfl]
  · rw [AM.get_alloc_ne (by simp), AM.get_alloc_self (by simp)]
  · rw [AM.get_alloc_self (by simp)]
theorem HdTo.lift {h h2 : AHeap} {p : Nat} {mo : Option Nat} {o : Int} {L : IL} {K : AHeap → Prop} (hk : HdTo h p mo o L K) (fr : Fr none' h h2) : HdTo h2 p mo o L K :=
  fun h' mo' x fr' hm => hk h' mo' x (fr.weak.then fr' fun _ _ q => q) (fun i e => (hm i e).imp (fun q => q) (fun q => Nat.le_trans fr.next q))
theorem HdTo.mono {h : AHeap} {p : Nat} {mo : Option Nat} {o : Int} {L : IL} {K K' : AHeap → Prop} (hk : HdTo h p mo o L K) (h1 : ∀ h', K h' → K' h') : HdTo h p mo o L K' :=
  fun h' mo' x fr' hm => h1 _ (hk h' mo' x fr' hm)

theorem own_w {h : AHeap} {p : Nat} {mo : Option Nat} {o : Int} {L : IL} (x : Hd h p mo o L) (ok : okI L) (v : Int) {Q : VQ}
    (hbad : ¬ (0 ≤ v ∧ v ≤ 15) → ∀ h', Fr none' h h' → Q (.tuple #[.bool false, .int .i64 2]) h')
    (hgood : 0 ≤ v ∧ v ≤ 15 → HdTo h p mo v L fun h' => Q (.tuple #[.bool (decide (nowL v L ≠ nowL o L)), .int .i64 0]) h') : W 28 [pv p, .int .i64 v] h Q := by
  refine AM.enter hp (fn := Try.f28) (rs := [.tmp 4, .tmp 5]) (nt := 16) (by kernel_rfl) Try.func28 rfl rfl rfl (by kernel_rfl) ?_
  simp (maxSteps := 1000000) (disch := first | omega | (simp only [AM.DB, List.length_set, List.length_map]; first | done | omega)) only [AM.RB, Nat.reduceAdd, Nat.reduceMul, Nat.reduceEqDiff, reduceCtorEq, b28_IH6]
  obtain ⟨h2, e2, ga, gb, fr2, n2, l2⟩ := two_new h [pv p] [.int .i64 v] 72 3
  rw [e2]
  have x2 := x.fr0 fr2
  refine may_w v _ _ ?_
  by_cases hv : 0 ≤ v ∧ v ≤ 15
  · have d1 : decide (0 ≤ v ∧ v ≤ 15) = true := decide_eq_true hv
    (first | (simp (maxSteps := 1000000) (disch := first | omega | (simp only [AM.DB, List.length_set, List.length_map]; first | done | omega)) only [AM.RB, Nat.reduceAdd, Nat.reduceMul, Nat.reduceEqDiff, reduceCtorEq, b28_IH6, d1, ga, gb]) | skip)
    refine turned_w x2 ok ok (fun Q' hq' => own1_w x2 gb ga hq') (((hgood hv).lift fr2).mono fun h3 q => ?_)
    (first | (simp (maxSteps := 1000000) (disch := first | omega | (simp only [AM.DB, List.length_set, List.length_map]; first | done | omega)) only [AM.RB, Nat.reduceAdd, Nat.reduceMul, Nat.reduceEqDiff, reduceCtorEq, b28_IH6]) | skip)
    exact q
  · have d1 : decide (0 ≤ v ∧ v ≤ 15) = false := decide_eq_false hv
    (first | (simp (maxSteps := 1000000) (disch := first | omega | (simp only [AM.DB, List.length_set, List.length_map]; first | done | omega)) only [AM.RB, Nat.reduceAdd, Nat.reduceMul, Nat.reduceEqDiff, reduceCtorEq, b28_IH6, d1]) | skip)
    exact hbad hv _ fr2
theorem give_w {h : AHeap} {p : Nat} {mo : Option Nat} {o : Int} {L : IL} (x : Hd h p mo o L) (ok : okI L) (r v : Int) {Q : VQ}
    (hbad : ¬ fitI (r, v) → ∀ h', Fr none' h h' → Q (.tuple #[.bool false, .int .i64 2]) h')
    (hgood : fitI (r, v) → HdTo h p mo o (setI L r v) fun h' => Q (.tuple #[.bool (decide (nowL o (setI L r v) ≠ nowL o L)), .int .i64 0]) h') : W 24 [pv p, .int .i64 r, .int .i64 v] h Q := by
  refine AM.enter hp (fn := Try.f24) (rs := [.tmp 6, .tmp 7]) (nt := 26) (by kernel_rfl) Try.func24 rfl rfl rfl (by kernel_rfl) ?_
  simp (maxSteps := 1000000) (disch := first | omega | (simp only [AM.DB, List.length_set, List.length_map]; first | done | omega)) only [AM.RB, Nat.reduceAdd, Nat.reduceMul, Nat.reduceEqDiff, reduceCtorEq, b24_IH6]
  obtain ⟨h2, e2, ga, gb, gc, fr2, n2, l2⟩ := three_new h [pv p] [.int .i64 r] [.int .i64 v] 72 3 3
  rw [e2]
  have x2 := x.fr0 fr2
  have hlt := AM.get_some_lt x.1
  have base : ∀ id, id = h.next ∨ id = h.next + 1 ∨ id = h.next + 1 + 1 → id ≠ p := fun id q => by omega
  by_cases h0 : r < 0
  · have d0 : decide (r < 0) = true := decide_eq_true h0
    (first | (simp (maxSteps := 1000000) (disch := first | omega | (simp only [AM.DB, List.length_set, List.length_map]; first | done | omega)) only [AM.RB, Nat.reduceAdd, Nat.reduceMul, Nat.reduceEqDiff, reduceCtorEq, b24_IH6, d0]) | skip)
    exact hbad (fun q => by have := q.1.1; simp only at this; omega) _ fr2
  have d0 : decide (r < 0) = false := decide_eq_false h0
  by_cases h1 : 64 ≤ r
  · have d1 : decide (64 ≤ r) = true := decide_eq_true h1
    (first | (simp (maxSteps := 1000000) (disch := first | omega | (simp only [AM.DB, List.length_set, List.length_map]; first | done | omega)) only [AM.RB, Nat.reduceAdd, Nat.reduceMul, Nat.reduceEqDiff, reduceCtorEq, b24_IH6, d0, gb, d1]) | skip)
    exact hbad (fun q => by have := q.1.2; simp only at this; omega) _ fr2
  have d1 : decide (64 ≤ r) = false := decide_eq_false h1
  (first | (simp (maxSteps := 1000000) (disch := first | omega | (simp only [AM.DB, List.length_set, List.length_map]; first | done | omega)) only [AM.RB, Nat.reduceAdd, Nat.reduceMul, Nat.reduceEqDiff, reduceCtorEq, b24_IH6, d0, gb, d1, gc]) | skip)
  refine may_w v _ _ ?_
  by_cases hv : 0 ≤ v ∧ v ≤ 15
  · have d2 : decide (0 ≤ v ∧ v ≤ 15) = true := decide_eq_true hv
    have fit : fitI (r, v) := ⟨⟨by simp only; omega, by simp only; omega⟩, hv⟩
    (first | (simp (maxSteps := 1000000) (disch := first | omega | (simp only [AM.DB, List.length_set, List.length_map]; first | done | omega)) only [AM.RB, Nat.reduceAdd, Nat.reduceMul, Nat.reduceEqDiff, reduceCtorEq, b24_IH6, d2, ga, gb, gc]) | skip)
    refine turned_w x2 ok (ok.set fit) (fun Q' hq' => give1_w x2 ga gc gb (base _ (.inl rfl)) (base _ (.inr (.inr rfl))) (base _ (.inr (.inl rfl))) hq') (((hgood fit).lift fr2).mono fun h3 q => ?_)
    (first | (simp (maxSteps := 1000000) (disch := first | omega | (simp only [AM.DB, List.length_set, List.length_map]; first | done | omega)) only [AM.RB, Nat.reduceAdd, Nat.reduceMul, Nat.reduceEqDiff, reduceCtorEq, b24_IH6]) | skip)
    exact q
  · have d2 : decide (0 ≤ v ∧ v ≤ 15) = false := decide_eq_false hv
    (first | (simp (maxSteps := 1000000) (disch := first | omega | (simp only [AM.DB, List.length_set, List.length_map]; first | done | omega)) only [AM.RB, Nat.reduceAdd, Nat.reduceMul, Nat.reduceEqDiff, reduceCtorEq, b24_IH6, d2]) | skip)
    exact hbad (fun q => hv q.2) _ fr2
theorem back_w {h : AHeap} {p : Nat} {mo : Option Nat} {o : Int} {L : IL} (x : Hd h p mo o L) (ok : okI L) (r : Int) {Q : VQ}
    (hgood : HdTo h p mo o (delI L r) fun h' => Q (.bool (decide (nowL o (delI L r) ≠ nowL o L))) h') : W 27 [pv p, .int .i64 r] h Q := by
  refine AM.enter hp (fn := Try.f27) (rs := [.tmp 4]) (nt := 12) (by kernel_rfl) Try.func27 rfl rfl rfl (by kernel_rfl) ?_
  simp (maxSteps := 1000000) (disch := first | omega | (simp only [AM.DB, List.length_set, List.length_map]; first | done | omega)) only [AM.RB, Nat.reduceAdd, Nat.reduceMul, Nat.reduceEqDiff, reduceCtorEq, b27_IH6]
  obtain ⟨h2, e2, ga, gb, fr2, n2, l2⟩ := two_new h [pv p] [.int .i64 r] 72 3
  rw [e2]
  have x2 := x.fr0 fr2
  refine turned_w x2 ok (ok.del r) (fun Q' hq' => back1_w x2 ga gb hq') ((hgood.lift fr2).mono fun h3 q => ?_)
  (first | (simp (maxSteps := 1000000) (disch := first | omega | (simp only [AM.DB, List.length_set, List.length_map]; first | done | omega)) only [AM.RB, Nat.reduceAdd, Nat.reduceMul, Nat.reduceEqDiff, reduceCtorEq, b27_IH6]) | skip)
  exact q
end Go.Proofs.Ytodcnfabnlojdaa

namespace Go.Proofs.Ytodcnfabnlojdaa
open Go.AM
set_option maxRecDepth 8000
theorem b23_IH7 : type_of% (And.intro (@AM.alK_some) (And.intro (@al_45) (And.intro (@AM.bin_eql) (And.intro (AM.bsW_int bs_22) (And.intro (AM.bsW_int2 bs_22) (And.intro (AM.bsW_nil bs_22) (And.intro (AM.bsW_slice bs_22) (And.intro (AM.bsW_string bs_22) (And.intro (@AM.ex_tuple) (And.intro (@AM.op_alloc) (And.intro (@AM.op_binOp) (And.intro (@AM.op_buildSlice) (And.intro (@AM.op_call) (And.intro (@AM.op_extract) (And.intro (@AM.op_unOp) (And.intro (@AM.un_neg) (@AM.un_not))))))))))))))))) := And.intro (@AM.alK_some) (And.intro (@al_45) (And.intro (@AM.bin_eql) (And.intro (AM.bsW_int bs_22) (And.intro (AM.bsW_int2 bs_22) (And.intro (AM.bsW_nil bs_22) (And.intro (AM.bsW_slice bs_22) (And.intro (AM.bsW_string bs_22) (And.intro (@AM.ex_tuple) (And.intro (@AM.op_alloc) (And.intro (@AM.op_binOp) (And.intro (@AM.op_buildSlice) (And.intro (@AM.op_call) (And.intro (@AM.op_extract) (And.intro (@AM.op_unOp) (And.intro (@AM.un_neg) (@AM.un_not))))))))))))))))


theorem from27 : fromL [(7, 5), (2, 4)] = [2, 7] := by
  have h1 : fromL [(7, 5), (2, 4)] = fromL [(2, 4), (7, 5)] := Go.mergeSort_of_perm_i (List.Perm.swap _ _ _)
  rw [h1]
  exact List.mergeSort_of_pairwise (by simp)

/-- A holder made since h0. -/
def Hn (h0 h : AHeap) (p : Nat) (mo : Option Nat) (o : Int) (L : IL) : Prop := Hd h p mo o L ∧ Fr none' h0 h ∧ ∀ id, own p mo id → h0.next ≤ id
theorem Hn.step {h0 h : AHeap} {p : Nat} {mo : Option Nat} {o o' : Int} {L L' : IL} (x : Hn h0 h p mo o L) {K : AHeap → Prop} (k : ∀ h' mo', Hn h0 h' p mo' o' L' → K h') : HdTo h p mo o' L' K :=
  fun h' mo' x' fr' hm => k h' mo' ⟨x', x.2.1.fresh fr' x.2.2, fun id q => q.elim (fun e => x.2.2 id (.inl e)) fun e => (hm id e).elim (fun e' => x.2.2 id (.inr e')) (fun e' => Nat.le_trans x.2.1.next e')⟩
theorem Hn.fr0 {h0 h h' : AHeap} {p : Nat} {mo : Option Nat} {o : Int} {L : IL} (x : Hn h0 h p mo o L) (fr : Fr none' h h') : Hn h0 h' p mo o L := ⟨x.1.fr0 fr, x.2.1.trans fr, x.2.2⟩
theorem Hn.new (h : AHeap) (hl : h.low ≤ h.next) : Hn h (h.alloc (.cells [.int .i64 0, .map none] 45 false)) h.next none 0 [] :=
  ⟨⟨AM.get_alloc_self rfl, hl, by simp, rfl⟩, (Fr.refl _ _).alloc _, fun id q => q.elim (fun e => by omega) (fun e => by cases e)⟩

/-- The chapter's first examples. -/
theorem alive_w {h : AHeap} (hl : h.low ≤ h.next) {Q : VQ} (hq : ∀ h', Fr none' h h' → Q (.bool true) h') : W 23 [] h Q := by
  refine AM.enter hp (fn := Try.f23) (rs := [.tmp 0]) (nt := 49) (by kernel_rfl) Try.func23 rfl rfl rfl (by kernel_rfl) ?_
  simp (maxSteps := 1000000) (disch := first | omega | (simp only [AM.DB, List.length_set, List.length_map]; first | done | omega)) only [AM.RB, Nat.reduceAdd, Nat.reduceMul, Nat.reduceEqDiff, reduceCtorEq, b23_IH7]
  have x0 := Hn.new h hl
  generalize h.alloc (.cells [.int .i64 0, .map none] 45 false) = h1 at x0
  have f7 : fitI (7, 5) := by unfold fitI; decide
  have f2 : fitI (2, 4) := by unfold fitI; decide
  have ok7 : okI [(7, 5)] := okI_nil.set f7
  have ok2 : okI [(7, 5), (2, 4)] := ok7.set f2
  refine own_w x0.1 okI_nil 3 (fun c => absurd (by decide) c) fun _ => x0.step fun h2 m2 x2 => ?_
  (first | (simp (maxSteps := 1000000) (disch := first | omega | (simp only [AM.DB, List.length_set, List.length_map]; first | done | omega)) only [AM.RB, Nat.reduceAdd, Nat.reduceMul, Nat.reduceEqDiff, reduceCtorEq, b23_IH7]) | skip)
  refine give_w x2.1 okI_nil 7 5 (fun c => absurd f7 c) fun _ => x2.step fun h3 m3 x3 => ?_
  (first | (simp (maxSteps := 1000000) (disch := first | omega | (simp only [AM.DB, List.length_set, List.length_map]; first | done | omega)) only [AM.RB, Nat.reduceAdd, Nat.reduceMul, Nat.reduceEqDiff, reduceCtorEq, b23_IH7]) | skip)
  refine give_w x3.1 ok7 2 4 (fun c => absurd f2 c) fun _ => x3.step fun h4 m4 x4 => ?_
  have e1 : decide (nowL 3 [] ≠ nowL 0 []) = true := by decide
  have e2 : decide (nowL 3 (setI [] 7 5) ≠ nowL 3 []) = true := by decide
  have e3 : decide (nowL 3 (setI (setI [] 7 5) 2 4) ≠ nowL 3 (setI [] 7 5)) = false := by decide
  have e4 : nowL 3 (setI (setI [] 7 5) 2 4) = 5 := by decide
  have e5 : setI (setI [] 7 5) 2 4 = [(7, 5), (2, 4)] := rfl
  rw [e1, e2, e3]
  (first | (simp (maxSteps := 1000000) (disch := first | omega | (simp only [AM.DB, List.length_set, List.length_map]; first | done | omega)) only [AM.RB, Nat.reduceAdd, Nat.reduceMul, Nat.reduceEqDiff, reduceCtorEq, b23_IH7]) | skip)
  refine now_w x4.1 ok2 ?_
  rw [e4]
  (first | (simp (maxSteps := 1000000) (disch := first | omega | (simp only [AM.DB, List.length_set, List.length_map]; first | done | omega)) only [AM.RB, Nat.reduceAdd, Nat.reduceMul, Nat.reduceEqDiff, reduceCtorEq, b23_IH7]) | skip)
  refine from_w x4.1 ok2 fun v h5 ow fr5 _ => ?_
  rw [e5, from27] at ow
  have x5 := x4.fr0 fr5
  (first | (simp (maxSteps := 1000000) (disch := first | omega | (simp only [AM.DB, List.length_set, List.length_map]; first | done | omega)) only [AM.RB, Nat.reduceAdd, Nat.reduceMul, Nat.reduceEqDiff, reduceCtorEq, b23_IH7]) | skip)
  generalize hE_ : h5.alloc (.cells [.int .i64 2, .int .i64 7] 3 false) = h6
  have fr6 : Fr none' h5 h6 := by rw [← hE_]; exact (Fr.refl _ _).alloc _
  have g6 : h6.get h5.next = some (.cells [.int .i64 2, .int .i64 7] 3 false) := by rw [← hE_]; exact AM.get_alloc_self rfl
  refine same_w (la := [2, 7]) (lb := [2, 7]) (ow.rd.fr0 fr6) (.inr ⟨h5.next, 0, 2, _, _, false, rfl, Nat.le_refl _, g6, by simp, rfl, .inr rfl⟩) (by decide) ?_
  (first | (simp (maxSteps := 1000000) (disch := first | omega | (simp only [AM.DB, List.length_set, List.length_map]; first | done | omega)) only [AM.RB, Nat.reduceAdd, Nat.reduceMul, Nat.reduceEqDiff, reduceCtorEq, b23_IH7]) | skip)
  exact hq _ (x5.2.1.trans fr6)
end Go.Proofs.Ytodcnfabnlojdaa

namespace Go.Proofs.Ytodcnfabnlojdaa
open Go.AM

/-! ### Calls as they come in -/
abbrev Op3 := Int × Int × Int
abbrev encO (o : Op3) : List Value := [.int .i64 o.1, .int .i64 o.2.1, .int .i64 o.2.2]
abbrev dO : Op3 := (0, 0, 0)
theorem encO_len (o : Op3) : (encO o).length = 3 := rfl
instance (q : Int × Int) : Decidable (fitI q) := by unfold fitI; exact inferInstance
/-- What is given by a call. -/
def stepI (L : IL) (o : Op3) : IL := if fitI (o.2.1, o.2.2) then setI L o.2.1 o.2.2 else L
theorem stepI_ok {L : IL} (ok : okI L) (o : Op3) : okI (stepI L o) := by
  unfold stepI
  split
  · rename_i q; exact ok.set q
  · exact ok
theorem foldI_ok : ∀ (l : List Op3) {L : IL}, okI L → okI (l.foldl stepI L)
  | [], _, ok => ok
  | o :: l, _, ok => foldI_ok l (stepI_ok ok o)
theorem setI_new : ∀ {L : IL} {x : Int} (v : Int), x ∉ L.map (·.1) → setI L x v = L ++ [(x, v)]
  | [], _, _, _ => rfl
  | (k, w) :: l, x, v, h => by
    simp only [List.map_cons, List.mem_cons, not_or] at h
    unfold setI
    rw [if_neg h.1, setI_new v h.2]; rfl
theorem delI_last : ∀ {L : IL} {x : Int} (v : Int), x ∉ L.map (·.1) → delI (L ++ [(x, v)]) x = L
  | [], _, _, _ => by simp [delI]
  | (k, w) :: l, x, v, h => by
    simp only [List.map_cons, List.mem_cons, not_or] at h
    show delI ((k, w) :: (l ++ [(x, v)])) x = _
    unfold delI
    rw [if_neg h.1, delI_last v h.2]
theorem delI_no : ∀ {L : IL} {x : Int}, x ∉ L.map (·.1) → delI L x = L
  | [], _, _ => rfl
  | (k, w) :: l, x, h => by
    simp only [List.map_cons, List.mem_cons, not_or] at h
    unfold delI
    rw [if_neg h.1, delI_no h.2]
/-- Those that may be. -/
def fitL (l : List Op3) : IL := (l.map fun o => (o.2.1, o.2.2)).filter fun q => decide (fitI q)
theorem fitL_append (l m : List Op3) : fitL (l ++ m) = fitL l ++ fitL m := by simp [fitL]
theorem fitL_sub {l : List Op3} {x : Int} (h : x ∈ (fitL l).map (·.1)) : x ∈ l.map (·.2.1) := by
  obtain ⟨q, hq, rfl⟩ := List.mem_map.1 h
  obtain ⟨o, ho, rfl⟩ := List.mem_map.1 (List.mem_filter.1 hq).1
  exact List.mem_map.2 ⟨o, ho, rfl⟩
/-- Of robots each of which comes once: all that may be. -/
theorem fold_fit {l : List Op3} (hn : (l.map (·.2.1)).Nodup) : ∀ i, i ≤ l.length → (l.take i).foldl stepI [] = fitL (l.take i)
  | 0, _ => by simp [fitL]
  | i + 1, hi => by
    have hlt : i < l.length := by omega
    have e : l.take (i + 1) = l.take i ++ [l[i]] := by rw [List.take_add_one, List.getElem?_eq_getElem hlt]; rfl
    rw [e, List.foldl_append, fold_fit hn i (by omega), fitL_append]
    show stepI (fitL (l.take i)) l[i] = _
    have hno : l[i].2.1 ∉ (fitL (l.take i)).map (·.1) := fun h => by
      have h1 := fitL_sub h
      obtain ⟨o, ho, e2⟩ := List.mem_map.1 h1
      obtain ⟨j, hj, e3⟩ := List.mem_iff_getElem.1 ho
      simp only [List.length_take] at hj
      rw [List.getElem_take] at e3
      have := (List.pairwise_iff_getElem.1 hn) j i (by simp; omega) (by simp; omega) (by omega)
      simp only [List.getElem_map] at this
      exact this (by rw [e3, e2])
    unfold stepI
    by_cases hf : fitI (l[i].2.1, l[i].2.2)
    · rw [if_pos hf, setI_new _ hno]
      simp [fitL, hf]
    · rw [if_neg hf]
      simp [fitL, hf]
theorem nowL_perm {L M : IL} (h : L.Perm M) (o : Int) : nowL o L = nowL o M := foldr_max_perm (h.map _) o
theorem fromL_perm {L M : IL} (h : L.Perm M) : fromL L = fromL M := Go.mergeSort_of_perm_i (h.map _)
theorem nowL_last (o : Int) (L : IL) (q : Int × Int) : nowL o (L ++ [q]) = max (nowL o L) q.2 := by
  have h : (L ++ [q]).Perm (q :: L) := List.perm_append_comm (l₁ := L) (l₂ := [q])
  rw [nowL_perm h]
  show max q.2 (nowL o L) = _
  omega
theorem fitL_rev (l : List Op3) : (fitL l.reverse).Perm (fitL l) := by
  unfold fitL
  rw [List.map_reverse, List.filter_reverse]
  exact List.reverse_perm _

/-! ### Two holders at once -/
def H2 (h0 h : AHeap) (p1 p2 : Nat) (m1 m2 : Option Nat) (L1 L2 : IL) : Prop := Hn h0 h p1 m1 0 L1 ∧ Hn h0 h p2 m2 0 L2 ∧ ∀ id, own p1 m1 id → ¬ own p2 m2 id
theorem H2.left {h0 h : AHeap} {p1 p2 : Nat} {m1 m2 : Option Nat} {L1 L2 L' : IL} (x : H2 h0 h p1 p2 m1 m2 L1 L2) {K : AHeap → Prop} (k : ∀ h' m', H2 h0 h' p1 p2 m' m2 L' L2 → Fr (own p1 m1) h h' → (∀ id, m' = some id → m1 = some id ∨ h.next ≤ id) → K h') : HdTo h p1 m1 0 L' K := by
  obtain ⟨x1, x2, hd⟩ := x
  intro h' mo' x' fr' hm
  have y1 : Hn h0 h' p1 mo' 0 L' := ⟨x', x1.2.1.fresh fr' x1.2.2, fun id q => q.elim (fun e => x1.2.2 id (.inl e)) fun e => (hm id e).elim (fun e' => x1.2.2 id (.inr e')) (fun e' => Nat.le_trans x1.2.1.next e')⟩
  refine k h' mo' ?_ fr' hm
  refine ⟨y1, ⟨x2.1.fr fr' (fun id q s => hd id s q), y1.2.1, x2.2.2⟩, fun id q s => ?_⟩
  rcases q with q | q
  · exact hd id (.inl q) s
  · rcases hm id q with e | e
    · exact hd id (.inr e) s
    · have := x2.1.lt s; omega
theorem H2.swap {h0 h : AHeap} {p1 p2 : Nat} {m1 m2 : Option Nat} {L1 L2 : IL} (x : H2 h0 h p1 p2 m1 m2 L1 L2) : H2 h0 h p2 p1 m2 m1 L2 L1 := ⟨x.2.1, x.1, fun id q s => x.2.2 id s q⟩
theorem H2.fr {S : Nat → Prop} {h0 h h' : AHeap} {p1 p2 : Nat} {m1 m2 : Option Nat} {L1 L2 : IL} (x : H2 h0 h p1 p2 m1 m2 L1 L2) (fr : Fr S h h') (hS : ∀ id, S id → h0.next ≤ id ∧ ¬ own p1 m1 id ∧ ¬ own p2 m2 id) : H2 h0 h' p1 p2 m1 m2 L1 L2 :=
  ⟨⟨x.1.1.fr fr (fun id q s => (hS id s).2.1 q), x.1.2.1.fresh fr (fun id s => (hS id s).1), x.1.2.2⟩, ⟨x.2.1.1.fr fr (fun id q s => (hS id s).2.2 q), x.1.2.1.fresh fr (fun id s => (hS id s).1), x.2.1.2.2⟩, x.2.2⟩
theorem H2.fr0 {h0 h h' : AHeap} {p1 p2 : Nat} {m1 m2 : Option Nat} {L1 L2 : IL} (x : H2 h0 h p1 p2 m1 m2 L1 L2) (fr : Fr none' h h') : H2 h0 h' p1 p2 m1 m2 L1 L2 := x.fr fr fun _ q => q.elim
theorem H2.new (h : AHeap) (hl : h.low ≤ h.next) : H2 h ((h.alloc (.cells [.int .i64 0, .map none] 45 false)).alloc (.cells [.int .i64 0, .map none] 45 false)) h.next (h.next + 1) none none [] [] := by
  refine ⟨⟨⟨?_, hl, by simp, rfl⟩, ((Fr.refl _ _).alloc _).alloc _, fun id q => q.elim (fun e => by omega) (fun e => by cases e)⟩, ⟨⟨?_, by simp; omega, by simp, rfl⟩, ((Fr.refl _ _).alloc _).alloc _, fun id q => q.elim (fun e => by omega) (fun e => by cases e)⟩, fun id q s => ?_⟩
  · rw [AM.get_alloc_ne (by simp), AM.get_alloc_self rfl]
  · rw [AM.get_alloc_self (by simp)]
  · rcases q with q | q
    · rcases s with s | s
      · omega
      · cases s
    · cases q
theorem H2.give {h0 h : AHeap} {p1 p2 : Nat} {m1 m2 : Option Nat} {L1 L2 : IL} (x : H2 h0 h p1 p2 m1 m2 L1 L2) (ok : okI L1) (o : Op3) {Q : VQ} (hq : ∀ v h' m', H2 h0 h' p1 p2 m' m2 (stepI L1 o) L2 → Q v h') :
    W 24 [pv p1, .int .i64 o.2.1, .int .i64 o.2.2] h Q := by
  unfold stepI at hq
  refine give_w x.1.1 ok _ _ (fun hb h' fr => hq _ _ m1 ?_) (fun hf => x.left fun h' m' y _ _ => hq _ _ m' ?_)
  · rw [if_neg hb]; exact x.fr0 fr
  · rw [if_pos hf]; exact y
end Go.Proofs.Ytodcnfabnlojdaa

namespace Go.Proofs.Ytodcnfabnlojdaa
open Go.AM
set_option maxRecDepth 8000
theorem b6_IH11 : type_of% (And.intro (@AM.aMax_int) (And.intro (@AM.alK_some) (And.intro (@al_45) (And.intro (@AM.bin_add) (And.intro (AM.bin_bne ul_4) (And.intro (@AM.bin_eql) (And.intro (@AM.bin_gtr) (And.intro (@AM.bin_lss) (And.intro (@AM.bin_neq) (And.intro (@AM.bin_sub) (And.intro (@AM.boxK_agg) (And.intro (@AM.boxK_bool) (And.intro (@AM.boxK_func) (And.intro (@AM.boxK_int) (And.intro (@AM.boxK_map) (And.intro (@AM.boxK_pointer) (And.intro (@AM.boxK_slice) (And.intro (@AM.boxK_string) (And.intro (@AM.ex_tuple) (And.intro (@AM.fa_ptr) (And.intro (@fd_42_1) (And.intro (@fd_42_2) (And.intro (@AM.iaO_ok) (And.intro (AM.ia_slice el_40) (And.intro (@AM.ldO_agg) (And.intro (@AM.ldO_one) (And.intro (@AM.ld_ptr) (And.intro (AM.len_slice ul_40) (And.intro (@lk_3) (And.intro (@AM.op_alloc) (And.intro (@AM.op_binOp) (And.intro (@AM.op_box) (And.intro (@AM.op_call) (And.intro (@AM.op_extract) (And.intro (@AM.op_fieldAddr) (And.intro (@AM.op_indexAddr) (And.intro (@AM.op_len) (And.intro (@AM.op_load) (And.intro (@AM.op_lookup) (And.intro (@AM.op_makeMap0) (And.intro (@AM.op_mapUpdate) (And.intro (@AM.op_max2) (And.intro (@AM.op_unOp) (And.intro (@AM.un_neg) (@AM.un_not))))))))))))))))))))))))))))))))))))))))))))) := And.intro (@AM.aMax_int) (And.intro (@AM.alK_some) (And.intro (@al_45) (And.intro (@AM.bin_add) (And.intro (AM.bin_bne ul_4) (And.intro (@AM.bin_eql) (And.intro (@AM.bin_gtr) (And.intro (@AM.bin_lss) (And.intro (@AM.bin_neq) (And.intro (@AM.bin_sub) (And.intro (@AM.boxK_agg) (And.intro (@AM.boxK_bool) (And.intro (@AM.boxK_func) (And.intro (@AM.boxK_int) (And.intro (@AM.boxK_map) (And.intro (@AM.boxK_pointer) (And.intro (@AM.boxK_slice) (And.intro (@AM.boxK_string) (And.intro (@AM.ex_tuple) (And.intro (@AM.fa_ptr) (And.intro (@fd_42_1) (And.intro (@fd_42_2) (And.intro (@AM.iaO_ok) (And.intro (AM.ia_slice el_40) (And.intro (@AM.ldO_agg) (And.intro (@AM.ldO_one) (And.intro (@AM.ld_ptr) (And.intro (AM.len_slice ul_40) (And.intro (@lk_3) (And.intro (@AM.op_alloc) (And.intro (@AM.op_binOp) (And.intro (@AM.op_box) (And.intro (@AM.op_call) (And.intro (@AM.op_extract) (And.intro (@AM.op_fieldAddr) (And.intro (@AM.op_indexAddr) (And.intro (@AM.op_len) (And.intro (@AM.op_load) (And.intro (@AM.op_lookup) (And.intro (@AM.op_makeMap0) (And.intro (@AM.op_mapUpdate) (And.intro (@AM.op_max2) (And.intro (@AM.op_unOp) (And.intro (@AM.un_neg) (@AM.un_not))))))))))))))))))))))))))))))))))))))))))))


set_option maxHeartbeats 4000000 in
theorem traces_w {s : Value} {n : Nat} {l : List Op3} {kx rx px : Int} {h : AHeap} (hs : Rd h 42 3 s n (l.flatMap encO)) (hln : l.length = n) (hl : h.low ≤ h.next) :
    W 6 [s, .agg #[.int .i64 kx, .int .i64 rx, .int .i64 px]] h fun v _ => v = .bool true := by
  obtain ⟨a, c, rfl⟩ := hs.form
  refine AM.enter hp (fn := Try.f6) (rs := [.tmp 4]) (nt := 146) (by kernel_rfl) Try.func6 rfl rfl rfl (by kernel_rfl) ?_
  simp (maxSteps := 1000000) (disch := first | omega | (simp only [AM.DB, List.length_set, List.length_map]; first | done | omega)) only [AM.RB, Nat.reduceAdd, Nat.reduceMul, Nat.reduceEqDiff, reduceCtorEq, b6_IH11]
  generalize hE_ : h.alloc _ = hA
  have frA : Fr none' h hA := by rw [← hE_]; exact (Fr.refl _ _).alloc _
  have gA : hA.get h.next = some (.cells [.int .i64 kx, .int .i64 rx, .int .i64 px] 42 false) := by rw [← hE_]; exact AM.get_alloc_self rfl
  clear hE_
  have hlA := frA.hl hl
  refine alive_w hlA fun hB frB => ?_
  have gB := gA.fr0 frB
  have sB := (hs.fr0 frA).fr0 frB
  have hlB := frB.hl hlA
  have gBlt := AM.get_some_lt gB
  simp (maxSteps := 1000000) (disch := first | omega | (simp only [AM.DB, List.length_set, List.length_map]; first | done | omega)) only [AM.RB, Nat.reduceAdd, Nat.reduceMul, Nat.reduceEqDiff, reduceCtorEq, b6_IH11]
  by_cases h64 : (64 : Int) < n
  · have d64 := decide_eq_true h64
    (repeat' (first | (simp (maxSteps := 1000000) (disch := first | omega | (simp only [AM.DB, List.length_set, List.length_map]; first | done | omega)) only [AM.RB, Nat.reduceAdd, Nat.reduceMul, Nat.reduceEqDiff, reduceCtorEq, b6_IH11, d64]) | refine AM.drawW_fine hp (by kernel_rfl) (by kernel_rfl) (by kernel_rfl) ?_ | refine AM.opW_tied (by kernel_rfl) ?_ | refine AM.opW_untied (by kernel_rfl) ?_))
  have d64 := decide_eq_false h64
  obtain ⟨hC, eC, x0, gM, frC, nC, lC⟩ : ∃ hC, ((hB.alloc (.cells [.int .i64 0, .map none] 45 false)).alloc (.cells [.int .i64 0, .map none] 45 false)).alloc (.map []) = hC ∧ H2 hB hC hB.next (hB.next + 1) none none [] [] ∧ hC.get (hB.next + 1 + 1) = some (.map (encM [])) ∧ Fr none' hB hC ∧ hC.next = hB.next + 3 ∧ hC.low = hB.low :=
    ⟨_, rfl, (H2.new hB hlB).fr0 ((Fr.refl _ _).alloc _), AM.get_alloc_self rfl, (((Fr.refl _ _).alloc _).alloc _).alloc _, rfl, rfl⟩
  have hn64 : n ≤ 64 := by omega
  (repeat' (first | (simp (maxSteps := 1000000) (disch := first | omega | (simp only [AM.DB, List.length_set, List.length_map]; first | done | omega)) only [AM.RB, Nat.reduceAdd, Nat.reduceMul, Nat.reduceEqDiff, reduceCtorEq, b6_IH11, d64]) | refine AM.drawW_fine hp (by kernel_rfl) (by kernel_rfl) (by kernel_rfl) ?_ | refine AM.opW_tied (by kernel_rfl) ?_ | refine AM.opW_untied (by kernel_rfl) ?_))
  rw [eC]
  clear eC
  have sC := sB.fr0 frC
  have gC := gB.fr0 frC
  have rob : ∀ t, t < n → True := fun _ _ => trivial
  refine AM.loop_w hp 146 (fun i : Nat => [(0, .slice a n c), (3, pv h.next), (5, .bool true), (6, pv hB.next), (7, pv (hB.next + 1)), (8, .map (some (hB.next + 1 + 1))), (27, .int .i64 n), (28, .int .i64 i)])
    (fun i h' => i ≤ n ∧ Fr (fun id => id = hB.next + 1 + 1) hC h' ∧ ∃ ml, h'.get (hB.next + 1 + 1) = some (.map (encM ml)) ∧ (∀ t, t < i → mgetL ml (l.getD t dO).2.1 = some (.int .i64 1)) ∧ (∀ z, mgetL ml z ≠ none → ∃ t, t < i ∧ (l.getD t dO).2.1 = z) ∧
      (∀ t, t < i → (l.getD t dO).2.1 ≠ rx) ∧ ∀ t u, t < u → u < i → (l.getD t dO).2.1 ≠ (l.getD u dO).2.1) (fun i => n - i) (by kernel_rfl) 0 ?_ ?_ ?_
  · simp (maxSteps := 1000000) (disch := first | omega | (simp only [AM.DB, List.length_set, List.length_map]; first | done | omega)) only [AM.RB, Nat.reduceAdd, Nat.reduceMul, Nat.reduceEqDiff, reduceCtorEq, b6_IH11]
    first | rfl | skip
  · exact ⟨Nat.zero_le _, Fr.refl _ _, [], gM, fun t q => by omega, fun z q => absurd rfl q, fun t q => by omega, fun t u _ q => by omega⟩
  rintro i hD ρ ⟨hi, frD, ml, gD, hone, hmem, hrx, hdist⟩
  have nxD := frD.next
  have lwD := frD.low
  have slt : ∀ id, idOf (.slice a n c) id → id < hB.next := fun id q => sB.lt q
  have sD := sC.fr frD (fun id q e => by have := slt id q; have e : id = hB.next + 1 + 1 := e; omega)
  have gxD := frD.get gC (fun e => by have e : h.next = hB.next + 1 + 1 := e; omega)
  have xD := x0.fr frD (fun id e => by
    have e : id = hB.next + 1 + 1 := e
    subst e
    exact ⟨by omega, fun q => by rcases q with q | q; (· omega); (· cases q), fun q => by rcases q with q | q; (· omega); (· cases q)⟩)
  simp (maxSteps := 1000000) (disch := first | omega | (simp only [AM.DB, List.length_set, List.length_map]; first | done | omega)) only [AM.RB, Nat.reduceAdd, Nat.reduceMul, Nat.reduceEqDiff, reduceCtorEq, b6_IH11]
  refine AM.condV_split (fun hlt => ?_) (fun hlt => ?_)
  · have hin : i < n := by omega
    generalize ho : l.getD i dO = o
    obtain ⟨kk, r, pp⟩ := o
    have hor : (l.getD i dO).2.1 = r := by rw [ho]
    have slD : ∀ id, idOf (.slice a n c) id → ¬ id = hB.next + 1 + 1 := fun id q e => by have := slt id q; omega
    by_cases hnew : ∃ t, t < i ∧ (l.getD t dO).2.1 = r
    · obtain ⟨t, ht, e⟩ := hnew
      have g0 : (mgetL ml r).getD (.int .i64 0) = .int .i64 1 := by rw [← e, hone t ht]; rfl
      (repeat' (first | (simp (maxSteps := 1000000) (disch := first | omega | (simp only [AM.DB, List.length_set, List.length_map]; first | done | omega)) only [AM.RB, Nat.reduceAdd, Nat.reduceMul, Nat.reduceEqDiff, reduceCtorEq, b6_IH11, sD.ia el_40, sD.fa fd_42_1, sD.ldsF encO_len lk_3 hln dO, Int.toNat_natCast, ho, AM.lookup_enc mp_43 gD, g0, AM.wrap_i64, AM.update_enc mp_43 gD (by omega)]) | refine AM.drawW_fine hp (by kernel_rfl) (by kernel_rfl) (by kernel_rfl) ?_ | refine AM.opW_tied (by kernel_rfl) ?_ | refine AM.opW_untied (by kernel_rfl) ?_))
      generalize hE_ : AHeap.put hD _ _ = hE; obtain ⟨gE, frE, nE, lE⟩ := AM.put_get hE_ (AM.get_some_lt gD); clear hE_
      have sE := sD.fr frE slD
      have g1 : (mgetL (msetL ml r (.int .i64 (1 + 1))) r).getD (.int .i64 0) = .int .i64 (1 + 1) := by rw [AM.mget_set, if_pos rfl]; rfl
      have dl1 : decide ((1 : Int) < 1 + 1) = true := rfl
      (repeat' (first | (simp (maxSteps := 1000000) (disch := first | omega | (simp only [AM.DB, List.length_set, List.length_map]; first | done | omega)) only [AM.RB, Nat.reduceAdd, Nat.reduceMul, Nat.reduceEqDiff, reduceCtorEq, b6_IH11, sE.ia el_40, sE.fa fd_42_1, sE.ldsF encO_len lk_3 hln dO, Int.toNat_natCast, ho, AM.lookup_enc mp_43 gE, g1, dl1]) | refine AM.drawW_fine hp (by kernel_rfl) (by kernel_rfl) (by kernel_rfl) ?_ | refine AM.opW_tied (by kernel_rfl) ?_ | refine AM.opW_untied (by kernel_rfl) ?_))
    have hno : mgetL ml r = none := by
      cases e : mgetL ml r with
      | none => rfl
      | some w =>
        obtain ⟨t, ht, et⟩ := hmem r (by rw [e]; simp)
        exact absurd ⟨t, ht, et⟩ hnew
    have g0 : (mgetL ml r).getD (.int .i64 0) = .int .i64 0 := by rw [hno]; rfl
    (repeat' (first | (simp (maxSteps := 1000000) (disch := first | omega | (simp only [AM.DB, List.length_set, List.length_map]; first | done | omega)) only [AM.RB, Nat.reduceAdd, Nat.reduceMul, Nat.reduceEqDiff, reduceCtorEq, b6_IH11, sD.ia el_40, sD.fa fd_42_1, sD.ldsF encO_len lk_3 hln dO, Int.toNat_natCast, ho, AM.lookup_enc mp_43 gD, g0, Int.zero_add, AM.wrap_i64, AM.update_enc mp_43 gD (by omega)]) | refine AM.drawW_fine hp (by kernel_rfl) (by kernel_rfl) (by kernel_rfl) ?_ | refine AM.opW_tied (by kernel_rfl) ?_ | refine AM.opW_untied (by kernel_rfl) ?_))
    generalize hE_ : AHeap.put hD _ _ = hE; obtain ⟨gE, frE, nE, lE⟩ := AM.put_get hE_ (AM.get_some_lt gD); clear hE_
    have sE := sD.fr frE slD
    have gxE := frE.get gxD (by omega)
    have g1 : (mgetL (msetL ml r (.int .i64 1)) r).getD (.int .i64 0) = .int .i64 1 := by rw [AM.mget_set, if_pos rfl]; rfl
    have dl1 : decide ((1 : Int) < 1) = false := rfl
    by_cases hrr : r = rx
    · have drr := decide_eq_true hrr
      (repeat' (first | (simp (maxSteps := 1000000) (disch := first | omega | (simp only [AM.DB, List.length_set, List.length_map]; first | done | omega)) only [AM.RB, Nat.reduceAdd, Nat.reduceMul, Nat.reduceEqDiff, reduceCtorEq, b6_IH11, sE.ia el_40, sE.fa fd_42_1, sE.ldsF encO_len lk_3 hln dO, Int.toNat_natCast, ho, AM.lookup_enc mp_43 gE, g1, dl1, gxE, drr]) | refine AM.drawW_fine hp (by kernel_rfl) (by kernel_rfl) (by kernel_rfl) ?_ | refine AM.opW_tied (by kernel_rfl) ?_ | refine AM.opW_untied (by kernel_rfl) ?_))
    have drr := decide_eq_false hrr
    (repeat' (first | (simp (maxSteps := 1000000) (disch := first | omega | (simp only [AM.DB, List.length_set, List.length_map]; first | done | omega)) only [AM.RB, Nat.reduceAdd, Nat.reduceMul, Nat.reduceEqDiff, reduceCtorEq, b6_IH11, sE.ia el_40, sE.fa fd_42_1, sE.ldsF encO_len lk_3 hln dO, Int.toNat_natCast, ho, AM.lookup_enc mp_43 gE, g1, dl1, gxE, drr, AM.wrap_i64]) | refine AM.drawW_fine hp (by kernel_rfl) (by kernel_rfl) (by kernel_rfl) ?_ | refine AM.opW_tied (by kernel_rfl) ?_ | refine AM.opW_untied (by kernel_rfl) ?_))
    refine ⟨i + 1, by omega, congrArg _ (by omega), by omega, frD.trans frE, _, gE, fun t ht => ?_, fun z q => ?_, fun t ht => ?_, fun t u htu hu => ?_⟩
    · rw [AM.mget_set]
      by_cases et : t = i
      · rw [et, hor, if_pos rfl]
      · rw [if_neg (fun e => hnew ⟨t, by omega, e⟩)]; exact hone t (by omega)
    · rw [AM.mget_set] at q
      by_cases ez : z = r
      · exact ⟨i, by omega, by rw [hor, ez]⟩
      · rw [if_neg ez] at q
        obtain ⟨t, ht, et⟩ := hmem z q
        exact ⟨t, by omega, et⟩
    · by_cases et : t = i
      · rw [et, hor]; exact hrr
      · exact hrx t (by omega)
    · by_cases eu : u = i
      · rw [eu, hor]; exact fun e => hnew ⟨t, by omega, e⟩
      · exact hdist t u htu (by omega)
  have hin : i = n := by omega
  subst hin
  have hnd : (l.map (·.2.1)).Nodup := by
    refine List.pairwise_iff_getElem.2 fun t u ht hu htu => ?_
    simp only [List.length_map] at ht hu
    have := hdist t u htu (by omega)
    simpa [List.getD, ht, hu] using this
  have hxno : rx ∉ l.map (·.2.1) := fun q => by
    obtain ⟨o, ho, e⟩ := List.mem_map.1 q
    obtain ⟨t, ht, et⟩ := List.mem_iff_getElem.1 ho
    have := hrx t (by omega)
    simp [List.getD, ht, et, e] at this
  clear hone hmem hrx hdist gD gM
  (repeat' (first | (simp (maxSteps := 1000000) (disch := first | omega | (simp only [AM.DB, List.length_set, List.length_map]; first | done | omega)) only [AM.RB, Nat.reduceAdd, Nat.reduceMul, Nat.reduceEqDiff, reduceCtorEq, b6_IH11]) | refine AM.drawW_fine hp (by kernel_rfl) (by kernel_rfl) (by kernel_rfl) ?_ | refine AM.opW_tied (by kernel_rfl) ?_ | refine AM.opW_untied (by kernel_rfl) ?_))
  have hrl : l.reverse.length = i := by simp [hln]
  have hrd : ∀ k, k < i → l.reverse.getD k dO = l.getD (i - 1 - k) dO := fun k hk => by
    have h1 : k < l.reverse.length := by omega
    have h2 : i - 1 - k < l.length := by omega
    simp only [List.getD, List.getElem?_eq_getElem h1, List.getElem?_eq_getElem h2, Option.getD_some, List.getElem_reverse, hln]
  have stp : ∀ (m : List Op3) (k : Nat), k < m.length → (m.take (k + 1)).foldl stepI [] = stepI ((m.take k).foldl stepI []) (m.getD k dO) := fun m k hk => by
    rw [List.take_add_one, List.getElem?_eq_getElem hk, List.foldl_append]
    simp [List.getD, hk]
  refine AM.loop_w hp 146 (fun k : Nat => [(0, .slice a i c), (3, pv h.next), (5, .bool true), (6, pv hB.next), (7, pv (hB.next + 1)), (60, .int .i64 i), (61, .int .i64 k)])
    (fun k h' => k ≤ i ∧ ∃ m1 m2, H2 hB h' hB.next (hB.next + 1) m1 m2 ((l.take k).foldl stepI []) ((l.reverse.take k).foldl stepI [])) (fun k => i - k) (by kernel_rfl) 0 ?_ ?_ ?_
  · simp (maxSteps := 1000000) (disch := first | omega | (simp only [AM.DB, List.length_set, List.length_map]; first | done | omega)) only [AM.RB, Nat.reduceAdd, Nat.reduceMul, Nat.reduceEqDiff, reduceCtorEq, b6_IH11]
    first | rfl | skip
  · exact ⟨Nat.zero_le _, none, none, xD⟩
  rintro k hE ρ2 ⟨hk, m1, m2, xE⟩
  have sE := sB.fr0 xE.1.2.1
  simp (maxSteps := 1000000) (disch := first | omega | (simp only [AM.DB, List.length_set, List.length_map]; first | done | omega)) only [AM.RB, Nat.reduceAdd, Nat.reduceMul, Nat.reduceEqDiff, reduceCtorEq, b6_IH11]
  refine AM.condV_split (fun hltk => ?_) (fun hltk => ?_)
  · have hki : k < i := by omega
    have ht : ((i : Int) - 1 - k).toNat = i - 1 - k := by omega
    generalize ho : l.getD k dO = o
    generalize ho2 : l.getD (i - 1 - k) dO = o2
    (repeat' (first | (simp (maxSteps := 1000000) (disch := first | omega | (simp only [AM.DB, List.length_set, List.length_map]; first | done | omega)) only [AM.RB, Nat.reduceAdd, Nat.reduceMul, Nat.reduceEqDiff, reduceCtorEq, b6_IH11, sE.ia el_40, sE.fa fd_42_1, sE.fa fd_42_2, sE.ldsF encO_len lk_3 hln dO, Int.toNat_natCast, ho]) | refine AM.drawW_fine hp (by kernel_rfl) (by kernel_rfl) (by kernel_rfl) ?_ | refine AM.opW_tied (by kernel_rfl) ?_ | refine AM.opW_untied (by kernel_rfl) ?_))
    refine xE.give (foldI_ok _ okI_nil) o fun v hF m3 xF => ?_
    have sF := sB.fr0 xF.1.2.1
    (repeat' (first | (simp (maxSteps := 1000000) (disch := first | omega | (simp only [AM.DB, List.length_set, List.length_map]; first | done | omega)) only [AM.RB, Nat.reduceAdd, Nat.reduceMul, Nat.reduceEqDiff, reduceCtorEq, b6_IH11, sF.ia el_40, sF.fa fd_42_1, sF.fa fd_42_2, sF.ldsF encO_len lk_3 hln dO, Int.toNat_natCast, AM.wrap_i64, ht, ho2]) | refine AM.drawW_fine hp (by kernel_rfl) (by kernel_rfl) (by kernel_rfl) ?_ | refine AM.opW_tied (by kernel_rfl) ?_ | refine AM.opW_untied (by kernel_rfl) ?_))
    refine xF.swap.give (foldI_ok _ okI_nil) o2 fun v2 hG m4 xG => ?_
    (repeat' (first | (simp (maxSteps := 1000000) (disch := first | omega | (simp only [AM.DB, List.length_set, List.length_map]; first | done | omega)) only [AM.RB, Nat.reduceAdd, Nat.reduceMul, Nat.reduceEqDiff, reduceCtorEq, b6_IH11, AM.wrap_i64]) | refine AM.drawW_fine hp (by kernel_rfl) (by kernel_rfl) (by kernel_rfl) ?_ | refine AM.opW_tied (by kernel_rfl) ?_ | refine AM.opW_untied (by kernel_rfl) ?_))
    refine ⟨k + 1, by omega, congrArg _ (by omega), by omega, m3, m4, ?_⟩
    rw [stp l k (by omega), stp l.reverse k (by omega), hrd k hki, ho, ho2]
    exact xG.swap
  have hki : k = i := by omega
  have e1 : (l.take k).foldl stepI [] = fitL l := by
    have h1 := fold_fit hnd k (by omega)
    rw [h1, List.take_of_length_le (by omega)]
  have hndr : (l.reverse.map (·.2.1)).Nodup := by rw [List.map_reverse]; exact (List.reverse_perm _).symm.nodup hnd
  have e2 : (l.reverse.take k).foldl stepI [] = fitL l.reverse := by
    have h1 := fold_fit hndr k (by omega)
    rw [h1, List.take_of_length_le (by omega)]
  have okG : okI (fitL l) := by rw [← e1]; exact foldI_ok _ okI_nil
  have okR : okI (fitL l.reverse) := by rw [← e2]; exact foldI_ok _ okI_nil
  rw [e1, e2] at xE
  have hxG : rx ∉ (fitL l).map (·.1) := fun q => hxno (fitL_sub q)
  clear e1 e2 stp hrd hnd hndr
  (repeat' (first | (simp (maxSteps := 1000000) (disch := first | omega | (simp only [AM.DB, List.length_set, List.length_map]; first | done | omega)) only [AM.RB, Nat.reduceAdd, Nat.reduceMul, Nat.reduceEqDiff, reduceCtorEq, b6_IH11]) | refine AM.drawW_fine hp (by kernel_rfl) (by kernel_rfl) (by kernel_rfl) ?_ | refine AM.opW_tied (by kernel_rfl) ?_ | refine AM.opW_untied (by kernel_rfl) ?_))
  refine now_w xE.1.1 okG ?_
  (repeat' (first | (simp (maxSteps := 1000000) (disch := first | omega | (simp only [AM.DB, List.length_set, List.length_map]; first | done | omega)) only [AM.RB, Nat.reduceAdd, Nat.reduceMul, Nat.reduceEqDiff, reduceCtorEq, b6_IH11]) | refine AM.drawW_fine hp (by kernel_rfl) (by kernel_rfl) (by kernel_rfl) ?_ | refine AM.opW_tied (by kernel_rfl) ?_ | refine AM.opW_untied (by kernel_rfl) ?_))
  refine from_w xE.1.1 okG fun v1 hF ow1 frF fv1 => ?_
  have xF := xE.fr0 frF
  obtain ⟨a1, c1, rfl⟩ := ow1.form
  (repeat' (first | (simp (maxSteps := 1000000) (disch := first | omega | (simp only [AM.DB, List.length_set, List.length_map]; first | done | omega)) only [AM.RB, Nat.reduceAdd, Nat.reduceMul, Nat.reduceEqDiff, reduceCtorEq, b6_IH11]) | refine AM.drawW_fine hp (by kernel_rfl) (by kernel_rfl) (by kernel_rfl) ?_ | refine AM.opW_tied (by kernel_rfl) ?_ | refine AM.opW_untied (by kernel_rfl) ?_))
  refine now_w xF.2.1.1 okR ?_
  rw [nowL_perm (fitL_rev l)]
  generalize hw0 : nowL 0 (fitL l) = w0
  have ew : decide (w0 = w0) = true := decide_eq_true rfl
  (repeat' (first | (simp (maxSteps := 1000000) (disch := first | omega | (simp only [AM.DB, List.length_set, List.length_map]; first | done | omega)) only [AM.RB, Nat.reduceAdd, Nat.reduceMul, Nat.reduceEqDiff, reduceCtorEq, b6_IH11, ew]) | refine AM.drawW_fine hp (by kernel_rfl) (by kernel_rfl) (by kernel_rfl) ?_ | refine AM.opW_tied (by kernel_rfl) ?_ | refine AM.opW_untied (by kernel_rfl) ?_))
  refine from_w xF.2.1.1 okR fun v2 hG ow2 frG _ => ?_
  have xG := xF.fr0 frG
  have ow1G := ow1.fr0 frG
  have lenR : (fitL l.reverse).length = (fitL l).length := (fitL_rev l).length_eq
  have lenG := okG.len
  rw [fromL_perm (fitL_rev l)] at ow2
  obtain ⟨a2, c2, rfl⟩ := ow2.form
  (repeat' (first | (simp (maxSteps := 1000000) (disch := first | omega | (simp only [AM.DB, List.length_set, List.length_map]; first | done | omega)) only [AM.RB, Nat.reduceAdd, Nat.reduceMul, Nat.reduceEqDiff, reduceCtorEq, b6_IH11]) | refine AM.drawW_fine hp (by kernel_rfl) (by kernel_rfl) (by kernel_rfl) ?_ | refine AM.opW_tied (by kernel_rfl) ?_ | refine AM.opW_untied (by kernel_rfl) ?_))
  refine same_w ow2.rd ow1G.rd (by omega) ?_
  have es : decide (fromL (fitL l) = fromL (fitL l)) = true := decide_eq_true rfl
  rw [es]
  have gxG := gB.fr0 xG.1.2.1
  (repeat' (first | (simp (maxSteps := 1000000) (disch := first | omega | (simp only [AM.DB, List.length_set, List.length_map]; first | done | omega)) only [AM.RB, Nat.reduceAdd, Nat.reduceMul, Nat.reduceEqDiff, reduceCtorEq, b6_IH11, gxG]) | refine AM.drawW_fine hp (by kernel_rfl) (by kernel_rfl) (by kernel_rfl) ?_ | refine AM.opW_tied (by kernel_rfl) ?_ | refine AM.opW_untied (by kernel_rfl) ?_))
  have o1lt : ∀ id, idOf (.slice a1 (fitL l).length c1) id → id < hG.next := fun id q => ow1G.lt q
  have noG : ∀ id, idOf (.slice a1 (fitL l).length c1) id → ¬ own hB.next m1 id := fun id q e => by
    have := fv1 id q
    have := xE.1.1.lt e
    omega
  have d20 : decide ((2 : Int) = 0) = false := rfl
  have d00 : decide ((0 : Int) = 0) = true := rfl
  refine give_w xG.1.1 okG rx px (fun hb hH frH => ?_) (fun hf => xG.left fun hH m3 xH frH hm3 => ?_)
  · have xH := xG.fr0 frH
    have owH := ow1G.fr0 frH
    have noH := noG
    (repeat' (first | (simp (maxSteps := 1000000) (disch := first | omega | (simp only [AM.DB, List.length_set, List.length_map]; first | done | omega)) only [AM.RB, Nat.reduceAdd, Nat.reduceMul, Nat.reduceEqDiff, reduceCtorEq, b6_IH11]) | refine AM.drawW_fine hp (by kernel_rfl) (by kernel_rfl) (by kernel_rfl) ?_ | refine AM.opW_tied (by kernel_rfl) ?_ | refine AM.opW_untied (by kernel_rfl) ?_))
    refine now_w xH.1.1 okG ?_
    rw [hw0]
    have gxH := gB.fr0 xH.1.2.1
    (repeat' (first | (simp (maxSteps := 1000000) (disch := first | omega | (simp only [AM.DB, List.length_set, List.length_map]; first | done | omega)) only [AM.RB, Nat.reduceAdd, Nat.reduceMul, Nat.reduceEqDiff, reduceCtorEq, b6_IH11, d20, gxH]) | refine AM.drawW_fine hp (by kernel_rfl) (by kernel_rfl) (by kernel_rfl) ?_ | refine AM.opW_tied (by kernel_rfl) ?_ | refine AM.opW_untied (by kernel_rfl) ?_))
    refine back_w xH.1.1 okG rx (xH.left fun hI m5 xI frI _ => ?_)
    rw [delI_no hxG] at xI
    (repeat' (first | (simp (maxSteps := 1000000) (disch := first | omega | (simp only [AM.DB, List.length_set, List.length_map]; first | done | omega)) only [AM.RB, Nat.reduceAdd, Nat.reduceMul, Nat.reduceEqDiff, reduceCtorEq, b6_IH11]) | refine AM.drawW_fine hp (by kernel_rfl) (by kernel_rfl) (by kernel_rfl) ?_ | refine AM.opW_tied (by kernel_rfl) ?_ | refine AM.opW_untied (by kernel_rfl) ?_))
    refine now_w xI.1.1 okG ?_
    rw [hw0]
    (repeat' (first | (simp (maxSteps := 1000000) (disch := first | omega | (simp only [AM.DB, List.length_set, List.length_map]; first | done | omega)) only [AM.RB, Nat.reduceAdd, Nat.reduceMul, Nat.reduceEqDiff, reduceCtorEq, b6_IH11, ew]) | refine AM.drawW_fine hp (by kernel_rfl) (by kernel_rfl) (by kernel_rfl) ?_ | refine AM.opW_tied (by kernel_rfl) ?_ | refine AM.opW_untied (by kernel_rfl) ?_))
    refine from_w xI.1.1 okG fun v3 hJ ow3 frJ _ => ?_
    obtain ⟨a3, c3, rfl⟩ := ow3.form
    have owJ := (owH.fr frI (fun id q e => noH id q e)).fr0 frJ
    (repeat' (first | (simp (maxSteps := 1000000) (disch := first | omega | (simp only [AM.DB, List.length_set, List.length_map]; first | done | omega)) only [AM.RB, Nat.reduceAdd, Nat.reduceMul, Nat.reduceEqDiff, reduceCtorEq, b6_IH11]) | refine AM.drawW_fine hp (by kernel_rfl) (by kernel_rfl) (by kernel_rfl) ?_ | refine AM.opW_tied (by kernel_rfl) ?_ | refine AM.opW_untied (by kernel_rfl) ?_))
    refine same_w ow3.rd owJ.rd (by omega) ?_
    rw [es]
    (repeat' (first | (simp (maxSteps := 1000000) (disch := first | omega | (simp only [AM.DB, List.length_set, List.length_map]; first | done | omega)) only [AM.RB, Nat.reduceAdd, Nat.reduceMul, Nat.reduceEqDiff, reduceCtorEq, b6_IH11]) | refine AM.drawW_fine hp (by kernel_rfl) (by kernel_rfl) (by kernel_rfl) ?_ | refine AM.opW_tied (by kernel_rfl) ?_ | refine AM.opW_untied (by kernel_rfl) ?_))
  · have okH : okI (setI (fitL l) rx px) := okG.set hf
    have eH : setI (fitL l) rx px = fitL l ++ [(rx, px)] := setI_new px hxG
    have owH := ow1G.fr frH noG
    have noH : ∀ id, idOf (.slice a1 (fitL l).length c1) id → ¬ own hB.next m3 id := fun id q e => by
      rcases e with e | e
      · exact noG id q (.inl e)
      · rcases hm3 id e with e | e
        · exact noG id q (.inr e)
        · have := o1lt id q; omega
    have eN : nowL 0 (setI (fitL l) rx px) = max w0 px := by rw [eH, nowL_last, hw0]
    rw [eN, hw0]
    (repeat' (first | (simp (maxSteps := 1000000) (disch := first | omega | (simp only [AM.DB, List.length_set, List.length_map]; first | done | omega)) only [AM.RB, Nat.reduceAdd, Nat.reduceMul, Nat.reduceEqDiff, reduceCtorEq, b6_IH11]) | refine AM.drawW_fine hp (by kernel_rfl) (by kernel_rfl) (by kernel_rfl) ?_ | refine AM.opW_tied (by kernel_rfl) ?_ | refine AM.opW_untied (by kernel_rfl) ?_))
    refine now_w xH.1.1 okH ?_
    rw [eN]
    have gxH := gB.fr0 xH.1.2.1
    have em : decide (max w0 px = max w0 px) = true := decide_eq_true rfl
    by_cases hmx : max w0 px = w0
    · have dm : decide (max w0 px = w0) = true := decide_eq_true hmx
      have dn : decide (max w0 px ≠ w0) = false := decide_eq_false (fun q => q hmx)
      rw [dn]
      (repeat' (first | (simp (maxSteps := 1000000) (disch := first | omega | (simp only [AM.DB, List.length_set, List.length_map]; first | done | omega)) only [AM.RB, Nat.reduceAdd, Nat.reduceMul, Nat.reduceEqDiff, reduceCtorEq, b6_IH11, d00, gxH, em, dm]) | refine AM.drawW_fine hp (by kernel_rfl) (by kernel_rfl) (by kernel_rfl) ?_ | refine AM.opW_tied (by kernel_rfl) ?_ | refine AM.opW_untied (by kernel_rfl) ?_))
      refine back_w xH.1.1 okH rx (xH.left fun hI m5 xI frI _ => ?_)
      rw [eH, delI_last px hxG] at xI
      (repeat' (first | (simp (maxSteps := 1000000) (disch := first | omega | (simp only [AM.DB, List.length_set, List.length_map]; first | done | omega)) only [AM.RB, Nat.reduceAdd, Nat.reduceMul, Nat.reduceEqDiff, reduceCtorEq, b6_IH11]) | refine AM.drawW_fine hp (by kernel_rfl) (by kernel_rfl) (by kernel_rfl) ?_ | refine AM.opW_tied (by kernel_rfl) ?_ | refine AM.opW_untied (by kernel_rfl) ?_))
      refine now_w xI.1.1 okG ?_
      rw [hw0]
      (repeat' (first | (simp (maxSteps := 1000000) (disch := first | omega | (simp only [AM.DB, List.length_set, List.length_map]; first | done | omega)) only [AM.RB, Nat.reduceAdd, Nat.reduceMul, Nat.reduceEqDiff, reduceCtorEq, b6_IH11, ew]) | refine AM.drawW_fine hp (by kernel_rfl) (by kernel_rfl) (by kernel_rfl) ?_ | refine AM.opW_tied (by kernel_rfl) ?_ | refine AM.opW_untied (by kernel_rfl) ?_))
      refine from_w xI.1.1 okG fun v3 hJ ow3 frJ _ => ?_
      obtain ⟨a3, c3, rfl⟩ := ow3.form
      have owJ := (owH.fr frI (fun id q e => noH id q e)).fr0 frJ
      (repeat' (first | (simp (maxSteps := 1000000) (disch := first | omega | (simp only [AM.DB, List.length_set, List.length_map]; first | done | omega)) only [AM.RB, Nat.reduceAdd, Nat.reduceMul, Nat.reduceEqDiff, reduceCtorEq, b6_IH11]) | refine AM.drawW_fine hp (by kernel_rfl) (by kernel_rfl) (by kernel_rfl) ?_ | refine AM.opW_tied (by kernel_rfl) ?_ | refine AM.opW_untied (by kernel_rfl) ?_))
      refine same_w ow3.rd owJ.rd (by omega) ?_
      rw [es]
      (repeat' (first | (simp (maxSteps := 1000000) (disch := first | omega | (simp only [AM.DB, List.length_set, List.length_map]; first | done | omega)) only [AM.RB, Nat.reduceAdd, Nat.reduceMul, Nat.reduceEqDiff, reduceCtorEq, b6_IH11]) | refine AM.drawW_fine hp (by kernel_rfl) (by kernel_rfl) (by kernel_rfl) ?_ | refine AM.opW_tied (by kernel_rfl) ?_ | refine AM.opW_untied (by kernel_rfl) ?_))
    · have dm : decide (max w0 px = w0) = false := decide_eq_false hmx
      have dn : decide (max w0 px ≠ w0) = true := decide_eq_true hmx
      rw [dn]
      (repeat' (first | (simp (maxSteps := 1000000) (disch := first | omega | (simp only [AM.DB, List.length_set, List.length_map]; first | done | omega)) only [AM.RB, Nat.reduceAdd, Nat.reduceMul, Nat.reduceEqDiff, reduceCtorEq, b6_IH11, d00, gxH, em, dm]) | refine AM.drawW_fine hp (by kernel_rfl) (by kernel_rfl) (by kernel_rfl) ?_ | refine AM.opW_tied (by kernel_rfl) ?_ | refine AM.opW_untied (by kernel_rfl) ?_))
      refine back_w xH.1.1 okH rx (xH.left fun hI m5 xI frI _ => ?_)
      rw [eH, delI_last px hxG] at xI
      (repeat' (first | (simp (maxSteps := 1000000) (disch := first | omega | (simp only [AM.DB, List.length_set, List.length_map]; first | done | omega)) only [AM.RB, Nat.reduceAdd, Nat.reduceMul, Nat.reduceEqDiff, reduceCtorEq, b6_IH11]) | refine AM.drawW_fine hp (by kernel_rfl) (by kernel_rfl) (by kernel_rfl) ?_ | refine AM.opW_tied (by kernel_rfl) ?_ | refine AM.opW_untied (by kernel_rfl) ?_))
      refine now_w xI.1.1 okG ?_
      rw [hw0]
      (repeat' (first | (simp (maxSteps := 1000000) (disch := first | omega | (simp only [AM.DB, List.length_set, List.length_map]; first | done | omega)) only [AM.RB, Nat.reduceAdd, Nat.reduceMul, Nat.reduceEqDiff, reduceCtorEq, b6_IH11, ew]) | refine AM.drawW_fine hp (by kernel_rfl) (by kernel_rfl) (by kernel_rfl) ?_ | refine AM.opW_tied (by kernel_rfl) ?_ | refine AM.opW_untied (by kernel_rfl) ?_))
      refine from_w xI.1.1 okG fun v3 hJ ow3 frJ _ => ?_
      obtain ⟨a3, c3, rfl⟩ := ow3.form
      have owJ := (owH.fr frI (fun id q e => noH id q e)).fr0 frJ
      (repeat' (first | (simp (maxSteps := 1000000) (disch := first | omega | (simp only [AM.DB, List.length_set, List.length_map]; first | done | omega)) only [AM.RB, Nat.reduceAdd, Nat.reduceMul, Nat.reduceEqDiff, reduceCtorEq, b6_IH11]) | refine AM.drawW_fine hp (by kernel_rfl) (by kernel_rfl) (by kernel_rfl) ?_ | refine AM.opW_tied (by kernel_rfl) ?_ | refine AM.opW_untied (by kernel_rfl) ?_))
      refine same_w ow3.rd owJ.rd (by omega) ?_
      rw [es]
      (repeat' (first | (simp (maxSteps := 1000000) (disch := first | omega | (simp only [AM.DB, List.length_set, List.length_map]; first | done | omega)) only [AM.RB, Nat.reduceAdd, Nat.reduceMul, Nat.reduceEqDiff, reduceCtorEq, b6_IH11]) | refine AM.drawW_fine hp (by kernel_rfl) (by kernel_rfl) (by kernel_rfl) ?_ | refine AM.opW_tied (by kernel_rfl) ?_ | refine AM.opW_untied (by kernel_rfl) ?_))
end Go.Proofs.Ytodcnfabnlojdaa
