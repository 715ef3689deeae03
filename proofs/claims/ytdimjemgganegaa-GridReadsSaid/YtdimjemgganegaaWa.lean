/- Walks of this claim's functions, and plain laws. -/
import Derived.Test.YtdimjemgganegaaProg
import Derived.Test.YtdimjemgganegaaAMRules
import Derived.Test.YtdimjemgganegaaAMStr
import Derived.KernelRfl
import Derived.Test.YtdimjemgganegaaAMIter2
import Derived.Test.YtdimjemgganegaaAMLaw
import Derived.Test.YtdimjemgganegaaChecked
import Derived.Lib.UnsafeStr
import Derived.Lib.Builder
import Derived.Laws.StandIn
import Derived.Shelf.RegionOpenPlain
import Derived.WalkKit
set_option linter.unusedSimpArgs false
set_option linter.unusedVariables false
namespace Go.Proofs.Ytdimjemgganegaa
open Go.AM

theorem ul_3 : Try.prog.underlying 3 = some (.int .i64) := by kernel_rfl
theorem lk_3 : lkI Try.prog 3 = some none := by kernel_rfl
theorem sz_3 : szI Try.prog 3 = some 1 := by kernel_rfl
theorem al_3 : alI Try.prog 3 = some ([.int .i64 0]) := by kernel_rfl
theorem ul_4 : Try.prog.underlying 4 = some (.bool) := by kernel_rfl
theorem lk_4 : lkI Try.prog 4 = some none := by kernel_rfl
theorem sz_4 : szI Try.prog 4 = some 1 := by kernel_rfl
theorem al_4 : alI Try.prog 4 = some ([.bool false]) := by kernel_rfl
theorem ul_5 : Try.prog.underlying 5 = some (.int .u8) := by kernel_rfl
theorem lk_5 : lkI Try.prog 5 = some none := by kernel_rfl
theorem sz_5 : szI Try.prog 5 = some 1 := by kernel_rfl
theorem al_5 : alI Try.prog 5 = some ([.int .u8 0]) := by kernel_rfl
theorem ul_9 : Try.prog.underlying 9 = some (.string) := by kernel_rfl
theorem lk_9 : lkI Try.prog 9 = some none := by kernel_rfl
theorem sz_9 : szI Try.prog 9 = some 1 := by kernel_rfl
theorem al_9 : alI Try.prog 9 = some ([.string ByteArray.empty]) := by kernel_rfl
theorem ul_22 : Try.prog.underlying 22 = some (.pointer 54) := by kernel_rfl
theorem lk_22 : lkI Try.prog 22 = some none := by kernel_rfl
theorem sz_22 : szI Try.prog 22 = some 1 := by kernel_rfl
theorem al_22 : alI Try.prog 22 = some ([.pointer none]) := by kernel_rfl
theorem ul_23 : Try.prog.underlying 23 = some (.int .i64) := by kernel_rfl
theorem lk_23 : lkI Try.prog 23 = some none := by kernel_rfl
theorem sz_23 : szI Try.prog 23 = some 1 := by kernel_rfl
theorem al_23 : alI Try.prog 23 = some ([.int .i64 0]) := by kernel_rfl
theorem ul_26 : Try.prog.underlying 26 = some (.pointer 32) := by kernel_rfl
theorem lk_26 : lkI Try.prog 26 = some none := by kernel_rfl
theorem sz_26 : szI Try.prog 26 = some 1 := by kernel_rfl
theorem al_26 : alI Try.prog 26 = some ([.pointer none]) := by kernel_rfl
theorem ul_30 : Try.prog.underlying 30 = some (.slice 9) := by kernel_rfl
theorem lk_30 : lkI Try.prog 30 = some none := by kernel_rfl
theorem sz_30 : szI Try.prog 30 = some 1 := by kernel_rfl
theorem al_30 : alI Try.prog 30 = some ([.slice none 0 0]) := by kernel_rfl
theorem el_30 : elI Try.prog 30 = some (9, 1) := by kernel_rfl
theorem ap_30 : apI Try.prog 30 = some (9, 1, 16) := by kernel_rfl
theorem bs_30 : bsI Try.prog 30 = some (9, 1) := by kernel_rfl
theorem lk_32 : lkI Try.prog 32 = some (some 1) := by kernel_rfl
theorem sz_32 : szI Try.prog 32 = some 1 := by kernel_rfl
theorem al_32 : alI Try.prog 32 = some ([.slice none 0 0]) := by kernel_rfl
theorem bd_32 : bdI Try.prog 32 = some ([.slice none 0 0], [(0, 1)]) := by kernel_rfl
theorem fd_32_0 : fdI Try.prog 32 0 = some 0 := by kernel_rfl
theorem fv_32_0 : fvI Try.prog 32 0 = some (0, none) := by kernel_rfl
theorem ul_34 : Try.prog.underlying 34 = some (.slice 3) := by kernel_rfl
theorem lk_34 : lkI Try.prog 34 = some none := by kernel_rfl
theorem sz_34 : szI Try.prog 34 = some 1 := by kernel_rfl
theorem al_34 : alI Try.prog 34 = some ([.slice none 0 0]) := by kernel_rfl
theorem el_34 : elI Try.prog 34 = some (3, 1) := by kernel_rfl
theorem ap_34 : apI Try.prog 34 = some (3, 1, 8) := by kernel_rfl
theorem bs_34 : bsI Try.prog 34 = some (3, 1) := by kernel_rfl
theorem ul_39 : Try.prog.underlying 39 = some (.slice 5) := by kernel_rfl
theorem lk_39 : lkI Try.prog 39 = some none := by kernel_rfl
theorem sz_39 : szI Try.prog 39 = some 1 := by kernel_rfl
theorem al_39 : alI Try.prog 39 = some ([.slice none 0 0]) := by kernel_rfl
theorem el_39 : elI Try.prog 39 = some (5, 1) := by kernel_rfl
theorem ap_39 : apI Try.prog 39 = some (5, 1, 1) := by kernel_rfl
theorem bs_39 : bsI Try.prog 39 = some (5, 1) := by kernel_rfl
theorem lk_54 : lkI Try.prog 54 = some (some 8) := by kernel_rfl
theorem sz_54 : szI Try.prog 54 = some 8 := by kernel_rfl
theorem al_54 : alI Try.prog 54 = some ([.int .i64 0, .int .i64 0, .slice none 0 0, .int .u32 0, .int .i32 0, .int .u32 0, .slice none 0 0, .slice none 0 0]) := by kernel_rfl
theorem bd_54 : bdI Try.prog 54 = some ([.int .i64 0, .int .i64 0, .slice none 0 0, .int .u32 0, .int .i32 0, .int .u32 0, .slice none 0 0, .slice none 0 0], [(0, 1), (1, 1), (2, 1), (3, 3), (6, 1), (7, 1)]) := by kernel_rfl
theorem fd_54_0 : fdI Try.prog 54 0 = some 0 := by kernel_rfl
theorem fv_54_0 : fvI Try.prog 54 0 = some (0, none) := by kernel_rfl
theorem fd_54_1 : fdI Try.prog 54 1 = some 1 := by kernel_rfl
theorem fv_54_1 : fvI Try.prog 54 1 = some (1, none) := by kernel_rfl
theorem fd_54_2 : fdI Try.prog 54 2 = some 2 := by kernel_rfl
theorem fv_54_2 : fvI Try.prog 54 2 = some (2, none) := by kernel_rfl
theorem fd_54_3 : fdI Try.prog 54 3 = some 3 := by kernel_rfl
theorem fv_54_3 : fvI Try.prog 54 3 = some (3, some 3) := by kernel_rfl
theorem fd_54_4 : fdI Try.prog 54 4 = some 6 := by kernel_rfl
theorem fv_54_4 : fvI Try.prog 54 4 = some (6, none) := by kernel_rfl
theorem fd_54_5 : fdI Try.prog 54 5 = some 7 := by kernel_rfl
theorem fv_54_5 : fvI Try.prog 54 5 = some (7, none) := by kernel_rfl
theorem ul_62 : Try.prog.underlying 62 = some (.pointer 64) := by kernel_rfl
theorem lk_62 : lkI Try.prog 62 = some none := by kernel_rfl
theorem sz_62 : szI Try.prog 62 = some 1 := by kernel_rfl
theorem al_62 : alI Try.prog 62 = some ([.pointer none]) := by kernel_rfl
theorem lk_64 : lkI Try.prog 64 = some (some 2) := by kernel_rfl
theorem sz_64 : szI Try.prog 64 = some 2 := by kernel_rfl
theorem al_64 : alI Try.prog 64 = some ([.pointer none, .slice none 0 0]) := by kernel_rfl
theorem bd_64 : bdI Try.prog 64 = some ([.pointer none, .slice none 0 0], [(0, 1), (1, 1)]) := by kernel_rfl
theorem fd_64_0 : fdI Try.prog 64 0 = some 0 := by kernel_rfl
theorem fv_64_0 : fvI Try.prog 64 0 = some (0, none) := by kernel_rfl
theorem fd_64_1 : fdI Try.prog 64 1 = some 1 := by kernel_rfl
theorem fv_64_1 : fvI Try.prog 64 1 = some (1, none) := by kernel_rfl
theorem ul_77 : Try.prog.underlying 77 = some (.pointer 5) := by kernel_rfl
theorem lk_77 : lkI Try.prog 77 = some none := by kernel_rfl
theorem sz_77 : szI Try.prog 77 = some 1 := by kernel_rfl
theorem al_77 : alI Try.prog 77 = some ([.pointer none]) := by kernel_rfl
theorem lk_79 : lkI Try.prog 79 = some none := by kernel_rfl
theorem sz_79 : szI Try.prog 79 = some 1 := by kernel_rfl
theorem al_79 : alI Try.prog 79 = some ([.pointer none]) := by kernel_rfl

end Go.Proofs.Ytdimjemgganegaa

/- What stands for three of Go's library's functions (bytealg.IndexByteString, a Builder's copyCheck and String), and that they answer so. -/
namespace Go.AM
open Go.Proofs Go.RowKit Go.Lib

noncomputable def pIdxB : CallV → List Value → AHeap → R Value := fun _ all h => match all with
  | [.string s, .int .u8 c] => some (.int .i64 (firstIdx s c.toNat.toUInt8), h)
  | _ => none
theorem idxB_ok (G : Nat → Bool) : PrimOk Try.prog G 38 pIdxB := by
  intro call _ B μ h w all r h' hh hg hr all' ha
  unfold pIdxB at hh
  split at hh
  · rename_i s c
    cases hh
    obtain ⟨a, m, e1, v1, ha⟩ := ha.cons_inv
    obtain ⟨b, m2, rfl, v2, ha⟩ := ha.cons_inv
    obtain rfl := ha.nil_inv
    cases v1; cases v2
    have e2 : all' = #[.string s, .int .u8 c] := by
      apply Array.toList_inj.1; rw [e1]
    subst e2
    refine .inl ⟨by kernel_rfl, .int .i64 (firstIdx s c.toNat.toUInt8), w, ?_, μ, .int _ _, Post.refl hr, Keeps.refl h⟩
    rw [run_callFunc_indexByte Try.func38 (by kernel_rfl) (by kernel_rfl) (by kernel_rfl) (by kernel_rfl), run_indexByte_string]
    rfl
  · cases hh

set_option maxHeartbeats 1000000 in
set_option maxRecDepth 100000 in
theorem copyCheck_used (b o : Nat) (w : World) (h0 : w.cell? ⟨b, o, none⟩ = some (.pointer (some ⟨b, o, none⟩))) :
    Calls Try.prog 33 #[.pointer (some ⟨b, o, none⟩)] w fun e w' => e = .returned (.tuple #[]) ∧ w' = w := by
  obtain ⟨j, hj, _⟩ : ∃ j, Try.prog.info? 64 = some j ∧ j.size ≠ 0 := by
    have h : (Try.prog.info? 64).map (fun i => i.size) = some 2 := by kernel_rfl
    obtain ⟨j, h1, h2⟩ := Option.map_eq_some_iff.1 h
    exact ⟨j, h1, by omega⟩
  go_enter Try.func33, Try.ntmps33
  go_wp2
  rw [Lib.run_neq_ptr_same w _ Try.underlying62 hj]
  go_wp2
  go_end0
  exact ⟨rfl, rfl⟩


set_option maxHeartbeats 1000000 in
set_option maxRecDepth 100000 in
theorem copyCheck_fresh (b : Nat) (w : World) (h0 : w.cell? ⟨b, 0, none⟩ = some (.pointer none)) (hsh : w.shape? b = some (64, 2)) (hfz : w.frozen? ⟨b, 0, none⟩ = false) :
    Calls Try.prog 33 #[.pointer (some ⟨b, 0, none⟩)] w fun e w' => e = .returned (.tuple #[]) ∧ w' = w.setCell ⟨b, 0, none⟩ (.pointer (some ⟨b, 0, none⟩)) := by
  obtain ⟨j, hj, hjs⟩ : ∃ j, Try.prog.info? 64 = some j ∧ j.size = 2 := by
    have h : (Try.prog.info? 64).map (fun i => i.size) = some 2 := by kernel_rfl
    obtain ⟨j, h1, h2⟩ := Option.map_eq_some_iff.1 h
    exact ⟨j, h1, h2⟩
  have hlies : liesAt Try.prog Try.prog.depth 64 (2 / Try.prog.cellsOf 64) 0 64 1 = true := by kernel_rfl
  go_enter Try.func33, Try.ntmps33
  go_wp2
  rw [Lib.run_to_unsafe w ⟨b, 0, none⟩ Try.underlying62 Try.underlying79 hj (by rw [hjs]; decide) hsh (Nat.zero_lt_succ 1)]
  simp only [Result.andThen]
  rw [Oper.upon_value]
  go_wp2
  rw [run_callFunc_extern Try.func37 (by kernel_rfl) (by kernel_rfl) (by kernel_rfl) (e := Extern.AbiNoEscape.same) (by kernel_rfl)]
  rw [Lib.run_noEscape]
  simp only [Result.andThen]
  rw [Oper.upon_value]
  go_wp2
  rw [Lib.run_from_unsafe w ⟨b, 0, none⟩ Try.underlying79 Try.underlying62 hj hsh hlies]
  simp only [Result.andThen]
  rw [Oper.upon_value]
  go_wp2
  go_end0
  exact ⟨rfl, rfl⟩


theorem run_unsafeString_at (w : World) (pt it ty e : TypeId) (hp : Try.prog.underlying pt = some (.pointer e)) (hc : Try.prog.cellsOf e = 1) (g off cells : Nat) (hsh : w.shape? g = some (e, cells)) (l : List UInt8) (h0 : l ≠ []) (hn : off + l.length ≤ cells) (h63 : l.length ≤ 9223372036854775807)
    (hcell : ∀ j x, l[j]? = some x → w.cell? ((⟨g, off, none⟩ : Addr).add j) = some (.int .u8 x.toNat)) :
    (Builtin.unsafeString_ #[pt, it] ty #[.pointer (some ⟨g, off, none⟩), .int .i64 l.length]).run Try.prog w = .ok (.string ⟨l.toArray⟩) (w.freeze ⟨g, off, none⟩ l.length) := by
  have hl : l.length ≠ 0 := by simpa using h0
  have hlb := run_loadBytes (P := Try.prog) w l ⟨g, off, none⟩ .empty hcell
  have hlies : liesAt Try.prog Try.prog.depth e (cells / Try.prog.cellsOf e) off e l.length = true := by
    have hd : Try.prog.depth = (2 * (Try.prog.types.size + Made.depth) + 1) + 1 := rfl
    rw [hd]
    simp only [liesAt, Bool.or_eq_true]
    left
    rw [hd]
    simp [rowAt, hc, hn, sameLayout, Nat.mod_one]
  have h63' : ¬ (9223372036854775807 : Int) < (l.length : Int) := by omega
  have hdef : Builtin.unsafeString_ #[pt, it] ty #[.pointer (some ⟨g, off, none⟩), .int .i64 l.length] =
      (do
        let n ← asInt (.int .i64 l.length)
        if n < 0 then runtimePanic (.error "unsafe.String: len out of range")
        if n > IntKind.i64.max then unsupported (.unsafePointer "String: a length above the largest int")
        if n = 0 then pure (.string .empty)
        else if ← variablesAt ⟨g, off, none⟩ (← elemOf pt) n.toNat then do
          let s ← loadBytes ⟨g, off, none⟩ .empty n.toNat
          freeze ⟨g, off, none⟩ n.toNat
          pure (.string s)
        else unsupported (.unsafePointer "String: not so many bytes at ptr")) := rfl
  rw [hdef]
  have hmax : IntKind.i64.max = 9223372036854775807 := rfl
  have hneg : ¬ (l.length : Int) < 0 := by omega
  simp [asInt, asIntOf, hmax, h63', hneg, hl, variablesAt, hsh, elemOf, run_underlying hp, hlies, hlb]

set_option maxHeartbeats 1000000 in
set_option maxRecDepth 100000 in
theorem string_run (b g off cap cells : Nat) (l : List UInt8) (w : World) (h1 : w.cell? ⟨b, 1, none⟩ = some (.slice (some ⟨g, off, none⟩) l.length cap)) (hcap : cap ≠ 0) (h0 : l ≠ []) (hsh : w.shape? g = some (5, cells)) (hn : off + l.length ≤ cells) (h63 : l.length ≤ 9223372036854775807)
    (hcell : ∀ j x, l[j]? = some x → w.cell? ((⟨g, off, none⟩ : Addr).add j) = some (.int .u8 x.toNat)) :
    Calls Try.prog 25 #[.pointer (some ⟨b, 0, none⟩)] w fun e w' => e = .returned (.string ⟨l.toArray⟩) ∧ w' = w.drew.freeze ⟨g, off, none⟩ l.length := by
  have c1 : w.drew.cell? ⟨b, 1, none⟩ = some (.slice (some ⟨g, off, none⟩) l.length cap) := h1
  have mixed : Try.prog.follows .mixedOrders = true := by kernel_rfl
  have hSD : (Builtin.unsafeSliceData_ #[39] 77 #[.slice (some ⟨g, off, none⟩) l.length cap]).run Try.prog w.drew = .ok (.pointer (some ⟨g, off, none⟩)) w.drew :=
    Lib.run_unsafeSliceData_row _ _ _ _ _ _ hcap
  have hUS := run_unsafeString_at w.drew 77 3 9 5 Try.underlying77 (by kernel_rfl) g off cells hsh l h0 hn h63 hcell
  go_enter Try.func25, Try.ntmps25
  go_wp2
  go_region_o
  all_goals (go_wp2; go_ret; exact ⟨rfl, rfl⟩)

end Go.AM

/- What stands for a Builder's copyCheck and String answers as they do. -/
namespace Go.AM
open Go.Proofs Go.RowKit Go.Lib

noncomputable def pCopy : CallV → List Value → AHeap → R Value := fun _ all h => match all with
  | [.pointer (some ⟨id, off, none⟩)] =>
    match h.get id with
    | some (.cells c e o) =>
      match c[off]? with
      | some (.pointer none) => if h.low ≤ id ∧ e = 64 ∧ off = 0 ∧ c.length = 2 ∧ o = false then some (.tuple #[], h.put id (some (.cells (setRow c 0 [.pointer (some ⟨id, 0, none⟩)]) e o))) else none
      | some (.pointer (some ⟨id', off', none⟩)) => if id' = id ∧ off' = off then some (.tuple #[], h) else none
      | _ => none
    | _ => none
  | _ => none

def bytesL : List Value → Option (List UInt8)
  | [] => some []
  | .int .u8 n :: l => if 0 ≤ n ∧ n < 256 then (bytesL l).map (UInt8.ofNat n.toNat :: ·) else none
  | _ :: _ => none
theorem bytesL_rel {μ : Map} : ∀ {cs cs' : List Value} {l : List UInt8}, bytesL cs = some l → VRs μ cs cs' → l.length = cs.length ∧ ∀ (j : Nat) (x : UInt8), l[j]? = some x → cs'[j]? = some (.int .u8 x.toNat)
  | [], cs', l, h, _ => by cases h; exact ⟨rfl, fun j x hj => by simp at hj⟩
  | v :: cs, cs', l, h, hv => by
    obtain ⟨v', m, rfl, h1, h2⟩ := hv.cons_inv
    unfold bytesL at h
    split at h
    · rename_i e; cases e
    · rename_i n _ e
      cases e
      split at h
      · rename_i hn
        obtain ⟨l', hl', rfl⟩ := Option.map_eq_some_iff.1 h
        obtain ⟨k1, k2⟩ := bytesL_rel hl' h2
        refine ⟨by simp [k1], fun j x hj => ?_⟩
        cases j with
        | zero =>
          simp only [List.getElem?_cons_zero, Option.some.injEq] at hj
          subst hj
          cases h1
          simp only [List.getElem?_cons_zero]
          have : ((UInt8.ofNat n.toNat).toNat : Int) = n := by
            rw [UInt8.toNat_ofNat']; omega
          rw [this]
        | succ j => simpa using k2 j x (by simpa using hj)
      · cases h
    · cases h

noncomputable def pStr : CallV → List Value → AHeap → R Value := fun _ all h => match all with
  | [.pointer (some ⟨id, off, none⟩)] =>
    match h.get id with
    | some (.cells c e o) =>
      match (c[1]? : Option Value) with
      | some (.slice (some ⟨bid, boff, none⟩) n cap) =>
        match h.get bid with
        | some (.cells bc be bo) =>
          if h.low ≤ id ∧ e = 64 ∧ off = 0 ∧ c.length = 2 ∧ o = false ∧ h.low ≤ bid ∧ bid ≠ id ∧ be = 5 ∧ boff + n ≤ bc.length ∧ 0 < n ∧ n ≤ cap then
            (bytesL ((bc.drop boff).take n)).map fun l => (.string ⟨l.toArray⟩, h.put bid none)
          else none
        | _ => none
      | _ => none
    | _ => none
  | _ => none

theorem enterG {g : FuncId} {fn : Func} {c : Code} (hfn : Try.prog.funcs[g]? = some fn) (hb : fn.body = some c) (hname : (fn.name == "runtime.NumGoroutine") = false) (xs : Array Value) (w : World) : (callFunc g xs).run Try.prog w = .ok (.enter g xs) w := by
  simp only [callFunc, Sem.run_bind, run_program, Result.andThen_ok, hfn, hname, hb]
  simp

theorem copy_ok (G : Nat → Bool) : PrimOk Try.prog G 33 pCopy := by
  intro call _ B μ h w all r h' hh hg hr all' ha
  unfold pCopy at hh
  split at hh
  · rename_i id off
    obtain ⟨a, m, e1, v1, ha⟩ := ha.cons_inv
    obtain rfl := ha.nil_inv
    cases v1 with
    | ptr _ _ loc hl =>
    have e2 : all' = #[.pointer (some ⟨loc.blk, loc.base + off, none⟩)] := by
      apply Array.toList_inj.1; rw [e1]
    subst e2
    split at hh
    · rename_i c e o hgid
      split at hh
      · rename_i hc
        split at hh
        · rename_i hcond
          obtain ⟨hlow, rfl, rfl, hc2, rfl⟩ := hcond
          cases hh
          obtain ⟨C, fr, hb, hcl, ho, hes, hcs, hbs, hvv, hall, hfr0⟩ := hr.rowOwn hl hgid hlow
          have hro := (hr.own id loc hl (by rw [hgid]; simp) hlow).1
          have hfr : ∀ i, ¬ (fr.1 ≤ i ∧ i < fr.2) := hfr0.resolve_left (by rw [hro]; simp)
          have hfl : loc.base = 0 ∧ loc.size = loc.csize := by
            rcases hr.flat hl hgid with q | q | q
            · rw [hro] at q; cases q
            · cases q
            · exact q
          obtain ⟨hb0, hsz⟩ := hfl
          obtain ⟨v', k1, k2⟩ := hvv.get hc
          have k3 : C[0]? = some (.pointer none) := by
            rw [hb0] at k1
            cases k2
            rw [List.getElem?_take] at k1
            split at k1
            · simpa using k1
            · cases k1
          have hw := hr.write (off := 0) hl hgid hlow (vs := [.pointer (some ⟨id, 0, none⟩)]) (vs' := [.pointer (some ⟨loc.blk, loc.base + 0, none⟩)]) (VRs.cons (.ptr id 0 loc hl) (VRs.nil μ)) (by simp; omega) rfl
          obtain ⟨_, w2, w3⟩ := hw
          refine .inr ⟨_, _, w, enterG Try.func33 rfl (by kernel_rfl) _ _, callsIn_wide.2 ?_⟩
          have h0 : w.cell? ⟨loc.blk, 0, none⟩ = some (.pointer none) := by rw [cell_of_row w _ _ C _ fr hb]; exact k3
          have hsh : w.shape? loc.blk = some (64, 2) := by
            simp only [World.shape?, hb]; rw [hcs, ← hsz, ← hcl, hc2]
          have hfz : w.frozen? ⟨loc.blk, 0, none⟩ = false := by
            simp only [World.frozen?, hb]
            have := hfr 0
            simpa using this
          have key := copyCheck_fresh loc.blk w h0 hsh hfz
          rw [hb0] at w2 ⊢
          refine key.mono ?_
          rintro x w' ⟨rfl, rfl⟩
          refine ⟨_, rfl, μ, VR.tuple' (VRs.nil μ), ?_, w3⟩
          exact w2
        · cases hh
      · rename_i id' off' hc
        split at hh
        · rename_i hcond
          obtain ⟨rfl, rfl⟩ := hcond
          cases hh
          obtain ⟨C, e', fr, hb, _, hcl, _, _, hcs, hbs, hvv, _, _⟩ := hr.row hl hgid
          obtain ⟨v', k1, k2⟩ := hvv.get hc
          have hlt : off' < c.length := (List.getElem?_eq_some_iff.1 hc).1
          refine .inr ⟨_, _, w, enterG Try.func33 rfl (by kernel_rfl) _ _, callsIn_wide.2 ?_⟩
          have h0 : w.cell? ⟨loc.blk, loc.base + off', none⟩ = some (.pointer (some ⟨loc.blk, loc.base + off', none⟩)) := by
            cases k2 with
            | ptr _ _ loc2 hl2 =>
            rw [hl] at hl2; cases hl2
            rw [cell_of_row w _ _ C _ fr hb]
            rw [List.getElem?_take] at k1
            split at k1
            · rw [List.getElem?_drop] at k1; simpa using k1
            · cases k1
          refine (copyCheck_used loc.blk (loc.base + off') w h0).mono ?_
          rintro x w' ⟨rfl, rfl⟩
          exact ⟨_, rfl, μ, VR.tuple' (VRs.nil μ), Post.refl hr, Keeps.refl _⟩
        · cases hh
      · cases hh
    · cases hh
  · cases hh

theorem copy_keeps {call : CallV} {all : List Value} {h : AHeap} {r : Value} {h' : AHeap} (hh : pCopy call all h = some (r, h')) : Keeps h h' := by
  unfold pCopy at hh
  split at hh
  · split at hh
    · rename_i hg
      split at hh
      · split at hh
        · rename_i hc
          cases hh
          exact Keeps.ofPut hg hc.1 (fun r e => by cases e)
        · cases hh
      · split at hh
        · cases hh; exact Keeps.refl _
        · cases hh
      · cases hh
    · cases hh
  · cases hh

theorem str_ok (G : Nat → Bool) : PrimOk Try.prog G 25 pStr := by
  intro call _ B μ h w all r h' hh hg hr all' ha
  unfold pStr at hh
  split at hh
  · rename_i id off
    obtain ⟨a, m, e1, v1, ha⟩ := ha.cons_inv
    obtain rfl := ha.nil_inv
    cases v1 with
    | ptr _ _ loc hl =>
    have e2 : all' = #[.pointer (some ⟨loc.blk, loc.base + off, none⟩)] := by
      apply Array.toList_inj.1; rw [e1]
    subst e2
    split at hh
    · rename_i c e o hgid
      split at hh
      · rename_i bid boff n cap hc
        split at hh
        · rename_i bc be bo hgb
          split at hh
          · rename_i hcond
            obtain ⟨hlow, rfl, rfl, hc2, rfl, hlowb, hne, rfl, hfit, hn0, hncap⟩ := hcond
            obtain ⟨l, hbl, hh⟩ := Option.map_eq_some_iff.1 hh
            cases hh
            obtain ⟨C, fr, hb, hcl, ho, hes, hcs, hbs, hvv, hall, hfr0⟩ := hr.rowOwn hl hgid hlow
            have hro := (hr.own id loc hl (by rw [hgid]; simp) hlow).1
            have hfl : loc.base = 0 ∧ loc.size = loc.csize := by
              rcases hr.flat hl hgid with q | q | q
              · rw [hro] at q; cases q
              · cases q
              · exact q
            obtain ⟨hb0, hsz⟩ := hfl
            obtain ⟨v', k1, k2⟩ := hvv.get hc
            cases k2 with
            | slice0 => omega
            | slice _ _ _ _ cap' locb hlb b1 b2 b3 b4 b5 b6 =>
            have h1 : w.cell? ⟨loc.blk, 1, none⟩ = some (.slice (some ⟨locb.blk, locb.base + boff, none⟩) n cap') := by
              rw [cell_of_row w _ _ C _ fr hb]
              rw [List.getElem?_take] at k1
              split at k1
              · rw [hb0] at k1; simpa using k1
              · cases k1
            obtain ⟨BC, bfr, bb, bcl, bo', bes, bcs, bbs, bvv, ball, bfr0⟩ := hr.rowOwn hlb hgb hlowb
            have hrs := (bvv.drop boff).take n
            obtain ⟨hlen, hcells⟩ := bytesL_rel hbl hrs
            have hln : l.length = n := by rw [hlen]; simp; omega
            have hcell : ∀ j x, l[j]? = some x → w.cell? ((⟨locb.blk, locb.base + boff, none⟩ : Addr).add j) = some (.int .u8 x.toNat) := by
              intro j x hj
              rw [Addr_add]
              refine cell_in bb ?_
              have := hcells j x hj
              rw [List.getElem?_take] at this
              split at this
              · rw [List.getElem?_drop, List.getElem?_take] at this
                split at this
                · rw [List.getElem?_drop] at this; rw [← this]; congr 1; omega
                · cases this
              · cases this
            subst hln
            have hlne : l ≠ [] := by intro e; rw [e] at hn0; simp at hn0
            have run := string_run loc.blk locb.blk (locb.base + boff) cap' BC.size l w h1 (by omega) hlne (by simp only [World.shape?, bb]) (by omega) (by omega) hcell
            obtain ⟨q1, q2⟩ := hr.kill hlb hgb hlowb
            refine .inr ⟨_, _, w, enterG Try.func25 rfl (by kernel_rfl) _ _, callsIn_wide.2 ?_⟩
            rw [hb0]
            refine run.mono ?_
            rintro x w' ⟨rfl, rfl⟩
            refine ⟨_, rfl, μ, .string _, ?_, q2⟩
            have hbl0 : l.length ≠ 0 := by omega
            have fz : ∀ b, b ≠ locb.blk → (w.drew.freeze ⟨locb.blk, locb.base + boff, none⟩ l.length).heap[b]? = w.heap[b]? := by
              intro b hbne
              unfold World.freeze
              rw [if_neg hbl0]
              simp only [Array.getElem?_modify]
              rw [if_neg (fun e => hbne e.symm)]; rfl
            have fsz : (w.drew.freeze ⟨locb.blk, locb.base + boff, none⟩ l.length).heap.size = w.heap.size := by
              unfold World.freeze
              rw [if_neg hbl0]
              simp
            have fenv : SameEnv w (w.drew.freeze ⟨locb.blk, locb.base + boff, none⟩ l.length) := by
              unfold World.freeze
              rw [if_neg hbl0]
              exact ⟨rfl, rfl, rfl⟩
            have ownb := hr.own bid locb hlb (by rw [hgb]; simp) hlowb
            refine ⟨q1.le, q1.fresh, ⟨fun i lc a => by rw [fsz]; exact q1.hr.dom i lc a, fun i lc ob a g => ?_, q1.hr.own, q1.hr.low, by rw [fsz]; exact q1.hr.base⟩, by rw [fsz]; exact Nat.le_refl _, fun b hbk hm => ?_, q1.still, fenv⟩
            · obtain ⟨O, o1, o2⟩ := q1.hr.obj i lc ob a g
              refine ⟨O, ?_, o2⟩
              have gi : i ≠ bid := by
                rintro rfl
                rw [h.get_put _ _ (hr.dom i locb hlb).1, if_pos rfl] at g; cases g
              have g' : h.get i = some ob := by rw [h.get_put _ _ (hr.dom bid locb hlb).1, if_neg gi] at g; exact g
              rw [fz _ (ownb.2 i lc a (by rw [g']; simp) gi)]
              exact o1
            · exact fz b (fun e => hm ⟨bid, locb, hlb, by rw [hgb]; simp, hlowb, e.symm⟩)
          · cases hh
        · cases hh
      · cases hh
    · cases hh
  · cases hh

theorem str_keeps {call : CallV} {all : List Value} {h : AHeap} {r : Value} {h' : AHeap} (hh : pStr call all h = some (r, h')) : Keeps h h' := by
  unfold pStr at hh
  split at hh
  · split at hh
    · split at hh
      · split at hh
        · rename_i hgb
          split at hh
          · rename_i hc
            obtain ⟨l, _, hh⟩ := Option.map_eq_some_iff.1 hh
            cases hh
            exact Keeps.ofKill hgb hc.2.2.2.2.2.1
          · cases hh
        · cases hh
      · cases hh
    · cases hh
  · cases hh
theorem idxB_keeps {call : CallV} {all : List Value} {h : AHeap} {r : Value} {h' : AHeap} (hh : pIdxB call all h = some (r, h')) : Keeps h h' := by
  unfold pIdxB at hh
  split at hh
  · cases hh; exact Keeps.refl _
  · cases hh

end Go.AM

namespace Go.Proofs.Ytdimjemgganegaa
open Go.AM

noncomputable def prims : Prims := fun g => if g = 38 then some pIdxB else if g = 33 then some pCopy else if g = 25 then some pStr else none
theorem hp : PMono prims := by
  intro g p e c c' _ all h r hh
  unfold prims at e
  split at e
  · cases e; exact hh
  · split at e
    · cases e; exact hh
    · split at e
      · cases e; exact hh
      · cases e
theorem primsOk : ∀ g p, prims g = some p → PrimOk Try.prog (fun _ => false) g p := by
  intro g p hp
  unfold prims at hp
  split at hp
  · rename_i e; cases hp; subst e; exact idxB_ok _
  · split at hp
    · rename_i e; cases hp; subst e; exact copy_ok _
    · split at hp
      · rename_i e; cases hp; subst e; exact str_ok _
      · cases hp
theorem primsKeep : PrimsKeep prims := by
  intro g p hp call _ all h r h' hl hh
  unfold prims at hp
  split at hp
  · cases hp; exact idxB_keeps hh
  · split at hp
    · cases hp; exact copy_keeps hh
    · split at hp
      · cases hp; exact str_keeps hh
      · cases hp
abbrev W (K : Nat) (args : List Value) (h : AHeap) (Q : VQ) : Prop := CallW Try.prog prims (.func (.func K) #[] #[]) args h Q

end Go.Proofs.Ytdimjemgganegaa

namespace Go.Proofs.Ytdimjemgganegaa
open Go.AM
set_option maxRecDepth 8000
theorem b34_G2 : type_of% (@AM.op_call) := @AM.op_call
theorem b28_G2 : type_of% (@AM.op_call) := @AM.op_call
theorem b31_G2 : type_of% (And.intro (@AM.bin_geq) (And.intro (@AM.op_binOp) (@AM.op_call))) := And.intro (@AM.bin_geq) (And.intro (@AM.op_binOp) (@AM.op_call))
theorem b35_G2 : type_of% (And.intro (@AM.bin_geq) (And.intro (@AM.bin_sub) (And.intro (@AM.op_binOp) (And.intro (@AM.op_len) (And.intro (@AM.op_slice) (And.intro (@AM.slbs_hi_i) (And.intro (@AM.slbs_lh_i) (And.intro (@AM.slbs_lo_i) (And.intro (AM.str_cut ul_9) (And.intro (@AM.str_eql) (AM.str_len ul_9))))))))))) := And.intro (@AM.bin_geq) (And.intro (@AM.bin_sub) (And.intro (@AM.op_binOp) (And.intro (@AM.op_len) (And.intro (@AM.op_slice) (And.intro (@AM.slbs_hi_i) (And.intro (@AM.slbs_lh_i) (And.intro (@AM.slbs_lo_i) (And.intro (AM.str_cut ul_9) (And.intro (@AM.str_eql) (AM.str_len ul_9))))))))))
theorem b29_G2 : type_of% (And.intro (@AM.bin_sub) (And.intro (@AM.op_binOp) (And.intro (@AM.op_call) (And.intro (@AM.op_len) (And.intro (@AM.op_slice) (And.intro (@AM.slbs_hi_i) (And.intro (@AM.slbs_lh_i) (And.intro (@AM.slbs_lo_i) (And.intro (AM.str_cut ul_9) (AM.str_len ul_9)))))))))) := And.intro (@AM.bin_sub) (And.intro (@AM.op_binOp) (And.intro (@AM.op_call) (And.intro (@AM.op_len) (And.intro (@AM.op_slice) (And.intro (@AM.slbs_hi_i) (And.intro (@AM.slbs_lh_i) (And.intro (@AM.slbs_lo_i) (And.intro (AM.str_cut ul_9) (AM.str_len ul_9)))))))))
theorem b18_G2 : type_of% (@AM.op_call) := @AM.op_call
theorem b36_G2 : type_of% (And.intro (@AM.bin_sub) (And.intro (@AM.op_binOp) (And.intro (@AM.op_call) (And.intro (@AM.op_len) (And.intro (@AM.op_slice) (And.intro (@AM.op_unOp) (And.intro (@AM.resL_two) (And.intro (@AM.slbs_hi_i) (And.intro (@AM.slbs_lh_i) (And.intro (@AM.slbs_lo_i) (And.intro (AM.str_cut ul_9) (And.intro (AM.str_len ul_9) (And.intro (@AM.un_neg) (@AM.un_not)))))))))))))) := And.intro (@AM.bin_sub) (And.intro (@AM.op_binOp) (And.intro (@AM.op_call) (And.intro (@AM.op_len) (And.intro (@AM.op_slice) (And.intro (@AM.op_unOp) (And.intro (@AM.resL_two) (And.intro (@AM.slbs_hi_i) (And.intro (@AM.slbs_lh_i) (And.intro (@AM.slbs_lo_i) (And.intro (AM.str_cut ul_9) (And.intro (AM.str_len ul_9) (And.intro (@AM.un_neg) (@AM.un_not)))))))))))))
theorem b30_G2 : type_of% (And.intro (@AM.ex_tuple) (And.intro (@AM.op_call) (And.intro (@AM.op_extract) (@AM.resL_two)))) := And.intro (@AM.ex_tuple) (And.intro (@AM.op_call) (And.intro (@AM.op_extract) (@AM.resL_two)))
theorem b19_G2 : type_of% (And.intro (@AM.bin_add) (And.intro (@AM.bin_eql) (And.intro (@AM.bin_geq) (And.intro (@AM.bin_lss) (And.intro (@AM.ex_tuple) (And.intro (@AM.op_binOp) (And.intro (@AM.op_call) (And.intro (@AM.op_extract) (And.intro (@AM.op_index) (And.intro (@AM.op_len) (And.intro (@AM.op_unOp) (And.intro (AM.str_idx ul_9) (And.intro (AM.str_len ul_9) (And.intro (@AM.un_neg) (@AM.un_not))))))))))))))) := And.intro (@AM.bin_add) (And.intro (@AM.bin_eql) (And.intro (@AM.bin_geq) (And.intro (@AM.bin_lss) (And.intro (@AM.ex_tuple) (And.intro (@AM.op_binOp) (And.intro (@AM.op_call) (And.intro (@AM.op_extract) (And.intro (@AM.op_index) (And.intro (@AM.op_len) (And.intro (@AM.op_unOp) (And.intro (AM.str_idx ul_9) (And.intro (AM.str_len ul_9) (And.intro (@AM.un_neg) (@AM.un_not))))))))))))))


theorem u8_back (c : UInt8) : ((c.toNat : Int).toNat).toUInt8 = c := by simp
theorem idxBS_w (l : List UInt8) (c : UInt8) (h : AHeap) (Q : VQ) (hq : Q (.int .i64 (idxL l c)) h) : W 38 [strV l, .int .u8 c.toNat] h Q := by
  refine AM.callW_prim hp (p := pIdxB) (by unfold prims; rw [if_pos rfl]) ⟨0, ?_⟩ hq
  show some (Value.int .i64 (firstIdx ⟨l.toArray⟩ ((c.toNat : Int).toNat).toUInt8), h) = _
  rw [u8_back, AM.firstIdx_eq]
theorem idxSl_w (l : List UInt8) (c : UInt8) (h : AHeap) (Q : VQ) (hq : Q (.int .i64 (idxL l c)) h) : W 34 [strV l, .int .u8 c.toNat] h Q := by
  refine AM.enter hp (fn := Try.f34) (rs := [.tmp 4]) (nt := 8) (by kernel_rfl) Try.func34 rfl rfl rfl (by kernel_rfl) ?_
  simp (disch := first | omega | (simp only [AM.DB, List.length_set, List.length_map]; done) | (simp only [AM.DB, List.length_set, List.length_map]; omega)) only [AM.RB, Nat.reduceAdd, Nat.reduceMul, Nat.reduceEqDiff, reduceCtorEq, b34_G2]
  refine idxBS_w l c _ _ ?_
  simp (disch := first | omega | (simp only [AM.DB, List.length_set, List.length_map]; done) | (simp only [AM.DB, List.length_set, List.length_map]; omega)) only [AM.RB, Nat.reduceAdd, Nat.reduceMul, Nat.reduceEqDiff, reduceCtorEq, b34_G2]
  exact hq
theorem idx_w (l : List UInt8) (c : UInt8) (h : AHeap) (Q : VQ) (hq : Q (.int .i64 (idxL l c)) h) : W 28 [strV l, .int .u8 c.toNat] h Q := by
  refine AM.enter hp (fn := Try.f28) (rs := [.tmp 4]) (nt := 8) (by kernel_rfl) Try.func28 rfl rfl rfl (by kernel_rfl) ?_
  simp (disch := first | omega | (simp only [AM.DB, List.length_set, List.length_map]; done) | (simp only [AM.DB, List.length_set, List.length_map]; omega)) only [AM.RB, Nat.reduceAdd, Nat.reduceMul, Nat.reduceEqDiff, reduceCtorEq, b28_G2]
  refine idxSl_w l c _ _ ?_
  simp (disch := first | omega | (simp only [AM.DB, List.length_set, List.length_map]; done) | (simp only [AM.DB, List.length_set, List.length_map]; omega)) only [AM.RB, Nat.reduceAdd, Nat.reduceMul, Nat.reduceEqDiff, reduceCtorEq, b28_G2]
  exact hq
/-- Is a byte a cell's? -/
def cellB (c : UInt8) : Bool := c == 35 || c == 46 || c == 60 || c == 62 || c == 94 || c == 118
theorem cellB_all : ∀ n, n < 256 → (decide (0 ≤ idxL [35, 46, 60, 62, 94, 118] (UInt8.ofNat n))) = cellB (UInt8.ofNat n) := by decide +kernel
theorem cellB_idx (c : UInt8) : (decide (0 ≤ idxL [35, 46, 60, 62, 94, 118] c)) = cellB c := by
  have := cellB_all c.toNat (UInt8.toNat_lt c)
  rwa [UInt8.ofNat_toNat] at this
theorem known_w (c : UInt8) (h : AHeap) (Q : VQ) (hq : Q (.bool (cellB c)) h) : W 31 [.int .u8 c.toNat] h Q := by
  refine AM.enter hp (fn := Try.f31) (rs := [.tmp 2]) (nt := 6) (by kernel_rfl) Try.func31 rfl rfl rfl (by kernel_rfl) ?_
  simp (disch := first | omega | (simp only [AM.DB, List.length_set, List.length_map]; done) | (simp only [AM.DB, List.length_set, List.length_map]; omega)) only [AM.RB, Nat.reduceAdd, Nat.reduceMul, Nat.reduceEqDiff, reduceCtorEq, b31_G2]
  refine idx_w [35, 46, 60, 62, 94, 118] c _ _ ?_
  simp (disch := first | omega | (simp only [AM.DB, List.length_set, List.length_map]; done) | (simp only [AM.DB, List.length_set, List.length_map]; omega)) only [AM.RB, Nat.reduceAdd, Nat.reduceMul, Nat.reduceEqDiff, reduceCtorEq, b31_G2]
  rw [cellB_idx]; exact hq

def sufB (l m : List UInt8) : Bool := decide (m.length ≤ l.length) && decide (l.drop (l.length - m.length) = m)
theorem hasSuf_w (l m : List UInt8) (hl : l.length ≤ 4000000000) (h : AHeap) (Q : VQ) (hq : Q (.bool (sufB l m)) h) : W 35 [strV l, strV m] h Q := by
  refine AM.enter hp (fn := Try.f35) (rs := [.tmp 4]) (nt := 21) (by kernel_rfl) Try.func35 rfl rfl rfl (by kernel_rfl) ?_
  by_cases hm : (m.length : Int) ≤ l.length
  · have tn : ((l.length : Int) - (m.length : Int)).toNat = l.length - m.length := by omega
    have tk : (l.drop (l.length - m.length)).take (l.length - (l.length - m.length)) = l.drop (l.length - m.length) := List.take_of_length_le (by simp)
    unfold sufB at hq
    rw [decide_eq_true (show m.length ≤ l.length by omega), Bool.true_and] at hq
    (first | (simp (disch := first | omega | (simp only [AM.DB, List.length_set, List.length_map]; done) | (simp only [AM.DB, List.length_set, List.length_map]; omega)) only [AM.RB, Nat.reduceAdd, Nat.reduceMul, Nat.reduceEqDiff, reduceCtorEq, b35_G2, decide_eq_true hm, AM.wrap_i64, tn, tk]) | skip); (repeat' (first | (refine AM.guard_spl ?_ ?_ <;> (intro hd hp_; simp (disch := first | omega | (simp only [AM.DB, List.length_set, List.length_map]; done) | (simp only [AM.DB, List.length_set, List.length_map]; omega)) only [AM.RB, Nat.reduceAdd, Nat.reduceMul, Nat.reduceEqDiff, reduceCtorEq, b35_G2, hd, decide_eq_true hm, AM.wrap_i64, tn, tk])) | (refine AM.cond_spl ?_ ?_ <;> (intro hd hp_; simp (disch := first | omega | (simp only [AM.DB, List.length_set, List.length_map]; done) | (simp only [AM.DB, List.length_set, List.length_map]; omega)) only [AM.RB, Nat.reduceAdd, Nat.reduceMul, Nat.reduceEqDiff, reduceCtorEq, b35_G2, hd, decide_eq_true hm, AM.wrap_i64, tn, tk])) | (refine AM.guard_b ?_ ?_ <;> (intro hd hp_; simp (disch := first | omega | (simp only [AM.DB, List.length_set, List.length_map]; done) | (simp only [AM.DB, List.length_set, List.length_map]; omega)) only [AM.RB, Nat.reduceAdd, Nat.reduceMul, Nat.reduceEqDiff, reduceCtorEq, b35_G2, hd, decide_eq_true hm, AM.wrap_i64, tn, tk])) | (refine AM.cond_b ?_ ?_ <;> (intro hd hp_; simp (disch := first | omega | (simp only [AM.DB, List.length_set, List.length_map]; done) | (simp only [AM.DB, List.length_set, List.length_map]; omega)) only [AM.RB, Nat.reduceAdd, Nat.reduceMul, Nat.reduceEqDiff, reduceCtorEq, b35_G2, hd, decide_eq_true hm, AM.wrap_i64, tn, tk])) | (refine AM.drawW_fine hp (by kernel_rfl) (by kernel_rfl) ?_; simp (disch := first | omega | (simp only [AM.DB, List.length_set, List.length_map]; done) | (simp only [AM.DB, List.length_set, List.length_map]; omega)) only [AM.RB, Nat.reduceAdd, Nat.reduceMul, Nat.reduceEqDiff, reduceCtorEq, b35_G2, decide_eq_true hm, AM.wrap_i64, tn, tk]) | (refine AM.opW_tied (by kernel_rfl) ?_; simp (disch := first | omega | (simp only [AM.DB, List.length_set, List.length_map]; done) | (simp only [AM.DB, List.length_set, List.length_map]; omega)) only [AM.RB, Nat.reduceAdd, Nat.reduceMul, Nat.reduceEqDiff, reduceCtorEq, b35_G2, decide_eq_true hm, AM.wrap_i64, tn, tk]) | (refine AM.opW_untied (by kernel_rfl) ?_; simp (disch := first | omega | (simp only [AM.DB, List.length_set, List.length_map]; done) | (simp only [AM.DB, List.length_set, List.length_map]; omega)) only [AM.RB, Nat.reduceAdd, Nat.reduceMul, Nat.reduceEqDiff, reduceCtorEq, b35_G2, decide_eq_true hm, AM.wrap_i64, tn, tk]) | (refine AM.build_w ?_; simp (disch := first | omega | (simp only [AM.DB, List.length_set, List.length_map]; done) | (simp only [AM.DB, List.length_set, List.length_map]; omega)) only [AM.RB, Nat.reduceAdd, Nat.reduceMul, Nat.reduceEqDiff, reduceCtorEq, b35_G2, decide_eq_true hm, AM.wrap_i64, tn, tk])))
    exact hq
  · have : sufB l m = false := by unfold sufB; rw [decide_eq_false (by omega)]; rfl
    rw [this] at hq
    (first | (simp (disch := first | omega | (simp only [AM.DB, List.length_set, List.length_map]; done) | (simp only [AM.DB, List.length_set, List.length_map]; omega)) only [AM.RB, Nat.reduceAdd, Nat.reduceMul, Nat.reduceEqDiff, reduceCtorEq, b35_G2, decide_eq_false hm]) | skip); (repeat' (first | (refine AM.guard_spl ?_ ?_ <;> (intro hd hp_; simp (disch := first | omega | (simp only [AM.DB, List.length_set, List.length_map]; done) | (simp only [AM.DB, List.length_set, List.length_map]; omega)) only [AM.RB, Nat.reduceAdd, Nat.reduceMul, Nat.reduceEqDiff, reduceCtorEq, b35_G2, hd, decide_eq_false hm])) | (refine AM.cond_spl ?_ ?_ <;> (intro hd hp_; simp (disch := first | omega | (simp only [AM.DB, List.length_set, List.length_map]; done) | (simp only [AM.DB, List.length_set, List.length_map]; omega)) only [AM.RB, Nat.reduceAdd, Nat.reduceMul, Nat.reduceEqDiff, reduceCtorEq, b35_G2, hd, decide_eq_false hm])) | (refine AM.guard_b ?_ ?_ <;> (intro hd hp_; simp (disch := first | omega | (simp only [AM.DB, List.length_set, List.length_map]; done) | (simp only [AM.DB, List.length_set, List.length_map]; omega)) only [AM.RB, Nat.reduceAdd, Nat.reduceMul, Nat.reduceEqDiff, reduceCtorEq, b35_G2, hd, decide_eq_false hm])) | (refine AM.cond_b ?_ ?_ <;> (intro hd hp_; simp (disch := first | omega | (simp only [AM.DB, List.length_set, List.length_map]; done) | (simp only [AM.DB, List.length_set, List.length_map]; omega)) only [AM.RB, Nat.reduceAdd, Nat.reduceMul, Nat.reduceEqDiff, reduceCtorEq, b35_G2, hd, decide_eq_false hm])) | (refine AM.drawW_fine hp (by kernel_rfl) (by kernel_rfl) ?_; simp (disch := first | omega | (simp only [AM.DB, List.length_set, List.length_map]; done) | (simp only [AM.DB, List.length_set, List.length_map]; omega)) only [AM.RB, Nat.reduceAdd, Nat.reduceMul, Nat.reduceEqDiff, reduceCtorEq, b35_G2, decide_eq_false hm]) | (refine AM.opW_tied (by kernel_rfl) ?_; simp (disch := first | omega | (simp only [AM.DB, List.length_set, List.length_map]; done) | (simp only [AM.DB, List.length_set, List.length_map]; omega)) only [AM.RB, Nat.reduceAdd, Nat.reduceMul, Nat.reduceEqDiff, reduceCtorEq, b35_G2, decide_eq_false hm]) | (refine AM.opW_untied (by kernel_rfl) ?_; simp (disch := first | omega | (simp only [AM.DB, List.length_set, List.length_map]; done) | (simp only [AM.DB, List.length_set, List.length_map]; omega)) only [AM.RB, Nat.reduceAdd, Nat.reduceMul, Nat.reduceEqDiff, reduceCtorEq, b35_G2, decide_eq_false hm]) | (refine AM.build_w ?_; simp (disch := first | omega | (simp only [AM.DB, List.length_set, List.length_map]; done) | (simp only [AM.DB, List.length_set, List.length_map]; omega)) only [AM.RB, Nat.reduceAdd, Nat.reduceMul, Nat.reduceEqDiff, reduceCtorEq, b35_G2, decide_eq_false hm])))
    exact hq
theorem trimSl_w (l m : List UInt8) (hl : l.length ≤ 4000000000) (h : AHeap) (Q : VQ) (hq : Q (strV (if sufB l m = true then l.take (l.length - m.length) else l)) h) : W 29 [strV l, strV m] h Q := by
  refine AM.enter hp (fn := Try.f29) (rs := [.tmp 4]) (nt := 16) (by kernel_rfl) Try.func29 rfl rfl rfl (by kernel_rfl) ?_
  simp (disch := first | omega | (simp only [AM.DB, List.length_set, List.length_map]; done) | (simp only [AM.DB, List.length_set, List.length_map]; omega)) only [AM.RB, Nat.reduceAdd, Nat.reduceMul, Nat.reduceEqDiff, reduceCtorEq, b29_G2]
  refine hasSuf_w l m hl _ _ ?_
  simp (disch := first | omega | (simp only [AM.DB, List.length_set, List.length_map]; done) | (simp only [AM.DB, List.length_set, List.length_map]; omega)) only [AM.RB, Nat.reduceAdd, Nat.reduceMul, Nat.reduceEqDiff, reduceCtorEq, b29_G2]
  refine AM.condV_bool (fun hb => ?_) (fun hb => ?_)
  · have hm : m.length ≤ l.length := by
      unfold sufB at hb; simp only [Bool.and_eq_true, decide_eq_true_eq] at hb; exact hb.1
    have tn : ((l.length : Int) - (m.length : Int)).toNat = l.length - m.length := by omega
    rw [if_pos hb] at hq
    simp (disch := first | omega | (simp only [AM.DB, List.length_set, List.length_map]; done) | (simp only [AM.DB, List.length_set, List.length_map]; omega)) only [AM.RB, Nat.reduceAdd, Nat.reduceMul, Nat.reduceEqDiff, reduceCtorEq, b29_G2, AM.wrap_i64, tn, Nat.sub_zero]
    exact hq
  · rw [if_neg (by rw [hb]; simp)] at hq
    simp (disch := first | omega | (simp only [AM.DB, List.length_set, List.length_map]; done) | (simp only [AM.DB, List.length_set, List.length_map]; omega)) only [AM.RB, Nat.reduceAdd, Nat.reduceMul, Nat.reduceEqDiff, reduceCtorEq, b29_G2]
    exact hq
theorem trim_w (l m : List UInt8) (hl : l.length ≤ 4000000000) (h : AHeap) (Q : VQ) (hq : Q (strV (if sufB l m = true then l.take (l.length - m.length) else l)) h) : W 18 [strV l, strV m] h Q := by
  refine AM.enter hp (fn := Try.f18) (rs := [.tmp 4]) (nt := 8) (by kernel_rfl) Try.func18 rfl rfl rfl (by kernel_rfl) ?_
  simp (disch := first | omega | (simp only [AM.DB, List.length_set, List.length_map]; done) | (simp only [AM.DB, List.length_set, List.length_map]; omega)) only [AM.RB, Nat.reduceAdd, Nat.reduceMul, Nat.reduceEqDiff, reduceCtorEq, b18_G2]
  refine trimSl_w l m hl _ _ ?_
  simp (disch := first | omega | (simp only [AM.DB, List.length_set, List.length_map]; done) | (simp only [AM.DB, List.length_set, List.length_map]; omega)) only [AM.RB, Nat.reduceAdd, Nat.reduceMul, Nat.reduceEqDiff, reduceCtorEq, b18_G2]
  exact hq
theorem cutSl_w (l m : List UInt8) (hl : l.length ≤ 4000000000) (h : AHeap) (Q : VQ) (hq : Q (.tuple #[strV (if sufB l m = true then l.take (l.length - m.length) else l), .bool (sufB l m)]) h) : W 36 [strV l, strV m] h Q := by
  refine AM.enter hp (fn := Try.f36) (rs := [.tmp 4, .tmp 5]) (nt := 18) (by kernel_rfl) Try.func36 rfl rfl rfl (by kernel_rfl) ?_
  simp (disch := first | omega | (simp only [AM.DB, List.length_set, List.length_map]; done) | (simp only [AM.DB, List.length_set, List.length_map]; omega)) only [AM.RB, Nat.reduceAdd, Nat.reduceMul, Nat.reduceEqDiff, reduceCtorEq, b36_G2]
  refine hasSuf_w l m hl _ _ ?_
  simp (disch := first | omega | (simp only [AM.DB, List.length_set, List.length_map]; done) | (simp only [AM.DB, List.length_set, List.length_map]; omega)) only [AM.RB, Nat.reduceAdd, Nat.reduceMul, Nat.reduceEqDiff, reduceCtorEq, b36_G2]
  refine AM.condV_bool (fun hb => ?_) (fun hb => ?_)
  · have hm : m.length ≤ l.length := by
      unfold sufB at hb; simp only [Bool.and_eq_true, decide_eq_true_eq] at hb; exact hb.1
    have tn : ((l.length : Int) - (m.length : Int)).toNat = l.length - m.length := by omega
    rw [if_pos hb, hb] at hq
    simp (disch := first | omega | (simp only [AM.DB, List.length_set, List.length_map]; done) | (simp only [AM.DB, List.length_set, List.length_map]; omega)) only [AM.RB, Nat.reduceAdd, Nat.reduceMul, Nat.reduceEqDiff, reduceCtorEq, b36_G2, AM.wrap_i64, tn, Nat.sub_zero]
    exact hq
  · rw [if_neg (by rw [hb]; simp), hb] at hq
    simp (disch := first | omega | (simp only [AM.DB, List.length_set, List.length_map]; done) | (simp only [AM.DB, List.length_set, List.length_map]; omega)) only [AM.RB, Nat.reduceAdd, Nat.reduceMul, Nat.reduceEqDiff, reduceCtorEq, b36_G2]
    exact hq
theorem cut_w (l m : List UInt8) (hl : l.length ≤ 4000000000) (h : AHeap) (Q : VQ) (hq : Q (.tuple #[strV (if sufB l m = true then l.take (l.length - m.length) else l), .bool (sufB l m)]) h) : W 30 [strV l, strV m] h Q := by
  refine AM.enter hp (fn := Try.f30) (rs := [.tmp 4, .tmp 5]) (nt := 11) (by kernel_rfl) Try.func30 rfl rfl rfl (by kernel_rfl) ?_
  simp (disch := first | omega | (simp only [AM.DB, List.length_set, List.length_map]; done) | (simp only [AM.DB, List.length_set, List.length_map]; omega)) only [AM.RB, Nat.reduceAdd, Nat.reduceMul, Nat.reduceEqDiff, reduceCtorEq, b30_G2]
  refine cutSl_w l m hl _ _ ?_
  simp (disch := first | omega | (simp only [AM.DB, List.length_set, List.length_map]; done) | (simp only [AM.DB, List.length_set, List.length_map]; omega)) only [AM.RB, Nat.reduceAdd, Nat.reduceMul, Nat.reduceEqDiff, reduceCtorEq, b30_G2]
  exact hq

/-! ### A row -/
/-- A line: what stands ahead of its end, whether it has one. -/
def lineT (l : List UInt8) : List UInt8 := if sufB l [10] = true then l.take (l.length - 1) else l
def rowP (t : List UInt8) (cols : Int) : Nat → Nat → Option Nat
  | 0, _ => none
  | k + 1, i => if cellB (t.getD i 0) = false ∨ cols ≤ i then some (i + 1) else rowP t cols k (i + 1)
/-- Where a line goes wrong. -/
def rowE (l : List UInt8) (cols : Int) : Int :=
  match rowP (lineT l) cols (lineT l).length 0 with
  | some i => i
  | none => if sufB l [10] = false ∨ (lineT l).length < cols ∨ (lineT l).length = 0 then (lineT l).length + 1 else 0
theorem row_w (l : List UInt8) (cols : Int) (hl : l.length ≤ 4000000000) (h : AHeap) (Q : VQ) (hq : Q (.int .i64 (rowE l cols)) h) : W 19 [strV l, .int .i64 cols] h Q := by
  have hlt : (lineT l).length ≤ l.length := by unfold lineT; split <;> simp
  refine AM.enter hp (fn := Try.f19) (rs := [.tmp 4]) (nt := 47) (by kernel_rfl) Try.func19 rfl rfl rfl (by kernel_rfl) ?_
  simp (disch := first | omega | (simp only [AM.DB, List.length_set, List.length_map]; done) | (simp only [AM.DB, List.length_set, List.length_map]; omega)) only [AM.RB, Nat.reduceAdd, Nat.reduceMul, Nat.reduceEqDiff, reduceCtorEq, b19_G2]
  refine cut_w l [10] hl _ _ ?_
  have e : (if sufB l [10] = true then l.take (l.length - [(10 : UInt8)].length) else l) = lineT l := rfl
  rw [e]
  generalize hT : lineT l = t at *
  generalize hS : sufB l [10] = sb at *
  simp (disch := first | omega | (simp only [AM.DB, List.length_set, List.length_map]; done) | (simp only [AM.DB, List.length_set, List.length_map]; omega)) only [AM.RB, Nat.reduceAdd, Nat.reduceMul, Nat.reduceEqDiff, reduceCtorEq, b19_G2]
  refine AM.loop_w hp 47 (fun i : Nat => [(1, .int .i64 cols), (5, strV t), (6, .bool sb), (14, .int .i64 t.length), (15, .int .i64 i)])
    (fun i h' => i ≤ t.length ∧ h' = h ∧ rowP t cols (t.length - i) i = rowP t cols t.length 0) (fun i => t.length - i) (by kernel_rfl) 0 ?_ ?_ ?_
  · simp (disch := first | omega | (simp only [AM.DB, List.length_set, List.length_map]; done) | (simp only [AM.DB, List.length_set, List.length_map]; omega)) only [AM.RB, Nat.reduceAdd, Nat.reduceMul, Nat.reduceEqDiff, reduceCtorEq, b19_G2]
  · exact ⟨Nat.zero_le _, rfl, rfl⟩
  rintro i h1 ρ ⟨hi, rfl, hpf⟩
  simp (disch := first | omega | (simp only [AM.DB, List.length_set, List.length_map]; done) | (simp only [AM.DB, List.length_set, List.length_map]; omega)) only [AM.RB, Nat.reduceAdd, Nat.reduceMul, Nat.reduceEqDiff, reduceCtorEq, b19_G2]
  refine AM.condV_split (fun hlt => ?_) (fun hlt => ?_)
  · obtain ⟨k, hk⟩ : ∃ k, t.length - i = k + 1 := ⟨t.length - i - 1, by omega⟩
    rw [hk, rowP] at hpf
    simp (disch := first | omega | (simp only [AM.DB, List.length_set, List.length_map]; done) | (simp only [AM.DB, List.length_set, List.length_map]; omega)) only [AM.RB, Nat.reduceAdd, Nat.reduceMul, Nat.reduceEqDiff, reduceCtorEq, b19_G2, Int.toNat_natCast]
    refine known_w _ _ _ ?_
    (first | (simp (disch := first | omega | (simp only [AM.DB, List.length_set, List.length_map]; done) | (simp only [AM.DB, List.length_set, List.length_map]; omega)) only [AM.RB, Nat.reduceAdd, Nat.reduceMul, Nat.reduceEqDiff, reduceCtorEq, b19_G2, AM.wrap_i64]) | skip); (repeat' (first | (refine AM.guard_spl ?_ ?_ <;> (intro hd hp_; simp (disch := first | omega | (simp only [AM.DB, List.length_set, List.length_map]; done) | (simp only [AM.DB, List.length_set, List.length_map]; omega)) only [AM.RB, Nat.reduceAdd, Nat.reduceMul, Nat.reduceEqDiff, reduceCtorEq, b19_G2, hd, AM.wrap_i64])) | (refine AM.cond_spl ?_ ?_ <;> (intro hd hp_; simp (disch := first | omega | (simp only [AM.DB, List.length_set, List.length_map]; done) | (simp only [AM.DB, List.length_set, List.length_map]; omega)) only [AM.RB, Nat.reduceAdd, Nat.reduceMul, Nat.reduceEqDiff, reduceCtorEq, b19_G2, hd, AM.wrap_i64])) | (refine AM.guard_b ?_ ?_ <;> (intro hd hp_; simp (disch := first | omega | (simp only [AM.DB, List.length_set, List.length_map]; done) | (simp only [AM.DB, List.length_set, List.length_map]; omega)) only [AM.RB, Nat.reduceAdd, Nat.reduceMul, Nat.reduceEqDiff, reduceCtorEq, b19_G2, hd, AM.wrap_i64])) | (refine AM.cond_b ?_ ?_ <;> (intro hd hp_; simp (disch := first | omega | (simp only [AM.DB, List.length_set, List.length_map]; done) | (simp only [AM.DB, List.length_set, List.length_map]; omega)) only [AM.RB, Nat.reduceAdd, Nat.reduceMul, Nat.reduceEqDiff, reduceCtorEq, b19_G2, hd, AM.wrap_i64])) | (refine AM.drawW_fine hp (by kernel_rfl) (by kernel_rfl) ?_; simp (disch := first | omega | (simp only [AM.DB, List.length_set, List.length_map]; done) | (simp only [AM.DB, List.length_set, List.length_map]; omega)) only [AM.RB, Nat.reduceAdd, Nat.reduceMul, Nat.reduceEqDiff, reduceCtorEq, b19_G2, AM.wrap_i64]) | (refine AM.opW_tied (by kernel_rfl) ?_; simp (disch := first | omega | (simp only [AM.DB, List.length_set, List.length_map]; done) | (simp only [AM.DB, List.length_set, List.length_map]; omega)) only [AM.RB, Nat.reduceAdd, Nat.reduceMul, Nat.reduceEqDiff, reduceCtorEq, b19_G2, AM.wrap_i64]) | (refine AM.opW_untied (by kernel_rfl) ?_; simp (disch := first | omega | (simp only [AM.DB, List.length_set, List.length_map]; done) | (simp only [AM.DB, List.length_set, List.length_map]; omega)) only [AM.RB, Nat.reduceAdd, Nat.reduceMul, Nat.reduceEqDiff, reduceCtorEq, b19_G2, AM.wrap_i64]) | (refine AM.build_w ?_; simp (disch := first | omega | (simp only [AM.DB, List.length_set, List.length_map]; done) | (simp only [AM.DB, List.length_set, List.length_map]; omega)) only [AM.RB, Nat.reduceAdd, Nat.reduceMul, Nat.reduceEqDiff, reduceCtorEq, b19_G2, AM.wrap_i64])))
    · have er : rowE l cols = (i : Int) + 1 := by unfold rowE; rw [hT, ← hpf, if_pos (.inr hp_)]; rfl
      rw [er] at hq; exact hq
    · refine ⟨i + 1, by omega, rfl, by omega, ?_⟩
      rw [show t.length - (i + 1) = k by omega, ← hpf, if_neg]
      rintro (q | q)
      · simp_all
      · omega
    · have er : rowE l cols = (i : Int) + 1 := by unfold rowE; rw [hT, ← hpf, if_pos (.inl hp_)]; rfl
      rw [er] at hq; exact hq
  · obtain rfl : i = t.length := by omega
    rw [Nat.sub_self, rowP] at hpf
    have er : rowE l cols = if sb = false ∨ t.length < cols ∨ t.length = 0 then (t.length : Int) + 1 else 0 := by
      unfold rowE; rw [hT, ← hpf, hS]
    rw [er] at hq
    cases sb with
    | false =>
      rw [if_pos (.inl rfl)] at hq
      (first | (simp (disch := first | omega | (simp only [AM.DB, List.length_set, List.length_map]; done) | (simp only [AM.DB, List.length_set, List.length_map]; omega)) only [AM.RB, Nat.reduceAdd, Nat.reduceMul, Nat.reduceEqDiff, reduceCtorEq, b19_G2, AM.wrap_i64]) | skip); (repeat' (first | (refine AM.guard_spl ?_ ?_ <;> (intro hd hp_; simp (disch := first | omega | (simp only [AM.DB, List.length_set, List.length_map]; done) | (simp only [AM.DB, List.length_set, List.length_map]; omega)) only [AM.RB, Nat.reduceAdd, Nat.reduceMul, Nat.reduceEqDiff, reduceCtorEq, b19_G2, hd, AM.wrap_i64])) | (refine AM.cond_spl ?_ ?_ <;> (intro hd hp_; simp (disch := first | omega | (simp only [AM.DB, List.length_set, List.length_map]; done) | (simp only [AM.DB, List.length_set, List.length_map]; omega)) only [AM.RB, Nat.reduceAdd, Nat.reduceMul, Nat.reduceEqDiff, reduceCtorEq, b19_G2, hd, AM.wrap_i64])) | (refine AM.guard_b ?_ ?_ <;> (intro hd hp_; simp (disch := first | omega | (simp only [AM.DB, List.length_set, List.length_map]; done) | (simp only [AM.DB, List.length_set, List.length_map]; omega)) only [AM.RB, Nat.reduceAdd, Nat.reduceMul, Nat.reduceEqDiff, reduceCtorEq, b19_G2, hd, AM.wrap_i64])) | (refine AM.cond_b ?_ ?_ <;> (intro hd hp_; simp (disch := first | omega | (simp only [AM.DB, List.length_set, List.length_map]; done) | (simp only [AM.DB, List.length_set, List.length_map]; omega)) only [AM.RB, Nat.reduceAdd, Nat.reduceMul, Nat.reduceEqDiff, reduceCtorEq, b19_G2, hd, AM.wrap_i64])) | (refine AM.drawW_fine hp (by kernel_rfl) (by kernel_rfl) ?_; simp (disch := first | omega | (simp only [AM.DB, List.length_set, List.length_map]; done) | (simp only [AM.DB, List.length_set, List.length_map]; omega)) only [AM.RB, Nat.reduceAdd, Nat.reduceMul, Nat.reduceEqDiff, reduceCtorEq, b19_G2, AM.wrap_i64]) | (refine AM.opW_tied (by kernel_rfl) ?_; simp (disch := first | omega | (simp only [AM.DB, List.length_set, List.length_map]; done) | (simp only [AM.DB, List.length_set, List.length_map]; omega)) only [AM.RB, Nat.reduceAdd, Nat.reduceMul, Nat.reduceEqDiff, reduceCtorEq, b19_G2, AM.wrap_i64]) | (refine AM.opW_untied (by kernel_rfl) ?_; simp (disch := first | omega | (simp only [AM.DB, List.length_set, List.length_map]; done) | (simp only [AM.DB, List.length_set, List.length_map]; omega)) only [AM.RB, Nat.reduceAdd, Nat.reduceMul, Nat.reduceEqDiff, reduceCtorEq, b19_G2, AM.wrap_i64]) | (refine AM.build_w ?_; simp (disch := first | omega | (simp only [AM.DB, List.length_set, List.length_map]; done) | (simp only [AM.DB, List.length_set, List.length_map]; omega)) only [AM.RB, Nat.reduceAdd, Nat.reduceMul, Nat.reduceEqDiff, reduceCtorEq, b19_G2, AM.wrap_i64])))
      exact hq
    | true =>
      by_cases hc : (t.length : Int) < cols
      · rw [if_pos (.inr (.inl hc))] at hq
        (first | (simp (disch := first | omega | (simp only [AM.DB, List.length_set, List.length_map]; done) | (simp only [AM.DB, List.length_set, List.length_map]; omega)) only [AM.RB, Nat.reduceAdd, Nat.reduceMul, Nat.reduceEqDiff, reduceCtorEq, b19_G2, AM.wrap_i64, decide_eq_true hc]) | skip); (repeat' (first | (refine AM.guard_spl ?_ ?_ <;> (intro hd hp_; simp (disch := first | omega | (simp only [AM.DB, List.length_set, List.length_map]; done) | (simp only [AM.DB, List.length_set, List.length_map]; omega)) only [AM.RB, Nat.reduceAdd, Nat.reduceMul, Nat.reduceEqDiff, reduceCtorEq, b19_G2, hd, AM.wrap_i64, decide_eq_true hc])) | (refine AM.cond_spl ?_ ?_ <;> (intro hd hp_; simp (disch := first | omega | (simp only [AM.DB, List.length_set, List.length_map]; done) | (simp only [AM.DB, List.length_set, List.length_map]; omega)) only [AM.RB, Nat.reduceAdd, Nat.reduceMul, Nat.reduceEqDiff, reduceCtorEq, b19_G2, hd, AM.wrap_i64, decide_eq_true hc])) | (refine AM.guard_b ?_ ?_ <;> (intro hd hp_; simp (disch := first | omega | (simp only [AM.DB, List.length_set, List.length_map]; done) | (simp only [AM.DB, List.length_set, List.length_map]; omega)) only [AM.RB, Nat.reduceAdd, Nat.reduceMul, Nat.reduceEqDiff, reduceCtorEq, b19_G2, hd, AM.wrap_i64, decide_eq_true hc])) | (refine AM.cond_b ?_ ?_ <;> (intro hd hp_; simp (disch := first | omega | (simp only [AM.DB, List.length_set, List.length_map]; done) | (simp only [AM.DB, List.length_set, List.length_map]; omega)) only [AM.RB, Nat.reduceAdd, Nat.reduceMul, Nat.reduceEqDiff, reduceCtorEq, b19_G2, hd, AM.wrap_i64, decide_eq_true hc])) | (refine AM.drawW_fine hp (by kernel_rfl) (by kernel_rfl) ?_; simp (disch := first | omega | (simp only [AM.DB, List.length_set, List.length_map]; done) | (simp only [AM.DB, List.length_set, List.length_map]; omega)) only [AM.RB, Nat.reduceAdd, Nat.reduceMul, Nat.reduceEqDiff, reduceCtorEq, b19_G2, AM.wrap_i64, decide_eq_true hc]) | (refine AM.opW_tied (by kernel_rfl) ?_; simp (disch := first | omega | (simp only [AM.DB, List.length_set, List.length_map]; done) | (simp only [AM.DB, List.length_set, List.length_map]; omega)) only [AM.RB, Nat.reduceAdd, Nat.reduceMul, Nat.reduceEqDiff, reduceCtorEq, b19_G2, AM.wrap_i64, decide_eq_true hc]) | (refine AM.opW_untied (by kernel_rfl) ?_; simp (disch := first | omega | (simp only [AM.DB, List.length_set, List.length_map]; done) | (simp only [AM.DB, List.length_set, List.length_map]; omega)) only [AM.RB, Nat.reduceAdd, Nat.reduceMul, Nat.reduceEqDiff, reduceCtorEq, b19_G2, AM.wrap_i64, decide_eq_true hc]) | (refine AM.build_w ?_; simp (disch := first | omega | (simp only [AM.DB, List.length_set, List.length_map]; done) | (simp only [AM.DB, List.length_set, List.length_map]; omega)) only [AM.RB, Nat.reduceAdd, Nat.reduceMul, Nat.reduceEqDiff, reduceCtorEq, b19_G2, AM.wrap_i64, decide_eq_true hc])))
        exact hq
      · by_cases h0 : (t.length : Int) = 0
        · rw [if_pos (.inr (.inr (by omega)))] at hq
          (first | (simp (disch := first | omega | (simp only [AM.DB, List.length_set, List.length_map]; done) | (simp only [AM.DB, List.length_set, List.length_map]; omega)) only [AM.RB, Nat.reduceAdd, Nat.reduceMul, Nat.reduceEqDiff, reduceCtorEq, b19_G2, AM.wrap_i64, decide_eq_false hc, decide_eq_true h0]) | skip); (repeat' (first | (refine AM.guard_spl ?_ ?_ <;> (intro hd hp_; simp (disch := first | omega | (simp only [AM.DB, List.length_set, List.length_map]; done) | (simp only [AM.DB, List.length_set, List.length_map]; omega)) only [AM.RB, Nat.reduceAdd, Nat.reduceMul, Nat.reduceEqDiff, reduceCtorEq, b19_G2, hd, AM.wrap_i64, decide_eq_false hc, decide_eq_true h0])) | (refine AM.cond_spl ?_ ?_ <;> (intro hd hp_; simp (disch := first | omega | (simp only [AM.DB, List.length_set, List.length_map]; done) | (simp only [AM.DB, List.length_set, List.length_map]; omega)) only [AM.RB, Nat.reduceAdd, Nat.reduceMul, Nat.reduceEqDiff, reduceCtorEq, b19_G2, hd, AM.wrap_i64, decide_eq_false hc, decide_eq_true h0])) | (refine AM.guard_b ?_ ?_ <;> (intro hd hp_; simp (disch := first | omega | (simp only [AM.DB, List.length_set, List.length_map]; done) | (simp only [AM.DB, List.length_set, List.length_map]; omega)) only [AM.RB, Nat.reduceAdd, Nat.reduceMul, Nat.reduceEqDiff, reduceCtorEq, b19_G2, hd, AM.wrap_i64, decide_eq_false hc, decide_eq_true h0])) | (refine AM.cond_b ?_ ?_ <;> (intro hd hp_; simp (disch := first | omega | (simp only [AM.DB, List.length_set, List.length_map]; done) | (simp only [AM.DB, List.length_set, List.length_map]; omega)) only [AM.RB, Nat.reduceAdd, Nat.reduceMul, Nat.reduceEqDiff, reduceCtorEq, b19_G2, hd, AM.wrap_i64, decide_eq_false hc, decide_eq_true h0])) | (refine AM.drawW_fine hp (by kernel_rfl) (by kernel_rfl) ?_; simp (disch := first | omega | (simp only [AM.DB, List.length_set, List.length_map]; done) | (simp only [AM.DB, List.length_set, List.length_map]; omega)) only [AM.RB, Nat.reduceAdd, Nat.reduceMul, Nat.reduceEqDiff, reduceCtorEq, b19_G2, AM.wrap_i64, decide_eq_false hc, decide_eq_true h0]) | (refine AM.opW_tied (by kernel_rfl) ?_; simp (disch := first | omega | (simp only [AM.DB, List.length_set, List.length_map]; done) | (simp only [AM.DB, List.length_set, List.length_map]; omega)) only [AM.RB, Nat.reduceAdd, Nat.reduceMul, Nat.reduceEqDiff, reduceCtorEq, b19_G2, AM.wrap_i64, decide_eq_false hc, decide_eq_true h0]) | (refine AM.opW_untied (by kernel_rfl) ?_; simp (disch := first | omega | (simp only [AM.DB, List.length_set, List.length_map]; done) | (simp only [AM.DB, List.length_set, List.length_map]; omega)) only [AM.RB, Nat.reduceAdd, Nat.reduceMul, Nat.reduceEqDiff, reduceCtorEq, b19_G2, AM.wrap_i64, decide_eq_false hc, decide_eq_true h0]) | (refine AM.build_w ?_; simp (disch := first | omega | (simp only [AM.DB, List.length_set, List.length_map]; done) | (simp only [AM.DB, List.length_set, List.length_map]; omega)) only [AM.RB, Nat.reduceAdd, Nat.reduceMul, Nat.reduceEqDiff, reduceCtorEq, b19_G2, AM.wrap_i64, decide_eq_false hc, decide_eq_true h0])))
          exact hq
        · rw [if_neg (fun q => q.elim (fun q => by cases q) (fun q => q.elim hc (fun q => h0 (by omega))))] at hq
          (first | (simp (disch := first | omega | (simp only [AM.DB, List.length_set, List.length_map]; done) | (simp only [AM.DB, List.length_set, List.length_map]; omega)) only [AM.RB, Nat.reduceAdd, Nat.reduceMul, Nat.reduceEqDiff, reduceCtorEq, b19_G2, AM.wrap_i64, decide_eq_false hc, decide_eq_false h0]) | skip); (repeat' (first | (refine AM.guard_spl ?_ ?_ <;> (intro hd hp_; simp (disch := first | omega | (simp only [AM.DB, List.length_set, List.length_map]; done) | (simp only [AM.DB, List.length_set, List.length_map]; omega)) only [AM.RB, Nat.reduceAdd, Nat.reduceMul, Nat.reduceEqDiff, reduceCtorEq, b19_G2, hd, AM.wrap_i64, decide_eq_false hc, decide_eq_false h0])) | (refine AM.cond_spl ?_ ?_ <;> (intro hd hp_; simp (disch := first | omega | (simp only [AM.DB, List.length_set, List.length_map]; done) | (simp only [AM.DB, List.length_set, List.length_map]; omega)) only [AM.RB, Nat.reduceAdd, Nat.reduceMul, Nat.reduceEqDiff, reduceCtorEq, b19_G2, hd, AM.wrap_i64, decide_eq_false hc, decide_eq_false h0])) | (refine AM.guard_b ?_ ?_ <;> (intro hd hp_; simp (disch := first | omega | (simp only [AM.DB, List.length_set, List.length_map]; done) | (simp only [AM.DB, List.length_set, List.length_map]; omega)) only [AM.RB, Nat.reduceAdd, Nat.reduceMul, Nat.reduceEqDiff, reduceCtorEq, b19_G2, hd, AM.wrap_i64, decide_eq_false hc, decide_eq_false h0])) | (refine AM.cond_b ?_ ?_ <;> (intro hd hp_; simp (disch := first | omega | (simp only [AM.DB, List.length_set, List.length_map]; done) | (simp only [AM.DB, List.length_set, List.length_map]; omega)) only [AM.RB, Nat.reduceAdd, Nat.reduceMul, Nat.reduceEqDiff, reduceCtorEq, b19_G2, hd, AM.wrap_i64, decide_eq_false hc, decide_eq_false h0])) | (refine AM.drawW_fine hp (by kernel_rfl) (by kernel_rfl) ?_; simp (disch := first | omega | (simp only [AM.DB, List.length_set, List.length_map]; done) | (simp only [AM.DB, List.length_set, List.length_map]; omega)) only [AM.RB, Nat.reduceAdd, Nat.reduceMul, Nat.reduceEqDiff, reduceCtorEq, b19_G2, AM.wrap_i64, decide_eq_false hc, decide_eq_false h0]) | (refine AM.opW_tied (by kernel_rfl) ?_; simp (disch := first | omega | (simp only [AM.DB, List.length_set, List.length_map]; done) | (simp only [AM.DB, List.length_set, List.length_map]; omega)) only [AM.RB, Nat.reduceAdd, Nat.reduceMul, Nat.reduceEqDiff, reduceCtorEq, b19_G2, AM.wrap_i64, decide_eq_false hc, decide_eq_false h0]) | (refine AM.opW_untied (by kernel_rfl) ?_; simp (disch := first | omega | (simp only [AM.DB, List.length_set, List.length_map]; done) | (simp only [AM.DB, List.length_set, List.length_map]; omega)) only [AM.RB, Nat.reduceAdd, Nat.reduceMul, Nat.reduceEqDiff, reduceCtorEq, b19_G2, AM.wrap_i64, decide_eq_false hc, decide_eq_false h0]) | (refine AM.build_w ?_; simp (disch := first | omega | (simp only [AM.DB, List.length_set, List.length_map]; done) | (simp only [AM.DB, List.length_set, List.length_map]; omega)) only [AM.RB, Nat.reduceAdd, Nat.reduceMul, Nat.reduceEqDiff, reduceCtorEq, b19_G2, AM.wrap_i64, decide_eq_false hc, decide_eq_false h0])))
          exact hq

end Go.Proofs.Ytdimjemgganegaa

namespace Go.Proofs.Ytdimjemgganegaa
open Go.AM
set_option maxRecDepth 8000
theorem b27_G3 : type_of% (And.intro (@AM.bin_add) (And.intro (@AM.bin_geq) (And.intro (@AM.bin_gtr) (And.intro (@AM.ldO_agg) (And.intro (@AM.ldO_one) (And.intro (@AM.ld_ptr) (And.intro (@lk_9) (And.intro (@AM.op_binOp) (And.intro (@AM.op_call) (And.intro (@AM.op_len) (And.intro (@AM.op_load) (And.intro (@AM.op_slice) (And.intro (@AM.op_store) (And.intro (@AM.op_unOp) (And.intro (@AM.slbs_hi_i) (And.intro (@AM.slbs_lh_i) (And.intro (@AM.slbs_lo_i) (And.intro (@AM.stO_agg) (And.intro (@AM.stO_bool) (And.intro (@AM.stO_int) (And.intro (@AM.stO_map) (And.intro (@AM.stO_pointer) (And.intro (@AM.stO_slice) (And.intro (@AM.stO_string) (And.intro (@AM.st_ptr) (And.intro (AM.str_cut ul_9) (And.intro (AM.str_len ul_9) (And.intro (@sz_9) (And.intro (@AM.un_neg) (@AM.un_not)))))))))))))))))))))))))))))) := And.intro (@AM.bin_add) (And.intro (@AM.bin_geq) (And.intro (@AM.bin_gtr) (And.intro (@AM.ldO_agg) (And.intro (@AM.ldO_one) (And.intro (@AM.ld_ptr) (And.intro (@lk_9) (And.intro (@AM.op_binOp) (And.intro (@AM.op_call) (And.intro (@AM.op_len) (And.intro (@AM.op_load) (And.intro (@AM.op_slice) (And.intro (@AM.op_store) (And.intro (@AM.op_unOp) (And.intro (@AM.slbs_hi_i) (And.intro (@AM.slbs_lh_i) (And.intro (@AM.slbs_lo_i) (And.intro (@AM.stO_agg) (And.intro (@AM.stO_bool) (And.intro (@AM.stO_int) (And.intro (@AM.stO_map) (And.intro (@AM.stO_pointer) (And.intro (@AM.stO_slice) (And.intro (@AM.stO_string) (And.intro (@AM.st_ptr) (And.intro (AM.str_cut ul_9) (And.intro (AM.str_len ul_9) (And.intro (@sz_9) (And.intro (@AM.un_neg) (@AM.un_not)))))))))))))))))))))))))))))


/-! ### Lines -/
def linesL : Nat → List UInt8 → List (List UInt8)
  | 0, _ => []
  | n + 1, l => if l = [] then [] else match l.findIdx? (· == 10) with
    | some i => l.take (i + 1) :: linesL n (l.drop (i + 1))
    | none => [l]
theorem linesL_eq : ∀ (n m : Nat) (l : List UInt8), l.length ≤ n → l.length ≤ m → linesL n l = linesL m l
  | n, m, [], _, _ => by
    cases n <;> cases m <;> simp [linesL]
  | 0, _, x :: r, h, _ => by simp at h
  | _, 0, x :: r, _, h => by simp at h
  | n + 1, m + 1, x :: r, hn, hm => by
    rw [linesL, linesL, if_neg (by simp), if_neg (by simp)]
    cases hf : (x :: r).findIdx? (· == 10) with
    | none => rfl
    | some i =>
      simp only
      congr 1
      have h1 : ((x :: r).drop (i + 1)).length ≤ r.length := by simp
      simp only [List.length_cons] at hn hm
      exact linesL_eq n m _ (by omega) (by omega)
theorem lines1_w {w1 : Nat} {l : List UInt8} {h : AHeap} (g1 : h.get w1 = some (.cells [strV l] 9 false)) (hl : l.length ≤ 4000000000) (hlow : h.low ≤ w1) :
    IterOkW Try.prog prims (.func (.func 27) #[] #[.pointer (some ⟨w1, 0, none⟩)]) (fun _ => False) (fun id => id = w1) ((linesL l.length l).map fun x => [strV x]) h := by
  intro y J E h0 hnx hR hlow0 hJ hE hy hJ0
  have g1' : h0.get w1 = some (.cells [strV l] 9 false) := by rw [hR w1 (AM.get_some_lt g1) (.inr rfl)]; exact g1
  refine AM.enter hp (fn := Try.f27) (rs := []) (nt := 25) (by kernel_rfl) Try.func27 rfl rfl rfl (by kernel_rfl) ?_
  simp (disch := first | omega | (simp only [AM.DB, List.length_set, List.length_map]; done) | (simp only [AM.DB, List.length_set, List.length_map]; omega)) only [AM.RB, Nat.reduceAdd, Nat.reduceMul, Nat.reduceEqDiff, reduceCtorEq, b27_G3]
  refine AM.loop_w hp 25 (fun q : Nat × List UInt8 => [(0, y), (1, .pointer (some ⟨w1, 0, none⟩))])
    (fun q h' => h'.get w1 = some (.cells [strV q.2] 9 false) ∧ q.2.length ≤ l.length ∧ h0.next ≤ h'.next ∧ h'.low = h0.low ∧ J q.1 (fun id => id = w1) h' ∧ (linesL l.length l).drop q.1 = linesL q.2.length q.2 ∧ q.1 ≤ (linesL l.length l).length)
    (fun q => q.2.length) (by kernel_rfl) (0, l) ?_ ?_ ?_
  · simp (disch := first | omega | (simp only [AM.DB, List.length_set, List.length_map]; done) | (simp only [AM.DB, List.length_set, List.length_map]; omega)) only [AM.RB, Nat.reduceAdd, Nat.reduceMul, Nat.reduceEqDiff, reduceCtorEq, b27_G3]
  · exact ⟨g1', Nat.le_refl _, Nat.le_refl _, rfl, hJ0, rfl, Nat.zero_le _⟩
  rintro ⟨i, r⟩ h1 ρ ⟨g2, hrl, hn1, hlo1, hJi, hdrop, hil⟩
  simp only at g2 hrl hJi hdrop hil ⊢
  have lt1 := AM.get_some_lt g2
  have lt0 := AM.get_some_lt g1'
  have hlw : h1.low ≤ w1 := by omega
  simp (disch := first | omega | (simp only [AM.DB, List.length_set, List.length_map]; done) | (simp only [AM.DB, List.length_set, List.length_map]; omega)) only [AM.RB, Nat.reduceAdd, Nat.reduceMul, Nat.reduceEqDiff, reduceCtorEq, b27_G3, g2]
  refine AM.condV_split (fun hlt => ?_) (fun hlt => ?_)
  · obtain ⟨k, hk⟩ : ∃ k, r.length = k + 1 := ⟨r.length - 1, by omega⟩
    have hr0 : r ≠ [] := by intro e; rw [e] at hk; simp at hk
    rw [hk, linesL, if_neg hr0] at hdrop
    simp (disch := first | omega | (simp only [AM.DB, List.length_set, List.length_map]; done) | (simp only [AM.DB, List.length_set, List.length_map]; omega)) only [AM.RB, Nat.reduceAdd, Nat.reduceMul, Nat.reduceEqDiff, reduceCtorEq, b27_G3, g2]
    refine idx_w r 10 _ _ ?_
    cases hf : r.findIdx? (· == 10) with
    | some j =>
      rw [hf] at hdrop
      have hj : j < r.length := (List.findIdx?_eq_some_iff_getElem.1 hf).1
      have hix : idxL r 10 = j := by unfold idxL; rw [hf]
      have tj : ((j : Int) + 1).toNat = j + 1 := by omega
      rw [hix]
      have hd0 := decide_eq_true (show (0 : Int) ≤ (j : Int) by omega)
      have tk : (r.drop (j + 1)).take (r.length - (j + 1)) = r.drop (j + 1) := List.take_of_length_le (by simp)
      simp only at hdrop
      (first | (simp (disch := first | omega | (simp only [AM.DB, List.length_set, List.length_map]; done) | (simp only [AM.DB, List.length_set, List.length_map]; omega)) only [AM.RB, Nat.reduceAdd, Nat.reduceMul, Nat.reduceEqDiff, reduceCtorEq, b27_G3, g2, AM.wrap_i64, tj, hd0, tk, Nat.sub_zero]) | skip); (repeat' (first | (refine AM.guard_spl ?_ ?_ <;> (intro hd hp_; simp (disch := first | omega | (simp only [AM.DB, List.length_set, List.length_map]; done) | (simp only [AM.DB, List.length_set, List.length_map]; omega)) only [AM.RB, Nat.reduceAdd, Nat.reduceMul, Nat.reduceEqDiff, reduceCtorEq, b27_G3, hd, g2, AM.wrap_i64, tj, hd0, tk, Nat.sub_zero])) | (refine AM.cond_spl ?_ ?_ <;> (intro hd hp_; simp (disch := first | omega | (simp only [AM.DB, List.length_set, List.length_map]; done) | (simp only [AM.DB, List.length_set, List.length_map]; omega)) only [AM.RB, Nat.reduceAdd, Nat.reduceMul, Nat.reduceEqDiff, reduceCtorEq, b27_G3, hd, g2, AM.wrap_i64, tj, hd0, tk, Nat.sub_zero])) | (refine AM.guard_b ?_ ?_ <;> (intro hd hp_; simp (disch := first | omega | (simp only [AM.DB, List.length_set, List.length_map]; done) | (simp only [AM.DB, List.length_set, List.length_map]; omega)) only [AM.RB, Nat.reduceAdd, Nat.reduceMul, Nat.reduceEqDiff, reduceCtorEq, b27_G3, hd, g2, AM.wrap_i64, tj, hd0, tk, Nat.sub_zero])) | (refine AM.cond_b ?_ ?_ <;> (intro hd hp_; simp (disch := first | omega | (simp only [AM.DB, List.length_set, List.length_map]; done) | (simp only [AM.DB, List.length_set, List.length_map]; omega)) only [AM.RB, Nat.reduceAdd, Nat.reduceMul, Nat.reduceEqDiff, reduceCtorEq, b27_G3, hd, g2, AM.wrap_i64, tj, hd0, tk, Nat.sub_zero])) | (refine AM.drawW_fine hp (by kernel_rfl) (by kernel_rfl) ?_; simp (disch := first | omega | (simp only [AM.DB, List.length_set, List.length_map]; done) | (simp only [AM.DB, List.length_set, List.length_map]; omega)) only [AM.RB, Nat.reduceAdd, Nat.reduceMul, Nat.reduceEqDiff, reduceCtorEq, b27_G3, g2, AM.wrap_i64, tj, hd0, tk, Nat.sub_zero]) | (refine AM.opW_tied (by kernel_rfl) ?_; simp (disch := first | omega | (simp only [AM.DB, List.length_set, List.length_map]; done) | (simp only [AM.DB, List.length_set, List.length_map]; omega)) only [AM.RB, Nat.reduceAdd, Nat.reduceMul, Nat.reduceEqDiff, reduceCtorEq, b27_G3, g2, AM.wrap_i64, tj, hd0, tk, Nat.sub_zero]) | (refine AM.opW_untied (by kernel_rfl) ?_; simp (disch := first | omega | (simp only [AM.DB, List.length_set, List.length_map]; done) | (simp only [AM.DB, List.length_set, List.length_map]; omega)) only [AM.RB, Nat.reduceAdd, Nat.reduceMul, Nat.reduceEqDiff, reduceCtorEq, b27_G3, g2, AM.wrap_i64, tj, hd0, tk, Nat.sub_zero]) | (refine AM.build_w ?_; simp (disch := first | omega | (simp only [AM.DB, List.length_set, List.length_map]; done) | (simp only [AM.DB, List.length_set, List.length_map]; omega)) only [AM.RB, Nat.reduceAdd, Nat.reduceMul, Nat.reduceEqDiff, reduceCtorEq, b27_G3, g2, AM.wrap_i64, tj, hd0, tk, Nat.sub_zero])))
      generalize hE_ : AHeap.put h1 _ _ = h2; obtain ⟨gg2, fr2, n2, l2⟩ := AM.put_get hE_ (by omega); clear hE_
      have hJ2 := hJ i _ (fun id => id = w1) _ _ hJi fr2 (fun _ q => q) (fun _ q => .inl q)
      have hget : (linesL l.length l)[i]? = some (r.take (j + 1)) := by
        have := congrArg (fun l => l[0]?) hdrop
        simpa using this
      refine AM.CallW.mono (hy i [strV (r.take (j + 1))] (fun id => id = w1) h2 (by rw [List.getElem?_map, hget]; rfl) hJ2 (fun id q => ⟨.inl q, by omega⟩) (by omega) (by omega) (fun _ q => q.elim)) ?_
      rintro v h3 ⟨b, rfl, q1, q2, q3, q4⟩
      have g3 : h3.get w1 = some (.cells [strV (r.drop (j + 1))] 9 false) := by rw [q3 w1 (by omega) (.inl rfl)]; exact gg2
      cases b with
      | true =>
        (first | (simp (disch := first | omega | (simp only [AM.DB, List.length_set, List.length_map]; done) | (simp only [AM.DB, List.length_set, List.length_map]; omega)) only [AM.RB, Nat.reduceAdd, Nat.reduceMul, Nat.reduceEqDiff, reduceCtorEq, b27_G3]) | skip); (repeat' (first | (refine AM.guard_spl ?_ ?_ <;> (intro hd hp_; simp (disch := first | omega | (simp only [AM.DB, List.length_set, List.length_map]; done) | (simp only [AM.DB, List.length_set, List.length_map]; omega)) only [AM.RB, Nat.reduceAdd, Nat.reduceMul, Nat.reduceEqDiff, reduceCtorEq, b27_G3, hd])) | (refine AM.cond_spl ?_ ?_ <;> (intro hd hp_; simp (disch := first | omega | (simp only [AM.DB, List.length_set, List.length_map]; done) | (simp only [AM.DB, List.length_set, List.length_map]; omega)) only [AM.RB, Nat.reduceAdd, Nat.reduceMul, Nat.reduceEqDiff, reduceCtorEq, b27_G3, hd])) | (refine AM.guard_b ?_ ?_ <;> (intro hd hp_; simp (disch := first | omega | (simp only [AM.DB, List.length_set, List.length_map]; done) | (simp only [AM.DB, List.length_set, List.length_map]; omega)) only [AM.RB, Nat.reduceAdd, Nat.reduceMul, Nat.reduceEqDiff, reduceCtorEq, b27_G3, hd])) | (refine AM.cond_b ?_ ?_ <;> (intro hd hp_; simp (disch := first | omega | (simp only [AM.DB, List.length_set, List.length_map]; done) | (simp only [AM.DB, List.length_set, List.length_map]; omega)) only [AM.RB, Nat.reduceAdd, Nat.reduceMul, Nat.reduceEqDiff, reduceCtorEq, b27_G3, hd])) | (refine AM.drawW_fine hp (by kernel_rfl) (by kernel_rfl) ?_; simp (disch := first | omega | (simp only [AM.DB, List.length_set, List.length_map]; done) | (simp only [AM.DB, List.length_set, List.length_map]; omega)) only [AM.RB, Nat.reduceAdd, Nat.reduceMul, Nat.reduceEqDiff, reduceCtorEq, b27_G3]) | (refine AM.opW_tied (by kernel_rfl) ?_; simp (disch := first | omega | (simp only [AM.DB, List.length_set, List.length_map]; done) | (simp only [AM.DB, List.length_set, List.length_map]; omega)) only [AM.RB, Nat.reduceAdd, Nat.reduceMul, Nat.reduceEqDiff, reduceCtorEq, b27_G3]) | (refine AM.opW_untied (by kernel_rfl) ?_; simp (disch := first | omega | (simp only [AM.DB, List.length_set, List.length_map]; done) | (simp only [AM.DB, List.length_set, List.length_map]; omega)) only [AM.RB, Nat.reduceAdd, Nat.reduceMul, Nat.reduceEqDiff, reduceCtorEq, b27_G3]) | (refine AM.build_w ?_; simp (disch := first | omega | (simp only [AM.DB, List.length_set, List.length_map]; done) | (simp only [AM.DB, List.length_set, List.length_map]; omega)) only [AM.RB, Nat.reduceAdd, Nat.reduceMul, Nat.reduceEqDiff, reduceCtorEq, b27_G3])))
        refine ⟨(i + 1, (r.drop (j + 1))), by simp only [List.length_drop, List.length_nil]; omega, g3, by simp only [List.length_drop, List.length_nil]; omega, by omega, by omega, by simpa using q4, ?_, ?_⟩
        · simp only
          rw [← List.drop_drop, hdrop]
          simp only [List.drop_succ_cons, List.drop_zero]
          have hlen : (r.drop (j + 1)).length ≤ k := by simp; omega
          exact linesL_eq _ _ _ hlen (Nat.le_refl _)
        · have := (List.getElem?_eq_some_iff.1 hget).1
          simp only; omega
      | false =>
        (first | (simp (disch := first | omega | (simp only [AM.DB, List.length_set, List.length_map]; done) | (simp only [AM.DB, List.length_set, List.length_map]; omega)) only [AM.RB, Nat.reduceAdd, Nat.reduceMul, Nat.reduceEqDiff, reduceCtorEq, b27_G3]) | skip); (repeat' (first | (refine AM.guard_spl ?_ ?_ <;> (intro hd hp_; simp (disch := first | omega | (simp only [AM.DB, List.length_set, List.length_map]; done) | (simp only [AM.DB, List.length_set, List.length_map]; omega)) only [AM.RB, Nat.reduceAdd, Nat.reduceMul, Nat.reduceEqDiff, reduceCtorEq, b27_G3, hd])) | (refine AM.cond_spl ?_ ?_ <;> (intro hd hp_; simp (disch := first | omega | (simp only [AM.DB, List.length_set, List.length_map]; done) | (simp only [AM.DB, List.length_set, List.length_map]; omega)) only [AM.RB, Nat.reduceAdd, Nat.reduceMul, Nat.reduceEqDiff, reduceCtorEq, b27_G3, hd])) | (refine AM.guard_b ?_ ?_ <;> (intro hd hp_; simp (disch := first | omega | (simp only [AM.DB, List.length_set, List.length_map]; done) | (simp only [AM.DB, List.length_set, List.length_map]; omega)) only [AM.RB, Nat.reduceAdd, Nat.reduceMul, Nat.reduceEqDiff, reduceCtorEq, b27_G3, hd])) | (refine AM.cond_b ?_ ?_ <;> (intro hd hp_; simp (disch := first | omega | (simp only [AM.DB, List.length_set, List.length_map]; done) | (simp only [AM.DB, List.length_set, List.length_map]; omega)) only [AM.RB, Nat.reduceAdd, Nat.reduceMul, Nat.reduceEqDiff, reduceCtorEq, b27_G3, hd])) | (refine AM.drawW_fine hp (by kernel_rfl) (by kernel_rfl) ?_; simp (disch := first | omega | (simp only [AM.DB, List.length_set, List.length_map]; done) | (simp only [AM.DB, List.length_set, List.length_map]; omega)) only [AM.RB, Nat.reduceAdd, Nat.reduceMul, Nat.reduceEqDiff, reduceCtorEq, b27_G3]) | (refine AM.opW_tied (by kernel_rfl) ?_; simp (disch := first | omega | (simp only [AM.DB, List.length_set, List.length_map]; done) | (simp only [AM.DB, List.length_set, List.length_map]; omega)) only [AM.RB, Nat.reduceAdd, Nat.reduceMul, Nat.reduceEqDiff, reduceCtorEq, b27_G3]) | (refine AM.opW_untied (by kernel_rfl) ?_; simp (disch := first | omega | (simp only [AM.DB, List.length_set, List.length_map]; done) | (simp only [AM.DB, List.length_set, List.length_map]; omega)) only [AM.RB, Nat.reduceAdd, Nat.reduceMul, Nat.reduceEqDiff, reduceCtorEq, b27_G3]) | (refine AM.build_w ?_; simp (disch := first | omega | (simp only [AM.DB, List.length_set, List.length_map]; done) | (simp only [AM.DB, List.length_set, List.length_map]; omega)) only [AM.RB, Nat.reduceAdd, Nat.reduceMul, Nat.reduceEqDiff, reduceCtorEq, b27_G3])))
        exact ⟨fun id => id = w1, fun id q => ⟨.inl q, by have := AM.get_some_lt g3; omega⟩, by omega, by omega, .inr (by simpa using q4)⟩
    | none =>
      rw [hf] at hdrop
      have hix : idxL r 10 = -1 := by unfold idxL; rw [hf]
      rw [hix]
      have hd0 := decide_eq_false (show ¬ (0 : Int) ≤ -1 by omega)
      simp only at hdrop
      (first | (simp (disch := first | omega | (simp only [AM.DB, List.length_set, List.length_map]; done) | (simp only [AM.DB, List.length_set, List.length_map]; omega)) only [AM.RB, Nat.reduceAdd, Nat.reduceMul, Nat.reduceEqDiff, reduceCtorEq, b27_G3, g2, hd0]) | skip); (repeat' (first | (refine AM.guard_spl ?_ ?_ <;> (intro hd hp_; simp (disch := first | omega | (simp only [AM.DB, List.length_set, List.length_map]; done) | (simp only [AM.DB, List.length_set, List.length_map]; omega)) only [AM.RB, Nat.reduceAdd, Nat.reduceMul, Nat.reduceEqDiff, reduceCtorEq, b27_G3, hd, g2, hd0])) | (refine AM.cond_spl ?_ ?_ <;> (intro hd hp_; simp (disch := first | omega | (simp only [AM.DB, List.length_set, List.length_map]; done) | (simp only [AM.DB, List.length_set, List.length_map]; omega)) only [AM.RB, Nat.reduceAdd, Nat.reduceMul, Nat.reduceEqDiff, reduceCtorEq, b27_G3, hd, g2, hd0])) | (refine AM.guard_b ?_ ?_ <;> (intro hd hp_; simp (disch := first | omega | (simp only [AM.DB, List.length_set, List.length_map]; done) | (simp only [AM.DB, List.length_set, List.length_map]; omega)) only [AM.RB, Nat.reduceAdd, Nat.reduceMul, Nat.reduceEqDiff, reduceCtorEq, b27_G3, hd, g2, hd0])) | (refine AM.cond_b ?_ ?_ <;> (intro hd hp_; simp (disch := first | omega | (simp only [AM.DB, List.length_set, List.length_map]; done) | (simp only [AM.DB, List.length_set, List.length_map]; omega)) only [AM.RB, Nat.reduceAdd, Nat.reduceMul, Nat.reduceEqDiff, reduceCtorEq, b27_G3, hd, g2, hd0])) | (refine AM.drawW_fine hp (by kernel_rfl) (by kernel_rfl) ?_; simp (disch := first | omega | (simp only [AM.DB, List.length_set, List.length_map]; done) | (simp only [AM.DB, List.length_set, List.length_map]; omega)) only [AM.RB, Nat.reduceAdd, Nat.reduceMul, Nat.reduceEqDiff, reduceCtorEq, b27_G3, g2, hd0]) | (refine AM.opW_tied (by kernel_rfl) ?_; simp (disch := first | omega | (simp only [AM.DB, List.length_set, List.length_map]; done) | (simp only [AM.DB, List.length_set, List.length_map]; omega)) only [AM.RB, Nat.reduceAdd, Nat.reduceMul, Nat.reduceEqDiff, reduceCtorEq, b27_G3, g2, hd0]) | (refine AM.opW_untied (by kernel_rfl) ?_; simp (disch := first | omega | (simp only [AM.DB, List.length_set, List.length_map]; done) | (simp only [AM.DB, List.length_set, List.length_map]; omega)) only [AM.RB, Nat.reduceAdd, Nat.reduceMul, Nat.reduceEqDiff, reduceCtorEq, b27_G3, g2, hd0]) | (refine AM.build_w ?_; simp (disch := first | omega | (simp only [AM.DB, List.length_set, List.length_map]; done) | (simp only [AM.DB, List.length_set, List.length_map]; omega)) only [AM.RB, Nat.reduceAdd, Nat.reduceMul, Nat.reduceEqDiff, reduceCtorEq, b27_G3, g2, hd0])))
      generalize hE_ : AHeap.put h1 _ _ = h2; obtain ⟨gg2, fr2, n2, l2⟩ := AM.put_get hE_ (by omega); clear hE_
      have hJ2 := hJ i _ (fun id => id = w1) _ _ hJi fr2 (fun _ q => q) (fun _ q => .inl q)
      have hget : (linesL l.length l)[i]? = some r := by
        have := congrArg (fun l => l[0]?) hdrop
        simpa using this
      refine AM.CallW.mono (hy i [strV r] (fun id => id = w1) h2 (by rw [List.getElem?_map, hget]; rfl) hJ2 (fun id q => ⟨.inl q, by omega⟩) (by omega) (by omega) (fun _ q => q.elim)) ?_
      rintro v h3 ⟨b, rfl, q1, q2, q3, q4⟩
      have g3 : h3.get w1 = some (.cells [strV []] 9 false) := by rw [q3 w1 (by omega) (.inl rfl)]; exact gg2
      cases b with
      | true =>
        (first | (simp (disch := first | omega | (simp only [AM.DB, List.length_set, List.length_map]; done) | (simp only [AM.DB, List.length_set, List.length_map]; omega)) only [AM.RB, Nat.reduceAdd, Nat.reduceMul, Nat.reduceEqDiff, reduceCtorEq, b27_G3]) | skip); (repeat' (first | (refine AM.guard_spl ?_ ?_ <;> (intro hd hp_; simp (disch := first | omega | (simp only [AM.DB, List.length_set, List.length_map]; done) | (simp only [AM.DB, List.length_set, List.length_map]; omega)) only [AM.RB, Nat.reduceAdd, Nat.reduceMul, Nat.reduceEqDiff, reduceCtorEq, b27_G3, hd])) | (refine AM.cond_spl ?_ ?_ <;> (intro hd hp_; simp (disch := first | omega | (simp only [AM.DB, List.length_set, List.length_map]; done) | (simp only [AM.DB, List.length_set, List.length_map]; omega)) only [AM.RB, Nat.reduceAdd, Nat.reduceMul, Nat.reduceEqDiff, reduceCtorEq, b27_G3, hd])) | (refine AM.guard_b ?_ ?_ <;> (intro hd hp_; simp (disch := first | omega | (simp only [AM.DB, List.length_set, List.length_map]; done) | (simp only [AM.DB, List.length_set, List.length_map]; omega)) only [AM.RB, Nat.reduceAdd, Nat.reduceMul, Nat.reduceEqDiff, reduceCtorEq, b27_G3, hd])) | (refine AM.cond_b ?_ ?_ <;> (intro hd hp_; simp (disch := first | omega | (simp only [AM.DB, List.length_set, List.length_map]; done) | (simp only [AM.DB, List.length_set, List.length_map]; omega)) only [AM.RB, Nat.reduceAdd, Nat.reduceMul, Nat.reduceEqDiff, reduceCtorEq, b27_G3, hd])) | (refine AM.drawW_fine hp (by kernel_rfl) (by kernel_rfl) ?_; simp (disch := first | omega | (simp only [AM.DB, List.length_set, List.length_map]; done) | (simp only [AM.DB, List.length_set, List.length_map]; omega)) only [AM.RB, Nat.reduceAdd, Nat.reduceMul, Nat.reduceEqDiff, reduceCtorEq, b27_G3]) | (refine AM.opW_tied (by kernel_rfl) ?_; simp (disch := first | omega | (simp only [AM.DB, List.length_set, List.length_map]; done) | (simp only [AM.DB, List.length_set, List.length_map]; omega)) only [AM.RB, Nat.reduceAdd, Nat.reduceMul, Nat.reduceEqDiff, reduceCtorEq, b27_G3]) | (refine AM.opW_untied (by kernel_rfl) ?_; simp (disch := first | omega | (simp only [AM.DB, List.length_set, List.length_map]; done) | (simp only [AM.DB, List.length_set, List.length_map]; omega)) only [AM.RB, Nat.reduceAdd, Nat.reduceMul, Nat.reduceEqDiff, reduceCtorEq, b27_G3]) | (refine AM.build_w ?_; simp (disch := first | omega | (simp only [AM.DB, List.length_set, List.length_map]; done) | (simp only [AM.DB, List.length_set, List.length_map]; omega)) only [AM.RB, Nat.reduceAdd, Nat.reduceMul, Nat.reduceEqDiff, reduceCtorEq, b27_G3])))
        refine ⟨(i + 1, []), by simp only [List.length_drop, List.length_nil]; omega, g3, by simp only [List.length_drop, List.length_nil]; omega, by omega, by omega, by simpa using q4, ?_, ?_⟩
        · simp only
          rw [← List.drop_drop, hdrop]
          rfl
        · have := (List.getElem?_eq_some_iff.1 hget).1
          simp only; omega
      | false =>
        (first | (simp (disch := first | omega | (simp only [AM.DB, List.length_set, List.length_map]; done) | (simp only [AM.DB, List.length_set, List.length_map]; omega)) only [AM.RB, Nat.reduceAdd, Nat.reduceMul, Nat.reduceEqDiff, reduceCtorEq, b27_G3]) | skip); (repeat' (first | (refine AM.guard_spl ?_ ?_ <;> (intro hd hp_; simp (disch := first | omega | (simp only [AM.DB, List.length_set, List.length_map]; done) | (simp only [AM.DB, List.length_set, List.length_map]; omega)) only [AM.RB, Nat.reduceAdd, Nat.reduceMul, Nat.reduceEqDiff, reduceCtorEq, b27_G3, hd])) | (refine AM.cond_spl ?_ ?_ <;> (intro hd hp_; simp (disch := first | omega | (simp only [AM.DB, List.length_set, List.length_map]; done) | (simp only [AM.DB, List.length_set, List.length_map]; omega)) only [AM.RB, Nat.reduceAdd, Nat.reduceMul, Nat.reduceEqDiff, reduceCtorEq, b27_G3, hd])) | (refine AM.guard_b ?_ ?_ <;> (intro hd hp_; simp (disch := first | omega | (simp only [AM.DB, List.length_set, List.length_map]; done) | (simp only [AM.DB, List.length_set, List.length_map]; omega)) only [AM.RB, Nat.reduceAdd, Nat.reduceMul, Nat.reduceEqDiff, reduceCtorEq, b27_G3, hd])) | (refine AM.cond_b ?_ ?_ <;> (intro hd hp_; simp (disch := first | omega | (simp only [AM.DB, List.length_set, List.length_map]; done) | (simp only [AM.DB, List.length_set, List.length_map]; omega)) only [AM.RB, Nat.reduceAdd, Nat.reduceMul, Nat.reduceEqDiff, reduceCtorEq, b27_G3, hd])) | (refine AM.drawW_fine hp (by kernel_rfl) (by kernel_rfl) ?_; simp (disch := first | omega | (simp only [AM.DB, List.length_set, List.length_map]; done) | (simp only [AM.DB, List.length_set, List.length_map]; omega)) only [AM.RB, Nat.reduceAdd, Nat.reduceMul, Nat.reduceEqDiff, reduceCtorEq, b27_G3]) | (refine AM.opW_tied (by kernel_rfl) ?_; simp (disch := first | omega | (simp only [AM.DB, List.length_set, List.length_map]; done) | (simp only [AM.DB, List.length_set, List.length_map]; omega)) only [AM.RB, Nat.reduceAdd, Nat.reduceMul, Nat.reduceEqDiff, reduceCtorEq, b27_G3]) | (refine AM.opW_untied (by kernel_rfl) ?_; simp (disch := first | omega | (simp only [AM.DB, List.length_set, List.length_map]; done) | (simp only [AM.DB, List.length_set, List.length_map]; omega)) only [AM.RB, Nat.reduceAdd, Nat.reduceMul, Nat.reduceEqDiff, reduceCtorEq, b27_G3]) | (refine AM.build_w ?_; simp (disch := first | omega | (simp only [AM.DB, List.length_set, List.length_map]; done) | (simp only [AM.DB, List.length_set, List.length_map]; omega)) only [AM.RB, Nat.reduceAdd, Nat.reduceMul, Nat.reduceEqDiff, reduceCtorEq, b27_G3])))
        exact ⟨fun id => id = w1, fun id q => ⟨.inl q, by have := AM.get_some_lt g3; omega⟩, by omega, by omega, .inr (by simpa using q4)⟩
  · have hr : r = [] := List.eq_nil_of_length_eq_zero (by omega)
    subst hr
    have e : (linesL l.length l).length = i := by
      have := congrArg List.length hdrop
      simp [linesL] at this; omega
    (first | (simp (disch := first | omega | (simp only [AM.DB, List.length_set, List.length_map]; done) | (simp only [AM.DB, List.length_set, List.length_map]; omega)) only [AM.RB, Nat.reduceAdd, Nat.reduceMul, Nat.reduceEqDiff, reduceCtorEq, b27_G3]) | skip); (repeat' (first | (refine AM.guard_spl ?_ ?_ <;> (intro hd hp_; simp (disch := first | omega | (simp only [AM.DB, List.length_set, List.length_map]; done) | (simp only [AM.DB, List.length_set, List.length_map]; omega)) only [AM.RB, Nat.reduceAdd, Nat.reduceMul, Nat.reduceEqDiff, reduceCtorEq, b27_G3, hd])) | (refine AM.cond_spl ?_ ?_ <;> (intro hd hp_; simp (disch := first | omega | (simp only [AM.DB, List.length_set, List.length_map]; done) | (simp only [AM.DB, List.length_set, List.length_map]; omega)) only [AM.RB, Nat.reduceAdd, Nat.reduceMul, Nat.reduceEqDiff, reduceCtorEq, b27_G3, hd])) | (refine AM.guard_b ?_ ?_ <;> (intro hd hp_; simp (disch := first | omega | (simp only [AM.DB, List.length_set, List.length_map]; done) | (simp only [AM.DB, List.length_set, List.length_map]; omega)) only [AM.RB, Nat.reduceAdd, Nat.reduceMul, Nat.reduceEqDiff, reduceCtorEq, b27_G3, hd])) | (refine AM.cond_b ?_ ?_ <;> (intro hd hp_; simp (disch := first | omega | (simp only [AM.DB, List.length_set, List.length_map]; done) | (simp only [AM.DB, List.length_set, List.length_map]; omega)) only [AM.RB, Nat.reduceAdd, Nat.reduceMul, Nat.reduceEqDiff, reduceCtorEq, b27_G3, hd])) | (refine AM.drawW_fine hp (by kernel_rfl) (by kernel_rfl) ?_; simp (disch := first | omega | (simp only [AM.DB, List.length_set, List.length_map]; done) | (simp only [AM.DB, List.length_set, List.length_map]; omega)) only [AM.RB, Nat.reduceAdd, Nat.reduceMul, Nat.reduceEqDiff, reduceCtorEq, b27_G3]) | (refine AM.opW_tied (by kernel_rfl) ?_; simp (disch := first | omega | (simp only [AM.DB, List.length_set, List.length_map]; done) | (simp only [AM.DB, List.length_set, List.length_map]; omega)) only [AM.RB, Nat.reduceAdd, Nat.reduceMul, Nat.reduceEqDiff, reduceCtorEq, b27_G3]) | (refine AM.opW_untied (by kernel_rfl) ?_; simp (disch := first | omega | (simp only [AM.DB, List.length_set, List.length_map]; done) | (simp only [AM.DB, List.length_set, List.length_map]; omega)) only [AM.RB, Nat.reduceAdd, Nat.reduceMul, Nat.reduceEqDiff, reduceCtorEq, b27_G3]) | (refine AM.build_w ?_; simp (disch := first | omega | (simp only [AM.DB, List.length_set, List.length_map]; done) | (simp only [AM.DB, List.length_set, List.length_map]; omega)) only [AM.RB, Nat.reduceAdd, Nat.reduceMul, Nat.reduceEqDiff, reduceCtorEq, b27_G3])))
    exact ⟨fun id => id = w1, fun id q => ⟨.inl q, by omega⟩, by omega, by omega, .inl (by rw [List.length_map, e]; exact hJi)⟩

end Go.Proofs.Ytdimjemgganegaa
