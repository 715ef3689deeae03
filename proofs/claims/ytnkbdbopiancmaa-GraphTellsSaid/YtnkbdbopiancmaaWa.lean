/- Walks of this claim's functions, and plain laws. -/
import Derived.Test.YtnkbdbopiancmaaProg
import Derived.Test.YtnkbdbopiancmaaAMRules
import Derived.Test.YtnkbdbopiancmaaAMOps6
import Derived.KernelRfl
import Derived.Ground.Names2Prog
import Derived.Shelf.Lays2
import Derived.Test.YtnkbdbopiancmaaAMBfs
import Derived.Test.YtnkbdbopiancmaaAMInsertInt
import Derived.Test.YtnkbdbopiancmaaAMLaw
import Derived.Test.YtnkbdbopiancmaaAMOps10
set_option linter.unusedSimpArgs false
set_option linter.unusedVariables false
namespace Go.Proofs.Ytnkbdbopiancmaa
open Go.AM

theorem ul_3 : Try.prog.underlying 3 = some (.int .i64) := by kernel_rfl
theorem lk_3 : lkI Try.prog 3 = some none := by kernel_rfl
theorem sz_3 : szI Try.prog 3 = some 1 := by kernel_rfl
theorem al_3 : alI Try.prog 3 = some ([.int .i64 0]) := by kernel_rfl
theorem ul_4 : Try.prog.underlying 4 = some (.bool) := by kernel_rfl
theorem lk_4 : lkI Try.prog 4 = some none := by kernel_rfl
theorem sz_4 : szI Try.prog 4 = some 1 := by kernel_rfl
theorem ul_22 : Try.prog.underlying 22 = some (.slice 42) := by kernel_rfl
theorem el_22 : elI Try.prog 22 = some (42, 2) := by kernel_rfl
theorem ul_24 : Try.prog.underlying 24 = some (.pointer 53) := by kernel_rfl
theorem lk_24 : lkI Try.prog 24 = some none := by kernel_rfl
theorem ul_26 : Try.prog.underlying 26 = some (.slice 3) := by kernel_rfl
theorem lk_26 : lkI Try.prog 26 = some none := by kernel_rfl
theorem sz_26 : szI Try.prog 26 = some 1 := by kernel_rfl
theorem al_26 : alI Try.prog 26 = some ([.slice none 0 0]) := by kernel_rfl
theorem el_26 : elI Try.prog 26 = some (3, 1) := by kernel_rfl
theorem ap_26 : apI Try.prog 26 = some (3, 1, 8) := by kernel_rfl
theorem bs_26 : bsI Try.prog 26 = some (3, 1) := by kernel_rfl
theorem mk_26 : mkI Try.prog 26 = some (3, 8, [.int .i64 0]) := by kernel_rfl
theorem lk_27 : lkI Try.prog 27 = some none := by kernel_rfl
theorem ul_42 : Try.prog.underlying 42 = some (.array 2 3) := by kernel_rfl
theorem ar_42 : arI Try.prog 42 = some (2, 1) := by kernel_rfl
theorem ul_51 : Try.prog.underlying 51 = some (.slice 26) := by kernel_rfl
theorem lk_51 : lkI Try.prog 51 = some none := by kernel_rfl
theorem el_51 : elI Try.prog 51 = some (26, 1) := by kernel_rfl
theorem ap_51 : apI Try.prog 51 = some (26, 1, 24) := by kernel_rfl
theorem bs_51 : bsI Try.prog 51 = some (26, 1) := by kernel_rfl
theorem mk_51 : mkI Try.prog 51 = some (26, 24, [.slice none 0 0]) := by kernel_rfl
theorem bd_53 : bdI Try.prog 53 = some ([.slice none 0 0, .slice none 0 0], [(0, 1), (1, 1)]) := by kernel_rfl
theorem fd_53_0 : fdI Try.prog 53 0 = some 0 := by kernel_rfl
theorem fd_53_1 : fdI Try.prog 53 1 = some 1 := by kernel_rfl
theorem lk_59 : lkI Try.prog 59 = some none := by kernel_rfl
theorem sz_59 : szI Try.prog 59 = some 1 := by kernel_rfl
theorem al_59 : alI Try.prog 59 = some ([.map none]) := by kernel_rfl
theorem mp_59 : mpI Try.prog 59 = some (.int .i64 0) := by kernel_rfl
theorem ul_63 : Try.prog.underlying 63 = some (.slice 66) := by kernel_rfl
theorem lk_63 : lkI Try.prog 63 = some none := by kernel_rfl
theorem sz_63 : szI Try.prog 63 = some 1 := by kernel_rfl
theorem el_63 : elI Try.prog 63 = some (66, 1) := by kernel_rfl
theorem ap_63 : apI Try.prog 63 = some (66, 1, 24) := by kernel_rfl
theorem bs_63 : bsI Try.prog 63 = some (66, 1) := by kernel_rfl
theorem bd_65 : bdI Try.prog 65 = some ([.slice none 0 0], [(0, 1)]) := by kernel_rfl
theorem fd_65_0 : fdI Try.prog 65 0 = some 0 := by kernel_rfl
theorem lk_66 : lkI Try.prog 66 = some none := by kernel_rfl
theorem el_66 : elI Try.prog 66 = some (4, 1) := by kernel_rfl
theorem mk_66 : mkI Try.prog 66 = some (4, 1, [.bool false]) := by kernel_rfl
theorem ul_68 : Try.prog.underlying 68 = some (.int .u64) := by kernel_rfl
theorem ul_75 : Try.prog.underlying 75 = some (.int .u32) := by kernel_rfl
end Go.Proofs.Ytnkbdbopiancmaa

/- slices.Insert at ints: the shelf's laying, at this dump (as the kit's lay-plain.mjs prints it). -/
namespace Go.Proofs
open Go.Shelf
def Try.lays21_ren : Go.Shelf.Ren := ⟨fun | 21 => 42 | 27 => 51 | 28 => 52 | 35 => 57 | 39 => 58 | n => n, fun | 22 => 26 | 3 => 3 | 4 => 4 | 0 => 0 | n => n, fun | n => n⟩
theorem Try.lays21 : Go.Proofs.Lays2.n21 Try.prog Try.lays21_ren := {
  mixed := by kernel_rfl
  f21 := Try.func42.trans (congrArg some (by kernel_rfl))
  f27 := Try.func51.trans (congrArg some (by kernel_rfl))
  f28 := Try.func52.trans (congrArg some (by kernel_rfl))
  f35 := Try.func57.trans (congrArg some (by kernel_rfl))
  f39 := Try.func58.trans (congrArg some (by kernel_rfl))
  t0 := Try.underlying0
  a0 := Try.isAgg0
  z0 := Try.sizeOf0
  v0 := Try.zeroValue0
  t3 := Try.underlying3
  a3 := Try.isAgg3
  z3 := Try.sizeOf3
  v3 := Try.zeroValue3
  t4 := Try.underlying4
  a4 := Try.isAgg4
  z4 := Try.sizeOf4
  v4 := Try.zeroValue4
  t22 := Try.underlying26
  a22 := Try.isAgg26
  z22 := Try.sizeOf26
  v22 := Try.zeroValue26
  i3 := by kernel_rfl }
end Go.Proofs

namespace Go.Proofs.Ytnkbdbopiancmaa
open Go.AM

theorem insertOk : PrimOk Try.prog (fun _ => false) 42 (pInsert Try.prog 3) := by
  obtain ⟨inf, hi, h1⟩ : ∃ inf, Try.prog.info? 3 = some inf ∧ (inf.size, inf.bytes) = (1, 8) := by
    have h : (Try.prog.info? 3).map (fun i => (i.size, i.bytes)) = some (1, 8) := by kernel_rfl
    exact Option.map_eq_some_iff.1 h
  simp only [Prod.mk.injEq] at h1
  refine insert_ok Try.func42 rfl (by kernel_rfl) hi (by rw [Try.underlying3]; simp) ?_
  rw [h1.1, h1.2]
  exact insSpec_int Try.lays21
noncomputable def prims : Prims := fun g => if g = 42 then some (pInsert Try.prog 3) else none
theorem hp : PMono prims := by
  intro g p e c c' _ all h r hh
  unfold prims at e
  split at e
  · cases e; exact hh
  · cases e
theorem primsOk : ∀ g p, prims g = some p → PrimOk Try.prog (fun _ => false) g p := by
  intro g p hp
  unfold prims at hp
  split at hp
  · rename_i e; cases hp; subst e; exact insertOk
  · cases hp
theorem primsKeep : PrimsKeep prims := by
  intro g p hp call _ all h r h' hl hh
  unfold prims at hp
  split at hp
  · cases hp; exact insert_keeps hl hh
  · cases hp
abbrev W (K : Nat) (args : List Value) (h : AHeap) (Q : VQ) : Prop := CallW Try.prog prims (.func (.func K) #[] #[]) args h Q
abbrev pv (p : Nat) : Value := .pointer (some ⟨p, 0, none⟩)
theorem insI : (Try.prog.info? 3).map (fun i => (i.size, i.bytes)) = some (1, 8) := by kernel_rfl
theorem pInsI : prims 42 = some (pInsert Try.prog 3) := by unfold prims; rw [if_pos rfl]
theorem grIns_w {h : AHeap} {s : Value} {n c : Nat} {a : Addr} {l : List Int} {x : Int} {i : Nat} {Q : VQ} (hs : Ow h 3 1 s n (l.map (.int .i64))) (hpos : capPos s) (hv : Ow h 3 1 (.slice (some a) 1 c) 1 [.int .i64 x]) (hne : ∀ id, idOf s id → id ≠ a.block) (hin : i ≤ n) (hl : h.low ≤ h.next) (hn : n ≤ 1000000)
    (hq : ∀ v h', Ow h' 3 1 v (n + 1) ((l.take i ++ [x] ++ l.drop i).map (.int .i64)) → capPos v → Fr (idOf s) h h' → (∀ id, idOf v id → idOf s id ∨ h.next ≤ id) → Q v h') : W 42 [s, .int .i64 (i : Int), .slice (some a) 1 c] h Q := by
  refine AM.insert_w hp pInsI insI (by omega) hs hpos hv hne hin hl (AM.fits (by omega) (by omega)) (AM.fits' (by omega)) (AM.ints_one _ _) rfl fun v h' o c f k => hq v h' ?_ c f k
  simpa [List.map_take, List.map_drop] using o
end Go.Proofs.Ytnkbdbopiancmaa

namespace Go.Proofs.Ytnkbdbopiancmaa
open Go.AM

def upd {α : Type} (X : Nat → α) (k : Nat) (v : α) : Nat → α := fun j => if j = k then v else X j
/-! ### The tables in memory -/
structure Bk (h : AHeap) (n nid bid : Nat) (X : Nat → Value) (L : Nat → List Int) : Prop where
  g1 : h.get nid = some (.cells ((List.range n).map X) 26 false)
  g2 : h.get bid = some (.cells ((List.range n).map fun j => X (n + j)) 26 false)
  ow : ∀ j, j < 2 * n → Ow h 3 1 (X j) (L j).length ((L j).map (.int .i64))
  dj : ∀ i j, i < 2 * n → j < 2 * n → i ≠ j → ∀ id, idOf (X i) id → ¬ idOf (X j) id
  ne : ∀ j, j < 2 * n → ∀ id, idOf (X j) id → id ≠ nid ∧ id ≠ bid
  nb : nid ≠ bid
  low : h.low ≤ nid ∧ h.low ≤ bid
theorem Bk.same {h h' : AHeap} {n nid bid : Nat} {X : Nat → Value} {L : Nat → List Int} (b : Bk h n nid bid X L) (hh : ∀ id, (id = nid ∨ id = bid ∨ ∃ j, j < 2 * n ∧ idOf (X j) id) → h'.get id = h.get id) (hl : h'.low = h.low) : Bk h' n nid bid X L :=
  ⟨by rw [hh _ (.inl rfl)]; exact b.g1, by rw [hh _ (.inr (.inl rfl))]; exact b.g2, fun j hj => (b.ow j hj).same (fun id q => hh id (.inr (.inr ⟨j, hj, q⟩))) hl, b.dj, b.ne, b.nb, by rw [hl]; exact b.low⟩
theorem range_set {α : Type} (X : Nat → α) (n k : Nat) (v : α) : ((List.range n).map X).set k v = (List.range n).map (upd X k v) := by
  apply List.ext_getElem?
  intro j
  rw [List.getElem?_set, List.getElem?_map, List.getElem?_map]
  unfold upd
  by_cases hj : j < n
  · rw [List.getElem?_range hj]
    by_cases e : k = j
    · subst e; simp [hj]
    · have : j ≠ k := fun q => e q.symm
      rw [if_neg e]
      simp [this]
  · have : (List.range n)[j]? = none := by simp; omega
    rw [this]
    by_cases e : k = j
    · subst e; simp; omega
    · simp [e]
/-- Two rows are put anew, one in each table. -/
theorem Bk.put2 {h h1 h2 h3 h4 : AHeap} {n nid bid : Nat} {X : Nat → Value} {L : Nat → List Int} (b : Bk h n nid bid X L) {i j : Nat} (hi : i < n) (hj : j < n) {v w : Value} {l m : List Int}
    (ov : Ow h1 3 1 v l.length (l.map (.int .i64))) (fr1 : Fr (idOf (X i)) h h1) (hv : ∀ id, idOf v id → idOf (X i) id ∨ h.next ≤ id)
    (ow : Ow h2 3 1 w m.length (m.map (.int .i64))) (fr2 : Fr (idOf (X (n + j))) h1 h2) (hw : ∀ id, idOf w id → idOf (X (n + j)) id ∨ h1.next ≤ id)
    (g3 : h3.get nid = some (.cells (((List.range n).map X).set i v) 26 false)) (fr3 : Fr (fun id => id = nid) h2 h3)
    (g4 : h4.get bid = some (.cells (((List.range n).map fun j => X (n + j)).set j w) 26 false)) (fr4 : Fr (fun id => id = bid) h3 h4) :
    Bk h4 n nid bid (upd (upd X i v) (n + j) w) (upd (upd L i l) (n + j) m) := by
  have ltn := AM.get_some_lt b.g1
  have ltb := AM.get_some_lt b.g2
  have lt1 := fr1.next
  have lt2 := fr2.next
  have hlt : ∀ j, j < 2 * n → ∀ id, idOf (X j) id → id < h.next := fun j hj id q => (b.ow j hj).lt q
  have vX : ∀ k, k < 2 * n → k ≠ i → ∀ id, idOf v id → ¬ idOf (X k) id := fun k hk e id q q2 => by
    rcases hv id q with q | q
    · exact b.dj i k (by omega) hk (fun q => e q.symm) id q q2
    · have := hlt k hk id q2; omega
  have wX : ∀ k, k < 2 * n → k ≠ n + j → ∀ id, idOf w id → ¬ idOf (X k) id := fun k hk e id q q2 => by
    rcases hw id q with q | q
    · exact b.dj (n + j) k (by omega) hk (fun q => e q.symm) id q q2
    · have := hlt k hk id q2; omega
  have vw : ∀ id, idOf v id → ¬ idOf w id := fun id q q2 => by
    rcases hw id q2 with q3 | q3
    · exact vX (n + j) (by omega) (by omega) id q q3
    · have := ov.lt q; omega
  have nev : ∀ id, idOf v id → id ≠ nid ∧ id ≠ bid := fun id q => by
    rcases hv id q with q | q
    · exact b.ne i (by omega) id q
    · omega
  have new : ∀ id, idOf w id → id ≠ nid ∧ id ≠ bid := fun id q => by
    rcases hw id q with q | q
    · exact b.ne (n + j) (by omega) id q
    · omega
  have hup1 : (List.range n).map (upd (upd X i v) (n + j) w) = (List.range n).map (upd X i v) := List.map_congr_left fun k hk => by
    have := List.mem_range.1 hk
    unfold upd; rw [if_neg (by omega)]
  have hup2 : ((List.range n).map fun k => upd (upd X i v) (n + j) w (n + k)) = (List.range n).map (upd (fun k => X (n + k)) j w) := List.map_congr_left fun k hk => by
    unfold upd
    by_cases e : k = j
    · rw [if_pos (by omega), if_pos e]
    · rw [if_neg (by omega), if_neg (by omega), if_neg e]
  refine ⟨?_, ?_, fun k hk => ?_, fun k m hk hm e id => ?_, fun k hk id => ?_, b.nb, by rw [fr4.low, fr3.low, fr2.low, fr1.low]; exact b.low⟩
  · rw [hup1, fr4.old nid (by have := AM.get_some_lt g3; omega) b.nb, g3, range_set]
  · rw [hup2, g4, range_set]
  · unfold upd
    by_cases e1 : k = n + j
    · rw [if_pos e1, if_pos e1]
      exact (ow.fr fr3 fun id q e => (new id q).1 e).fr fr4 fun id q e => (new id q).2 e
    · rw [if_neg e1, if_neg e1]
      by_cases e2 : k = i
      · rw [if_pos e2, if_pos e2]
        refine ((ov.fr fr2 fun id q e => ?_).fr fr3 fun id q e => (nev id q).1 e).fr fr4 fun id q e => (nev id q).2 e
        exact vX (n + j) (by omega) (by omega) id q e
      · rw [if_neg e2, if_neg e2]
        exact ((((b.ow k hk).fr fr1 fun id q e => b.dj k i hk (by omega) e2 id q e).fr fr2 fun id q e => b.dj k (n + j) hk (by omega) e1 id q e).fr fr3 fun id q e => (b.ne k hk id q).1 e).fr fr4 fun id q e => (b.ne k hk id q).2 e
  · unfold upd
    intro q1 q2
    by_cases a1 : k = n + j <;> by_cases a2 : m = n + j
    · omega
    · rw [if_pos a1] at q1; rw [if_neg a2] at q2
      by_cases a3 : m = i
      · rw [if_pos a3] at q2; exact vw id q2 q1
      · rw [if_neg a3] at q2; exact wX m hm a2 id q1 q2
    · rw [if_neg a1] at q1; rw [if_pos a2] at q2
      by_cases a3 : k = i
      · rw [if_pos a3] at q1; exact vw id q1 q2
      · rw [if_neg a3] at q1; exact wX k hk a1 id q2 q1
    · rw [if_neg a1] at q1; rw [if_neg a2] at q2
      by_cases a3 : k = i <;> by_cases a4 : m = i
      · omega
      · rw [if_pos a3] at q1; rw [if_neg a4] at q2; exact vX m hm a4 id q1 q2
      · rw [if_neg a3] at q1; rw [if_pos a4] at q2; exact vX k hk a3 id q2 q1
      · rw [if_neg a3] at q1; rw [if_neg a4] at q2; exact b.dj k m hk hm e id q1 q2
  · unfold upd
    split
    · exact new id
    · split
      · exact nev id
      · exact b.ne k hk id
end Go.Proofs.Ytnkbdbopiancmaa

namespace Go.Proofs.Ytnkbdbopiancmaa
open Go.AM
set_option maxRecDepth 8000
theorem b50_GR2 : type_of% (And.intro (@AM.bin_neq) (@AM.op_binOp)) := And.intro (@AM.bin_neq) (@AM.op_binOp)
theorem b56_GR2 : type_of% (And.intro (@AM.bin_neq) (@AM.op_binOp)) := And.intro (@AM.bin_neq) (@AM.op_binOp)
theorem b49_GR2 : type_of% (And.intro (@AM.bin_lss) (And.intro (@AM.op_binOp) (And.intro (@AM.op_call) (And.intro (@AM.op_unOp) (And.intro (@AM.un_neg) (@AM.un_not)))))) := And.intro (@AM.bin_lss) (And.intro (@AM.op_binOp) (And.intro (@AM.op_call) (And.intro (@AM.op_unOp) (And.intro (@AM.un_neg) (@AM.un_not)))))
theorem b40_GR2 : type_of% (And.intro (@AM.bin_add) (And.intro (@AM.bin_eql) (And.intro (@AM.bin_lss) (And.intro (@AM.bin_shr) (And.intro (@AM.cvW_int) (And.intro (AM.cv_int ul_3 ul_68) (And.intro (AM.cv_int ul_68 ul_3) (And.intro (@AM.iaO_ok) (And.intro (AM.ia_slice el_26) (And.intro (@AM.ldO_agg) (And.intro (@AM.ldO_one) (And.intro (@AM.ld_ptr) (And.intro (AM.len_slice ul_26) (And.intro (@lk_3) (And.intro (@AM.op_binOp) (And.intro (@AM.op_call) (And.intro (@AM.op_convert) (And.intro (@AM.op_indexAddr) (And.intro (@AM.op_len) (And.intro (@AM.op_load) (@AM.resL_two))))))))))))))))))))) := And.intro (@AM.bin_add) (And.intro (@AM.bin_eql) (And.intro (@AM.bin_lss) (And.intro (@AM.bin_shr) (And.intro (@AM.cvW_int) (And.intro (AM.cv_int ul_3 ul_68) (And.intro (AM.cv_int ul_68 ul_3) (And.intro (@AM.iaO_ok) (And.intro (AM.ia_slice el_26) (And.intro (@AM.ldO_agg) (And.intro (@AM.ldO_one) (And.intro (@AM.ld_ptr) (And.intro (AM.len_slice ul_26) (And.intro (@lk_3) (And.intro (@AM.op_binOp) (And.intro (@AM.op_call) (And.intro (@AM.op_convert) (And.intro (@AM.op_indexAddr) (And.intro (@AM.op_len) (And.intro (@AM.op_load) (@AM.resL_two))))))))))))))))))))
theorem b31_GR2 : type_of% (And.intro (AM.bsW_int bs_26) (And.intro (AM.bsW_nil bs_26) (And.intro (AM.bsW_slice bs_26) (And.intro (AM.bsW_string bs_26) (And.intro (@AM.ex_tuple) (And.intro (@AM.op_buildSlice) (And.intro (@AM.op_call) (@AM.op_extract)))))))) := And.intro (AM.bsW_int bs_26) (And.intro (AM.bsW_nil bs_26) (And.intro (AM.bsW_slice bs_26) (And.intro (AM.bsW_string bs_26) (And.intro (@AM.ex_tuple) (And.intro (@AM.op_buildSlice) (And.intro (@AM.op_call) (@AM.op_extract)))))))


/-! ### Numbers below n of which a word holds, rising -/
def outs (f : Nat → Bool) (n : Nat) : List Int := ((List.range n).filter f).map Int.ofNat
theorem mem_outs {f : Nat → Bool} {n : Nat} {x : Int} : x ∈ outs f n ↔ (0 ≤ x ∧ x < n) ∧ f x.toNat = true := by
  unfold outs
  constructor
  · intro h
    obtain ⟨k, hk, rfl⟩ := List.mem_map.1 h
    obtain ⟨h1, h2⟩ := List.mem_filter.1 hk
    have := List.mem_range.1 h1
    exact ⟨⟨Int.natCast_nonneg k, by show (k : Int) < n; omega⟩, by show f ((k : Int).toNat) = true; rw [Int.toNat_natCast]; exact h2⟩
  · rintro ⟨⟨h0, h1⟩, h2⟩
    exact List.mem_map.2 ⟨x.toNat, List.mem_filter.2 ⟨List.mem_range.2 (by omega), h2⟩, by show ((x.toNat : Nat) : Int) = x; omega⟩
theorem outs_srt (f : Nat → Bool) (n : Nat) : (outs f n).Pairwise (fun a b => a < b) := by
  unfold outs
  rw [List.pairwise_map]
  exact (List.pairwise_lt_range.filter f).imp fun {a b} q => by show (a : Int) < b; omega
theorem outs_len (f : Nat → Bool) (n : Nat) : (outs f n).length ≤ n := by
  have := List.length_filter_le f (List.range n)
  simpa [outs] using this
theorem srt_nodup {l : List Int} (h : l.Pairwise (fun a b => a < b)) : l.Nodup := by
  rw [List.nodup_iff_pairwise_ne]
  exact h.imp fun {a b} q e => by omega
theorem srt_eq {l m : List Int} (hl : l.Pairwise (fun a b => a < b)) (hm : m.Pairwise (fun a b => a < b)) (h : ∀ x, x ∈ l ↔ x ∈ m) : l = m :=
  List.Perm.eq_of_pairwise (le := fun a b => a < b) (fun a b _ _ h1 h2 => by omega) hl hm ((List.perm_ext_iff_of_nodup (srt_nodup hl) (srt_nodup hm)).2 h)
def posI (l : List Int) (x : Int) : Nat := l.countP fun y => decide (y < x)
theorem posI_le (l : List Int) (x : Int) : posI l x ≤ l.length := List.countP_le_length
theorem posI_at : ∀ (l : List Int) (x : Int) (i : Nat), i ≤ l.length → (∀ k, k < i → l.getD k 0 < x) → (∀ k, i ≤ k → k < l.length → x ≤ l.getD k 0) → posI l x = i
  | [], x, i, h, _, _ => by simp at h; subst h; rfl
  | p :: L, x, 0, h, _, h2 => by
    have hp : ¬ p < x := by have := h2 0 (Nat.le_refl _) (by simp); simp at this; omega
    have := posI_at L x 0 (Nat.zero_le _) (fun k hk => by omega) (fun k _ hk => by have := h2 (k + 1) (Nat.zero_le _) (by simpa using hk); simpa using this)
    unfold posI at this ⊢
    rw [List.countP_cons_of_neg (by simpa using hp), this]
  | p :: L, x, i + 1, h, h1, h2 => by
    have hp : p < x := by have := h1 0 (by omega); simpa using this
    have := posI_at L x i (by simpa using h) (fun k hk => by have := h1 (k + 1) (by omega); simpa using this) (fun k hk hk2 => by have := h2 (k + 1) (by omega) (by simpa using hk2); simpa using this)
    unfold posI at this ⊢
    rw [List.countP_cons_of_pos (by simpa using hp), this]
def withL (l : List Int) (x : Int) : List Int := if x ∈ l then l else l.take (posI l x) ++ [x] ++ l.drop (posI l x)
theorem posI_split : ∀ {l : List Int} {x : Int}, l.Pairwise (fun a b => a < b) → (∀ y ∈ l.take (posI l x), y < x) ∧ ∀ y ∈ l.drop (posI l x), x ≤ y
  | [], _, _ => by simp
  | p :: l, x, h => by
    obtain ⟨h1, h2⟩ := List.pairwise_cons.1 h
    unfold posI
    by_cases hp : p < x
    · rw [List.countP_cons_of_pos (by simpa using hp)]
      obtain ⟨k1, k2⟩ := posI_split (x := x) h2
      refine ⟨fun y hy => ?_, fun y hy => k2 y (by simpa [posI] using hy)⟩
      rw [List.take_succ_cons] at hy
      rcases List.mem_cons.1 hy with rfl | hy
      · exact hp
      · exact k1 y (by simpa [posI] using hy)
    · rw [List.countP_cons_of_neg (by simpa using hp)]
      have h0 : l.countP (fun y => decide (y < x)) = 0 := List.countP_eq_zero.2 fun y hy => by have := h1 y hy; simp; omega
      rw [h0]
      refine ⟨fun y hy => by simp at hy, fun y hy => ?_⟩
      rw [List.drop_zero] at hy
      rcases List.mem_cons.1 hy with rfl | hy
      · omega
      · have := h1 y hy; omega
theorem withL_outs {f : Nat → Bool} {n x : Nat} (hx : x < n) : withL (outs f n) x = outs (fun k => f k || decide (k = x)) n := by
  unfold withL
  by_cases h : (x : Int) ∈ outs f n
  · rw [if_pos h]
    have hf := (mem_outs.1 h).2
    rw [Int.toNat_natCast] at hf
    unfold outs
    congr 1
    refine List.filter_congr fun k _ => ?_
    by_cases e : k = x
    · subst e; simp [hf]
    · simp [e]
  · rw [if_neg h]
    have hsr := outs_srt f n
    obtain ⟨s1, s2⟩ := posI_split (x := (x : Int)) hsr
    have hmem : ∀ y, y ∈ outs f n → y ≠ x := fun y hy e => h (e ▸ hy)
    have hall : ∀ y, y ∈ (outs f n).take (posI (outs f n) x) ∨ y ∈ (outs f n).drop (posI (outs f n) x) ↔ y ∈ outs f n := fun y => by
      rw [← List.mem_append, List.take_append_drop]
    refine srt_eq ?_ (outs_srt _ _) fun y => ?_
    · rw [List.append_assoc, List.pairwise_append]
      refine ⟨hsr.sublist (List.take_sublist _ _), ?_, ?_⟩
      · rw [List.singleton_append, List.pairwise_cons]
        refine ⟨fun y hy => ?_, hsr.sublist (List.drop_sublist _ _)⟩
        have := s2 y hy
        have := hmem y ((hall y).1 (.inr hy))
        omega
      · intro y hy z hz
        rcases List.mem_cons.1 (by simpa using hz : z ∈ (x : Int) :: (outs f n).drop (posI (outs f n) x)) with rfl | hz
        · exact s1 y hy
        · have h1 := s1 y hy
          have h2 := s2 z hz
          omega
    · rw [mem_outs]
      have e : y ∈ (outs f n).take (posI (outs f n) x) ++ [(x : Int)] ++ (outs f n).drop (posI (outs f n) x) ↔ y ∈ outs f n ∨ y = x := by
        rw [List.mem_append, List.mem_append, List.mem_singleton]
        have := hall y
        constructor
        · rintro ((h1 | h1) | h1)
          · exact .inl (this.1 (.inl h1))
          · exact .inr h1
          · exact .inl (this.1 (.inr h1))
        · rintro (h1 | h1)
          · rcases this.2 h1 with h1 | h1
            · exact .inl (.inl h1)
            · exact .inr h1
          · exact .inl (.inr h1)
      rw [e, mem_outs]
      simp only [Bool.or_eq_true, decide_eq_true_eq]
      constructor
      · rintro (⟨h1, h2⟩ | rfl)
        · exact ⟨h1, .inl h2⟩
        · exact ⟨by omega, .inr (by omega)⟩
      · rintro ⟨h1, h2 | h2⟩
        · exact .inl ⟨h1, h2⟩
        · exact .inr (by omega)

theorem grNaN_w (a : Int) (h : AHeap) (Q : VQ) (hq : Q (.bool false) h) : W 50 [.int .i64 a] h Q := by
  refine AM.enter hp (fn := Try.f50) (rs := [.tmp 2]) (nt := 6) (by kernel_rfl) Try.func50 rfl rfl rfl (by kernel_rfl) ?_
  (first | (simp (maxSteps := 1000000) (disch := first | omega | (simp only [AM.DB, List.length_set, List.length_map]; first | done | omega)) only [AM.RB, Nat.reduceAdd, Nat.reduceMul, Nat.reduceEqDiff, reduceCtorEq, b50_GR2]) | skip); (repeat' (first | ((first | refine AM.guard_spl ?_ ?_ | refine AM.cond_spl ?_ ?_ | refine AM.guard_b ?_ ?_ | refine AM.cond_b ?_ ?_) <;> (intro hd hp_; simp (maxSteps := 1000000) (disch := first | omega | (simp only [AM.DB, List.length_set, List.length_map]; first | done | omega)) only [AM.RB, Nat.reduceAdd, Nat.reduceMul, Nat.reduceEqDiff, reduceCtorEq, b50_GR2, hd])) | ((first | refine AM.drawW_fine hp (by kernel_rfl) (by kernel_rfl) (by kernel_rfl) ?_ | refine AM.opW_tied (by kernel_rfl) ?_ | refine AM.opW_untied (by kernel_rfl) ?_ | refine AM.build_w ?_); simp (maxSteps := 1000000) (disch := first | omega | (simp only [AM.DB, List.length_set, List.length_map]; first | done | omega)) only [AM.RB, Nat.reduceAdd, Nat.reduceMul, Nat.reduceEqDiff, reduceCtorEq, b50_GR2])))
  exact hq
theorem grNaN2_w (a : Int) (h : AHeap) (Q : VQ) (hq : Q (.bool false) h) : W 56 [.int .i64 a] h Q := by
  refine AM.enter hp (fn := Try.f56) (rs := [.tmp 2]) (nt := 6) (by kernel_rfl) Try.func56 rfl rfl rfl (by kernel_rfl) ?_
  (first | (simp (maxSteps := 1000000) (disch := first | omega | (simp only [AM.DB, List.length_set, List.length_map]; first | done | omega)) only [AM.RB, Nat.reduceAdd, Nat.reduceMul, Nat.reduceEqDiff, reduceCtorEq, b56_GR2]) | skip); (repeat' (first | ((first | refine AM.guard_spl ?_ ?_ | refine AM.cond_spl ?_ ?_ | refine AM.guard_b ?_ ?_ | refine AM.cond_b ?_ ?_) <;> (intro hd hp_; simp (maxSteps := 1000000) (disch := first | omega | (simp only [AM.DB, List.length_set, List.length_map]; first | done | omega)) only [AM.RB, Nat.reduceAdd, Nat.reduceMul, Nat.reduceEqDiff, reduceCtorEq, b56_GR2, hd])) | ((first | refine AM.drawW_fine hp (by kernel_rfl) (by kernel_rfl) (by kernel_rfl) ?_ | refine AM.opW_tied (by kernel_rfl) ?_ | refine AM.opW_untied (by kernel_rfl) ?_ | refine AM.build_w ?_); simp (maxSteps := 1000000) (disch := first | omega | (simp only [AM.DB, List.length_set, List.length_map]; first | done | omega)) only [AM.RB, Nat.reduceAdd, Nat.reduceMul, Nat.reduceEqDiff, reduceCtorEq, b56_GR2])))
  exact hq
theorem grLess_w (a b : Int) (h : AHeap) (Q : VQ) (hq : Q (.bool (decide (a < b))) h) : W 49 [.int .i64 a, .int .i64 b] h Q := by
  refine AM.enter hp (fn := Try.f49) (rs := [.tmp 4]) (nt := 17) (by kernel_rfl) Try.func49 rfl rfl rfl (by kernel_rfl) ?_
  simp (maxSteps := 1000000) (disch := first | omega | (simp only [AM.DB, List.length_set, List.length_map]; first | done | omega)) only [AM.RB, Nat.reduceAdd, Nat.reduceMul, Nat.reduceEqDiff, reduceCtorEq, b49_GR2]
  refine grNaN2_w _ _ _ ?_
  (first | (simp (maxSteps := 1000000) (disch := first | omega | (simp only [AM.DB, List.length_set, List.length_map]; first | done | omega)) only [AM.RB, Nat.reduceAdd, Nat.reduceMul, Nat.reduceEqDiff, reduceCtorEq, b49_GR2]) | skip)
  exact hq
theorem posI_mem {l : List Int} {x : Int} (h : l.Pairwise (fun a b => a < b)) : (x ∈ l ↔ posI l x < l.length ∧ l.getD (posI l x) 0 = x) := by
  obtain ⟨h1, h2⟩ := posI_split (x := x) h
  have hle := posI_le l x
  constructor
  · intro hx
    obtain ⟨i, hi, e⟩ := List.mem_iff_getElem.1 hx
    have : i = posI l x := by
      rcases Nat.lt_trichotomy i (posI l x) with q | q | q
      · exfalso
        have : l[i] ∈ l.take (posI l x) := by
          rw [List.mem_take_iff_getElem]
          exact ⟨i, by omega, rfl⟩
        have := h1 _ this; omega
      · exact q
      · exfalso
        have hp : posI l x < l.length := by omega
        have h3 : l[posI l x] ∈ l.drop (posI l x) := by
          rw [List.mem_drop_iff_getElem]
          exact ⟨0, by omega, by simp⟩
        have h4 := h2 _ h3
        have h5 := List.pairwise_iff_getElem.1 h (posI l x) i hp hi q
        omega
    subst this
    exact ⟨hi, by simp [List.getD, hi, e]⟩
  · rintro ⟨h3, h4⟩
    rw [← h4]
    simp [List.getD, h3]
set_option maxHeartbeats 2000000 in
theorem bsearch_w {s : Value} {n : Nat} {l : List Int} {x : Int} {h : AHeap} (hs : Rd h 3 1 s n (l.map (.int .i64))) (hsr : l.Pairwise (fun a b => a < b)) (hn : n ≤ 4000000000) {Q : VQ} (hq : Q (.tuple #[.int .i64 (posI l x), .bool (decide (x ∈ l))]) h) : W 40 [s, .int .i64 x] h Q := by
  obtain ⟨a, cap, rfl⟩ := hs.form
  have hlen : l.length = n := by have := hs.length; rw [List.length_map] at this; omega
  refine AM.enter hp (fn := Try.f40) (rs := [.tmp 4, .tmp 5]) (nt := 54) (by kernel_rfl) Try.func40 rfl rfl rfl (by kernel_rfl) ?_
  simp (maxSteps := 1000000) (disch := first | omega | (simp only [AM.DB, List.length_set, List.length_map]; first | done | omega)) only [AM.RB, Nat.reduceAdd, Nat.reduceMul, Nat.reduceEqDiff, reduceCtorEq, b40_GR2]
  refine AM.loop_w hp 54 (fun q : Nat × Nat => [(0, .slice a n cap), (1, .int .i64 x), (6, .int .i64 n), (7, .int .i64 q.1), (8, .int .i64 q.2)])
    (fun q h' => h' = h ∧ q.1 ≤ q.2 ∧ q.2 ≤ n ∧ (∀ k, k < q.1 → l.getD k 0 < x) ∧ ∀ k, q.2 ≤ k → k < l.length → x ≤ l.getD k 0) (fun q => q.2 - q.1) (by kernel_rfl) (0, n) ?_ ?_ ?_
  · simp (maxSteps := 1000000) (disch := first | omega | (simp only [AM.DB, List.length_set, List.length_map]; first | done | omega)) only [AM.RB, Nat.reduceAdd, Nat.reduceMul, Nat.reduceEqDiff, reduceCtorEq, b40_GR2]
    first | rfl | skip
  · exact ⟨rfl, Nat.zero_le _, Nat.le_refl _, fun k hk => by simp only at hk; omega, fun k h1 h2 => by simp only at h1; omega⟩
  rintro ⟨lo, hi⟩ hh ρ ⟨rfl, h1, h2, h3, h4⟩
  simp only at h1 h2 h3 h4
  simp (maxSteps := 1000000) (disch := first | omega | (simp only [AM.DB, List.length_set, List.length_map]; first | done | omega)) only [AM.RB, Nat.reduceAdd, Nat.reduceMul, Nat.reduceEqDiff, reduceCtorEq, b40_GR2]
  refine AM.condV_split (fun hlt => ?_) (fun hlt => ?_)
  · have hlt' : lo < hi := by omega
    have w1 : IntKind.i64.wrap ((lo : Int) + hi) = lo + hi := AM.wrap_i64 (by omega) (by omega)
    have w2 : IntKind.u64.wrap ((lo : Int) + hi) = lo + hi := AM.wrap_u64 (by omega) (by omega)
    obtain ⟨m, hm⟩ : ∃ m : Nat, m = (lo + hi) / 2 := ⟨_, rfl⟩
    have e1 : IntKind.i64.wrap (((lo : Int) + hi).fdiv (2 ^ min (Int.toNat 1) IntKind.u64.bits)) = (m : Int) := by
      have e2 : ((lo : Int) + hi).fdiv (2 ^ min (Int.toNat 1) IntKind.u64.bits) = (m : Int) := by
        show ((lo : Int) + hi).fdiv 2 = m
        rw [Int.fdiv_eq_ediv_of_nonneg _ (by omega)]; omega
      rw [e2, AM.wrap_i64 (by omega) (by omega)]
    have hmr : lo ≤ m ∧ m < hi := by omega
    (first | (simp (maxSteps := 1000000) (disch := first | omega | (simp only [AM.DB, List.length_set, List.length_map]; first | done | omega)) only [AM.RB, Nat.reduceAdd, Nat.reduceMul, Nat.reduceEqDiff, reduceCtorEq, b40_GR2, w1, w2, AM.bin_shr, e1, hs.ia el_26, hs.ldi lk_3, Int.toNat_natCast]) | skip)
    refine grLess_w _ _ _ _ ?_
    (first | (simp (maxSteps := 1000000) (disch := first | omega | (simp only [AM.DB, List.length_set, List.length_map]; first | done | omega)) only [AM.RB, Nat.reduceAdd, Nat.reduceMul, Nat.reduceEqDiff, reduceCtorEq, b40_GR2]) | skip)
    refine AM.condV_split (fun hc => ?_) (fun hc => ?_)
    · (first | (simp (maxSteps := 1000000) (disch := first | omega | (simp only [AM.DB, List.length_set, List.length_map]; first | done | omega)) only [AM.RB, Nat.reduceAdd, Nat.reduceMul, Nat.reduceEqDiff, reduceCtorEq, b40_GR2, AM.wrap_i64]) | skip)
      refine ⟨(m + 1, hi), by simp only; omega, ?_, by simp only; omega, h2, fun k hk => ?_, h4⟩
      · simp (maxSteps := 1000000) (disch := first | omega | (simp only [AM.DB, List.length_set, List.length_map]; first | done | omega)) only [AM.RB, Nat.reduceAdd, Nat.reduceMul, Nat.reduceEqDiff, reduceCtorEq, b40_GR2]
        first | rfl | skip
      · simp only at hk
        by_cases e : k = m
        · subst e; exact hc
        · have hkm : k < m := by omega
          have h5 := List.pairwise_iff_getElem.1 hsr k m (by omega) (by omega) hkm
          have e3 : l.getD k 0 = l[k] := by simp [List.getD, show k < l.length by omega]
          have e4 : l.getD m 0 = l[m] := by simp [List.getD, show m < l.length by omega]
          rw [e4] at hc; rw [e3]; omega
    · (first | (simp (maxSteps := 1000000) (disch := first | omega | (simp only [AM.DB, List.length_set, List.length_map]; first | done | omega)) only [AM.RB, Nat.reduceAdd, Nat.reduceMul, Nat.reduceEqDiff, reduceCtorEq, b40_GR2]) | skip)
      refine ⟨(lo, m), by simp only; omega, ?_, by simp only; omega, by simp only; omega, h3, fun k hk1 hk2 => ?_⟩
      · simp (maxSteps := 1000000) (disch := first | omega | (simp only [AM.DB, List.length_set, List.length_map]; first | done | omega)) only [AM.RB, Nat.reduceAdd, Nat.reduceMul, Nat.reduceEqDiff, reduceCtorEq, b40_GR2]
        first | rfl | skip
      · simp only at hk1
        by_cases e : k = m
        · subst e; omega
        · have hkm : m < k := by omega
          have h5 := List.pairwise_iff_getElem.1 hsr m k (by omega) (by omega) hkm
          have e3 : l.getD k 0 = l[k] := by simp [List.getD, show k < l.length by omega]
          have e4 : l.getD m 0 = l[m] := by simp [List.getD, show m < l.length by omega]
          rw [e4] at hc; rw [e3]; omega
  · obtain rfl : lo = hi := by omega
    have hpos : posI l x = lo := posI_at l x lo (by omega) h3 h4
    have hmem := posI_mem (x := x) hsr
    rw [hpos] at hq hmem
    by_cases hl : lo < n
    · have dl : decide ((lo : Int) < n) = true := decide_eq_true (by omega)
      by_cases he : l.getD lo 0 = x
      · have de : decide (l.getD lo 0 = x) = true := decide_eq_true he
        rw [decide_eq_true (hmem.2 ⟨by omega, he⟩)] at hq
        (first | (simp (maxSteps := 1000000) (disch := first | omega | (simp only [AM.DB, List.length_set, List.length_map]; first | done | omega)) only [AM.RB, Nat.reduceAdd, Nat.reduceMul, Nat.reduceEqDiff, reduceCtorEq, b40_GR2, dl, hs.ia el_26, hs.ldi lk_3, Int.toNat_natCast, de]) | skip)
        exact hq
      · have de : decide (l.getD lo 0 = x) = false := decide_eq_false he
        rw [decide_eq_false (fun q => he (hmem.1 q).2)] at hq
        (first | (simp (maxSteps := 1000000) (disch := first | omega | (simp only [AM.DB, List.length_set, List.length_map]; first | done | omega)) only [AM.RB, Nat.reduceAdd, Nat.reduceMul, Nat.reduceEqDiff, reduceCtorEq, b40_GR2, dl, hs.ia el_26, hs.ldi lk_3, Int.toNat_natCast, de]) | skip)
        refine grNaN_w _ _ _ ?_
        (first | (simp (maxSteps := 1000000) (disch := first | omega | (simp only [AM.DB, List.length_set, List.length_map]; first | done | omega)) only [AM.RB, Nat.reduceAdd, Nat.reduceMul, Nat.reduceEqDiff, reduceCtorEq, b40_GR2]) | skip)
        exact hq
    · have dl : decide ((lo : Int) < n) = false := decide_eq_false (by omega)
      rw [decide_eq_false (fun q => hl (by have := (hmem.1 q).1; omega))] at hq
      (first | (simp (maxSteps := 1000000) (disch := first | omega | (simp only [AM.DB, List.length_set, List.length_map]; first | done | omega)) only [AM.RB, Nat.reduceAdd, Nat.reduceMul, Nat.reduceEqDiff, reduceCtorEq, b40_GR2, dl]) | skip)
      exact hq

theorem with_w {s : Value} {n : Nat} {l : List Int} {x : Int} {h : AHeap} (hs : Ow h 3 1 s n (l.map (.int .i64))) (hc : capPos s) (hsr : l.Pairwise (fun a b => a < b)) (hn : n ≤ 1000000) (hl : h.low ≤ h.next) {Q : VQ}
    (hq : ∀ v h', Ow h' 3 1 v (withL l x).length ((withL l x).map (.int .i64)) → capPos v → Fr (idOf s) h h' → (∀ id, idOf v id → idOf s id ∨ h.next ≤ id) → Q v h') : W 31 [s, .int .i64 x] h Q := by
  have hlen : l.length = n := by have := hs.length; rw [List.length_map] at this; omega
  obtain ⟨a, cap, rfl⟩ := hs.form
  refine AM.enter hp (fn := Try.f31) (rs := [.tmp 4]) (nt := 20) (by kernel_rfl) Try.func31 rfl rfl rfl (by kernel_rfl) ?_
  simp (maxSteps := 1000000) (disch := first | omega | (simp only [AM.DB, List.length_set, List.length_map]; first | done | omega)) only [AM.RB, Nat.reduceAdd, Nat.reduceMul, Nat.reduceEqDiff, reduceCtorEq, b31_GR2]
  refine bsearch_w hs.rd hsr (by omega) ?_
  by_cases hx : x ∈ l
  · have dx : decide (x ∈ l) = true := decide_eq_true hx
    (first | (simp (maxSteps := 1000000) (disch := first | omega | (simp only [AM.DB, List.length_set, List.length_map]; first | done | omega)) only [AM.RB, Nat.reduceAdd, Nat.reduceMul, Nat.reduceEqDiff, reduceCtorEq, b31_GR2, dx]) | skip)
    have e : withL l x = l := by unfold withL; rw [if_pos hx]
    rw [e, hlen] at hq
    exact hq _ h hs hc (Fr.refl _ _) (fun id q => .inl q)
  · have dx : decide (x ∈ l) = false := decide_eq_false hx
    have hple := posI_le l x
    (first | (simp (maxSteps := 1000000) (disch := first | omega | (simp only [AM.DB, List.length_set, List.length_map]; first | done | omega)) only [AM.RB, Nat.reduceAdd, Nat.reduceMul, Nat.reduceEqDiff, reduceCtorEq, b31_GR2, dx]) | skip)
    generalize hE_ : AHeap.alloc h _ = h1; obtain ⟨g1, fr1, n1, l1⟩ := AM.new_get hE_; clear hE_
    have hl1 := fr1.hl hl
    refine grIns_w (hs.fr0 fr1) hc (AM.Ow.whole (n := 1) g1 rfl (by omega)) (fun id q e => by have := hs.lt q; have e : id = h.next := e; omega) (by omega) hl1 hn fun v h2 o2 c2 fr2 hid2 => ?_
    (first | (simp (maxSteps := 1000000) (disch := first | omega | (simp only [AM.DB, List.length_set, List.length_map]; first | done | omega)) only [AM.RB, Nat.reduceAdd, Nat.reduceMul, Nat.reduceEqDiff, reduceCtorEq, b31_GR2]) | skip)
    have e : withL l x = l.take (posI l x) ++ [x] ++ l.drop (posI l x) := by unfold withL; rw [if_neg hx]
    have el : (withL l x).length = n + 1 := by rw [e]; simp; omega
    refine hq v h2 ?_ c2 ((fr1.weak).then fr2 fun _ _ q => q) (fun id q => (hid2 id q).imp (fun q => q) (fun q => by omega))
    rw [el, e]; exact o2
end Go.Proofs.Ytnkbdbopiancmaa

namespace Go.Proofs.Ytnkbdbopiancmaa
open Go.AM
set_option maxRecDepth 8000
theorem b19_GR3 : type_of% (And.intro (@AM.bdV_some) (And.intro (@bd_53) (And.intro (@AM.bin_gtr) (And.intro (@AM.bin_lss) (And.intro (@AM.boxK_agg) (And.intro (@AM.boxK_bool) (And.intro (@AM.boxK_func) (And.intro (@AM.boxK_int) (And.intro (@AM.boxK_map) (And.intro (@AM.boxK_pointer) (And.intro (@AM.boxK_slice) (And.intro (@AM.boxK_string) (And.intro (@AM.fillL_cons) (And.intro (@AM.fillL_nil) (And.intro (@AM.fillS_agg) (And.intro (@AM.fillS_bool) (And.intro (@AM.fillS_func) (And.intro (@AM.fillS_int) (And.intro (@AM.fillS_map) (And.intro (@AM.fillS_pointer) (And.intro (@AM.fillS_slice) (And.intro (@AM.fillS_string) (And.intro (AM.mkW_int mk_51) (And.intro (@AM.op_binOp) (And.intro (@AM.op_box) (And.intro (@AM.op_build) (And.intro (@AM.op_makeSlice) (@AM.resL_two)))))))))))))))))))))))))))) := And.intro (@AM.bdV_some) (And.intro (@bd_53) (And.intro (@AM.bin_gtr) (And.intro (@AM.bin_lss) (And.intro (@AM.boxK_agg) (And.intro (@AM.boxK_bool) (And.intro (@AM.boxK_func) (And.intro (@AM.boxK_int) (And.intro (@AM.boxK_map) (And.intro (@AM.boxK_pointer) (And.intro (@AM.boxK_slice) (And.intro (@AM.boxK_string) (And.intro (@AM.fillL_cons) (And.intro (@AM.fillL_nil) (And.intro (@AM.fillS_agg) (And.intro (@AM.fillS_bool) (And.intro (@AM.fillS_func) (And.intro (@AM.fillS_int) (And.intro (@AM.fillS_map) (And.intro (@AM.fillS_pointer) (And.intro (@AM.fillS_slice) (And.intro (@AM.fillS_string) (And.intro (AM.mkW_int mk_51) (And.intro (@AM.op_binOp) (And.intro (@AM.op_box) (And.intro (@AM.op_build) (And.intro (@AM.op_makeSlice) (@AM.resL_two)))))))))))))))))))))))))))
theorem b25_GR3 : type_of% (And.intro (@Option.isNone_none.{0}) (And.intro (@Option.isNone_some.{0}) (And.intro (AM.bin_pnil ul_24) (And.intro (@AM.fa_ptr) (And.intro (@fd_53_0) (And.intro (@AM.ldO_agg) (And.intro (@AM.ldO_one) (And.intro (@AM.ld_ptr) (And.intro (AM.len_slice ul_51) (And.intro (@lk_51) (And.intro (@AM.op_binOp) (And.intro (@AM.op_fieldAddr) (And.intro (@AM.op_len) (And.intro (@AM.op_load) (@AM.op_nilCheck))))))))))))))) := And.intro (@Option.isNone_none.{0}) (And.intro (@Option.isNone_some.{0}) (And.intro (AM.bin_pnil ul_24) (And.intro (@AM.fa_ptr) (And.intro (@fd_53_0) (And.intro (@AM.ldO_agg) (And.intro (@AM.ldO_one) (And.intro (@AM.ld_ptr) (And.intro (AM.len_slice ul_51) (And.intro (@lk_51) (And.intro (@AM.op_binOp) (And.intro (@AM.op_fieldAddr) (And.intro (@AM.op_len) (And.intro (@AM.op_load) (@AM.op_nilCheck))))))))))))))
theorem b29_GR3 : type_of% (And.intro (@AM.bin_geq) (And.intro (@AM.bin_lss) (And.intro (@AM.op_binOp) (@AM.op_call)))) := And.intro (@AM.bin_geq) (And.intro (@AM.bin_lss) (And.intro (@AM.op_binOp) (@AM.op_call)))
theorem b18_GR3 : type_of% (And.intro (@AM.ex_tuple) (And.intro (@AM.fa_ptr) (And.intro (@fd_53_0) (And.intro (@AM.iaO_ok) (And.intro (AM.ia_slice el_51) (And.intro (@AM.ldO_agg) (And.intro (@AM.ldO_one) (And.intro (@AM.ld_ptr) (And.intro (@lk_26) (And.intro (@lk_51) (And.intro (@AM.op_call) (And.intro (@AM.op_extract) (And.intro (@AM.op_fieldAddr) (And.intro (@AM.op_indexAddr) (And.intro (@AM.op_load) (And.intro (@AM.op_nilCheck) (And.intro (@AM.op_unOp) (And.intro (@AM.un_neg) (@AM.un_not))))))))))))))))))) := And.intro (@AM.ex_tuple) (And.intro (@AM.fa_ptr) (And.intro (@fd_53_0) (And.intro (@AM.iaO_ok) (And.intro (AM.ia_slice el_51) (And.intro (@AM.ldO_agg) (And.intro (@AM.ldO_one) (And.intro (@AM.ld_ptr) (And.intro (@lk_26) (And.intro (@lk_51) (And.intro (@AM.op_call) (And.intro (@AM.op_extract) (And.intro (@AM.op_fieldAddr) (And.intro (@AM.op_indexAddr) (And.intro (@AM.op_load) (And.intro (@AM.op_nilCheck) (And.intro (@AM.op_unOp) (And.intro (@AM.un_neg) (@AM.un_not))))))))))))))))))
theorem b30_GR3 : type_of% (And.intro (@Option.isNone_none.{0}) (And.intro (@Option.isNone_some.{0}) (And.intro (AM.bin_snil ul_26) (And.intro (AM.bsW_int bs_26) (And.intro (AM.bsW_nil bs_26) (And.intro (AM.bsW_slice bs_26) (And.intro (AM.bsW_string bs_26) (And.intro (@AM.op_append) (And.intro (@AM.op_binOp) (@AM.op_buildSlice)))))))))) := And.intro (@Option.isNone_none.{0}) (And.intro (@Option.isNone_some.{0}) (And.intro (AM.bin_snil ul_26) (And.intro (AM.bsW_int bs_26) (And.intro (AM.bsW_nil bs_26) (And.intro (AM.bsW_slice bs_26) (And.intro (AM.bsW_string bs_26) (And.intro (@AM.op_append) (And.intro (@AM.op_binOp) (@AM.op_buildSlice)))))))))
theorem b10_GR3 : type_of% (And.intro (@AM.fa_ptr) (And.intro (@fd_53_0) (And.intro (@AM.iaO_ok) (And.intro (AM.ia_slice el_51) (And.intro (@AM.ldO_agg) (And.intro (@AM.ldO_one) (And.intro (@AM.ld_ptr) (And.intro (@lk_26) (And.intro (@lk_51) (And.intro (@AM.op_call) (And.intro (@AM.op_fieldAddr) (And.intro (@AM.op_indexAddr) (And.intro (@AM.op_load) (And.intro (@AM.op_nilCheck) (And.intro (@AM.op_unOp) (And.intro (@AM.un_neg) (@AM.un_not))))))))))))))))) := And.intro (@AM.fa_ptr) (And.intro (@fd_53_0) (And.intro (@AM.iaO_ok) (And.intro (AM.ia_slice el_51) (And.intro (@AM.ldO_agg) (And.intro (@AM.ldO_one) (And.intro (@AM.ld_ptr) (And.intro (@lk_26) (And.intro (@lk_51) (And.intro (@AM.op_call) (And.intro (@AM.op_fieldAddr) (And.intro (@AM.op_indexAddr) (And.intro (@AM.op_load) (And.intro (@AM.op_nilCheck) (And.intro (@AM.op_unOp) (And.intro (@AM.un_neg) (@AM.un_not))))))))))))))))


/-! ### A graph in memory -/
def rowsE (n : Nat) (E : Nat → Nat → Bool) (j : Nat) : List Int := if j < n then outs (E j) n else outs (fun a => E a (j - n)) n
theorem rowsE_srt (n : Nat) (E : Nat → Nat → Bool) (j : Nat) : (rowsE n E j).Pairwise (fun a b => a < b) := by unfold rowsE; split <;> exact outs_srt _ _
theorem rowsE_len (n : Nat) (E : Nat → Nat → Bool) (j : Nat) : (rowsE n E j).length ≤ n := by unfold rowsE; split <;> exact outs_len _ _
abbrev slT (id n : Nat) : Value := .slice (some ⟨id, 0, none⟩) n n
structure GtX (h : AHeap) (p n : Nat) (E : Nat → Nat → Bool) (S : Nat → Prop) (nid bid : Nat) (X : Nat → Value) : Prop where
  g : h.get p = some (.cells [slT nid n, slT bid n] 53 false)
  low : h.low ≤ p
  bk : Bk h n nid bid X (rowsE n E)
  cp : ∀ j, j < 2 * n → capPos (X j)
  np : p ≠ nid ∧ p ≠ bid
  nx : ∀ j, j < 2 * n → ¬ idOf (X j) p
  sp : S p ∧ S nid ∧ S bid
  sx : ∀ j, j < 2 * n → ∀ id, idOf (X j) id → S id
  lt : ∀ id, S id → id < h.next
/-- A graph of n nodes with the edges E; it owns S. -/
def Gt (h : AHeap) (p n : Nat) (E : Nat → Nat → Bool) (S : Nat → Prop) : Prop := ∃ nid bid X, GtX h p n E S nid bid X
theorem Gt.lt {h : AHeap} {p n : Nat} {E : Nat → Nat → Bool} {S : Nat → Prop} (x : Gt h p n E S) {id : Nat} (hi : S id) : id < h.next := by obtain ⟨_, _, _, x⟩ := x; exact x.lt id hi
theorem Gt.same {h h' : AHeap} {p n : Nat} {E : Nat → Nat → Bool} {S : Nat → Prop} (x : Gt h p n E S) (hh : ∀ id, S id → h'.get id = h.get id) (hn : h.next ≤ h'.next) (hl : h'.low = h.low) : Gt h' p n E S := by
  obtain ⟨nid, bid, X, x⟩ := x
  refine ⟨nid, bid, X, by rw [hh _ x.sp.1]; exact x.g, by rw [hl]; exact x.low, x.bk.same ?_ hl, x.cp, x.np, x.nx, x.sp, x.sx, fun id i => Nat.lt_of_lt_of_le (x.lt id i) hn⟩
  rintro id (rfl | rfl | ⟨j, hj, i⟩)
  · exact hh _ x.sp.2.1
  · exact hh _ x.sp.2.2
  · exact hh _ (x.sx j hj id i)
theorem Gt.fr {T : Nat → Prop} {h h' : AHeap} {p n : Nat} {E : Nat → Nat → Bool} {S : Nat → Prop} (x : Gt h p n E S) (fr : Fr T h h') (hT : ∀ id, S id → ¬ T id) : Gt h' p n E S :=
  x.same (fun id i => fr.old id (x.lt i) (hT id i)) fr.next fr.low
theorem Gt.fr0 {h h' : AHeap} {p n : Nat} {E : Nat → Nat → Bool} {S : Nat → Prop} (x : Gt h p n E S) (fr : Fr none' h h') : Gt h' p n E S := x.fr fr fun _ _ q => q
theorem Gt.congr {h : AHeap} {p n : Nat} {E F : Nat → Nat → Bool} {S : Nat → Prop} (x : Gt h p n E S) (hE : ∀ a b, a < n → b < n → E a b = F a b) : Gt h p n F S := by
  obtain ⟨nid, bid, X, x⟩ := x
  have e : ∀ j, j < 2 * n → rowsE n E j = rowsE n F j := fun j hj => by
    unfold rowsE
    split
    · rename_i h; unfold outs; congr 1
      exact List.filter_congr fun k hk => hE _ _ h (List.mem_range.1 hk)
    · rename_i h; unfold outs; congr 1
      exact List.filter_congr fun k hk => hE _ _ (List.mem_range.1 hk) (by omega)
  exact ⟨nid, bid, X, x.g, x.low, ⟨x.bk.g1, x.bk.g2, fun j hj => by rw [← e j hj]; exact x.bk.ow j hj, x.bk.dj, x.bk.ne, x.bk.nb, x.bk.low⟩, x.cp, x.np, x.nx, x.sp, x.sx, x.lt⟩

theorem rep_nil (m : Nat) : AM.repeated [Value.slice none 0 0] m = List.replicate m (Value.slice none 0 0) := by
  induction m with
  | zero => rfl
  | succ m ih => rw [AM.repeated, ih, List.replicate_succ]; rfl
theorem outs_no (n : Nat) : outs (fun _ => false) n = [] := by unfold outs; rw [List.filter_eq_nil_iff.2 (by simp)]; rfl
theorem grNew_w {h : AHeap} {n : Int} (hl : h.low ≤ h.next) {Q : VQ} (hbad : ¬ (0 ≤ n ∧ n ≤ 1024) → Q (.tuple #[.pointer none, .int .i64 20]) h)
    (hgood : 0 ≤ n ∧ n ≤ 1024 → ∀ h' p S, Gt h' p n.toNat (fun _ _ => false) S → Fr none' h h' → (∀ id, S id → h.next ≤ id) → Q (.tuple #[pv p, .int .i64 0]) h') : W 19 [.int .i64 n] h Q := by
  refine AM.enter hp (fn := Try.f19) (rs := [.tmp 2, .tmp 3]) (nt := 16) (by kernel_rfl) Try.func19 rfl rfl rfl (by kernel_rfl) ?_
  by_cases n0 : n < 0
  · have d0 : decide (n < 0) = true := decide_eq_true n0
    (repeat' (first | (simp (maxSteps := 1000000) (disch := first | omega | (simp only [AM.DB, List.length_set, List.length_map]; first | done | omega)) only [AM.RB, Nat.reduceAdd, Nat.reduceMul, Nat.reduceEqDiff, reduceCtorEq, b19_GR3, d0]) | refine AM.drawW_fine hp (by kernel_rfl) (by kernel_rfl) (by kernel_rfl) ?_ | refine AM.opW_tied (by kernel_rfl) ?_ | refine AM.opW_untied (by kernel_rfl) ?_ | refine AM.build_w ?_))
    exact hbad (by omega)
  have d0 : decide (n < 0) = false := decide_eq_false n0
  by_cases n1 : 1024 < n
  · have d1 : decide (1024 < n) = true := decide_eq_true n1
    (repeat' (first | (simp (maxSteps := 1000000) (disch := first | omega | (simp only [AM.DB, List.length_set, List.length_map]; first | done | omega)) only [AM.RB, Nat.reduceAdd, Nat.reduceMul, Nat.reduceEqDiff, reduceCtorEq, b19_GR3, d0, d1]) | refine AM.drawW_fine hp (by kernel_rfl) (by kernel_rfl) (by kernel_rfl) ?_ | refine AM.opW_tied (by kernel_rfl) ?_ | refine AM.opW_untied (by kernel_rfl) ?_ | refine AM.build_w ?_))
    exact hbad (by omega)
  have d1 : decide (1024 < n) = false := decide_eq_false n1
  obtain ⟨m, rfl⟩ := Int.eq_ofNat_of_zero_le (show 0 ≤ n by omega)
  have t1 : ((m : Nat) : Int).toNat = m := Int.toNat_natCast m
  rw [t1] at hgood
  (repeat' (first | (simp (maxSteps := 1000000) (disch := first | omega | (simp only [AM.DB, List.length_set, List.length_map]; first | done | omega)) only [AM.RB, Nat.reduceAdd, Nat.reduceMul, Nat.reduceEqDiff, reduceCtorEq, b19_GR3, d0, d1, t1, rep_nil]) | refine AM.drawW_fine hp (by kernel_rfl) (by kernel_rfl) (by kernel_rfl) ?_ | refine AM.opW_tied (by kernel_rfl) ?_ | refine AM.opW_untied (by kernel_rfl) ?_ | refine AM.build_w ?_))
  generalize hE_ : AHeap.alloc (AHeap.alloc (AHeap.alloc h _) _) _ = h3
  have g1 : h3.get h.next = some (.cells (List.replicate m (.slice none 0 0)) 26 false) := by rw [← hE_, AM.get_alloc_ne (by simp; omega), AM.get_alloc_ne (by simp), AM.get_alloc_self rfl]
  have g2 : h3.get (h.next + 1) = some (.cells (List.replicate m (.slice none 0 0)) 26 false) := by rw [← hE_, AM.get_alloc_ne (by simp), AM.get_alloc_self (by simp)]
  have g3 : h3.get (h.next + 2) = some (.cells [slT h.next m, slT (h.next + 1) m] 53 false) := by rw [← hE_, AM.get_alloc_self (by simp)]
  have fr3 : Fr none' h h3 := by rw [← hE_]; exact (((Fr.refl _ _).alloc _).alloc _).alloc _
  have n3 : h3.next = h.next + 3 := by rw [← hE_]; rfl
  have l3 : h3.low = h.low := by rw [← hE_]; rfl
  clear hE_
  have er : ∀ f : Nat → Value, (∀ j, f j = .slice none 0 0) → (List.range m).map f = List.replicate m (.slice none 0 0) := fun f hf => by
    refine List.ext_getElem (by simp) fun i h1 h2 => by simp [hf]
  refine hgood (by omega) h3 (h.next + 2) (fun id => id = h.next ∨ id = h.next + 1 ∨ id = h.next + 2) ⟨h.next, h.next + 1, fun _ => .slice none 0 0, g3, by omega, ⟨by rw [er _ fun _ => rfl]; exact g1, by rw [er _ fun _ => rfl]; exact g2, fun j hj => ?_, fun i j _ _ _ id q => q.elim, fun j _ id q => q.elim, by omega, by omega⟩, fun j _ => trivial, by omega, fun j _ q => q.elim, ⟨.inr (.inr rfl), .inl rfl, .inr (.inl rfl)⟩, fun j _ id q => q.elim, fun id q => by omega⟩ fr3 (fun id q => by omega)
  have : rowsE m (fun _ _ => false) j = [] := by unfold rowsE; split <;> exact outs_no m
  rw [this]; exact Ow.nil _ _ _

theorem grLen_w {h : AHeap} {p n : Nat} {E : Nat → Nat → Bool} {S : Nat → Prop} (x : Gt h p n E S) {Q : VQ} (hq : Q (.int .i64 n) h) : W 25 [pv p] h Q := by
  obtain ⟨nid, bid, X, x⟩ := x
  have g := x.g
  refine AM.enter hp (fn := Try.f25) (rs := [.tmp 2]) (nt := 10) (by kernel_rfl) Try.func25 rfl rfl rfl (by kernel_rfl) ?_
  (first | (simp (maxSteps := 1000000) (disch := first | omega | (simp only [AM.DB, List.length_set, List.length_map]; first | done | omega)) only [AM.RB, Nat.reduceAdd, Nat.reduceMul, Nat.reduceEqDiff, reduceCtorEq, b25_GR3, g]) | skip)
  exact hq
theorem grNode_w {h : AHeap} {p n : Nat} {E : Nat → Nat → Bool} {S : Nat → Prop} (x : Gt h p n E S) (a : Int) {Q : VQ} (hq : Q (.bool (decide (0 ≤ a ∧ a < n))) h) : W 29 [pv p, .int .i64 a] h Q := by
  refine AM.enter hp (fn := Try.f29) (rs := [.tmp 4]) (nt := 13) (by kernel_rfl) Try.func29 rfl rfl rfl (by kernel_rfl) ?_
  by_cases a0 : 0 ≤ a
  · have d0 : decide (0 ≤ a) = true := decide_eq_true a0
    (first | (simp (maxSteps := 1000000) (disch := first | omega | (simp only [AM.DB, List.length_set, List.length_map]; first | done | omega)) only [AM.RB, Nat.reduceAdd, Nat.reduceMul, Nat.reduceEqDiff, reduceCtorEq, b29_GR3, d0]) | skip)
    refine grLen_w x ?_
    (first | (simp (maxSteps := 1000000) (disch := first | omega | (simp only [AM.DB, List.length_set, List.length_map]; first | done | omega)) only [AM.RB, Nat.reduceAdd, Nat.reduceMul, Nat.reduceEqDiff, reduceCtorEq, b29_GR3]) | skip)
    have e : decide (0 ≤ a ∧ a < n) = decide (a < n) := by simp [a0]
    rw [e] at hq
    exact hq
  · have d0 : decide (0 ≤ a) = false := decide_eq_false a0
    rw [decide_eq_false (fun q => a0 q.1)] at hq
    (first | (simp (maxSteps := 1000000) (disch := first | omega | (simp only [AM.DB, List.length_set, List.length_map]; first | done | omega)) only [AM.RB, Nat.reduceAdd, Nat.reduceMul, Nat.reduceEqDiff, reduceCtorEq, b29_GR3, d0]) | skip)
    exact hq

def eI (n : Nat) (E : Nat → Nat → Bool) (a b : Int) : Bool := decide ((0 ≤ a ∧ a < n) ∧ 0 ≤ b ∧ b < n) && E a.toNat b.toNat
theorem mem_row {n : Nat} {E : Nat → Nat → Bool} {a : Nat} (ha : a < n) {b : Int} : decide (b ∈ outs (E a) n) = eI n E a b := by
  unfold eI
  rw [Int.toNat_natCast]
  by_cases hb : 0 ≤ b ∧ b < n
  · have : decide ((0 ≤ (a : Int) ∧ (a : Int) < n) ∧ 0 ≤ b ∧ b < n) = true := decide_eq_true ⟨by omega, hb⟩
    rw [this, Bool.true_and]
    cases he : E a b.toNat with
    | true => exact decide_eq_true (mem_outs.2 ⟨hb, he⟩)
    | false => exact decide_eq_false fun q => by have := (mem_outs.1 q).2; rw [he] at this; cases this
  · have : decide ((0 ≤ (a : Int) ∧ (a : Int) < n) ∧ 0 ≤ b ∧ b < n) = false := decide_eq_false fun q => hb q.2
    rw [this, Bool.false_and]
    exact decide_eq_false fun q => hb (mem_outs.1 q).1

theorem grHas_w {h : AHeap} {p n : Nat} {E : Nat → Nat → Bool} {S : Nat → Prop} (x : Gt h p n E S) (hn : n ≤ 1024) (a b : Int) {Q : VQ} (hq : Q (.bool (eI n E a b)) h) : W 18 [pv p, .int .i64 a, .int .i64 b] h Q := by
  refine AM.enter hp (fn := Try.f18) (rs := [.tmp 6]) (nt := 26) (by kernel_rfl) Try.func18 rfl rfl rfl (by kernel_rfl) ?_
  simp (maxSteps := 1000000) (disch := first | omega | (simp only [AM.DB, List.length_set, List.length_map]; first | done | omega)) only [AM.RB, Nat.reduceAdd, Nat.reduceMul, Nat.reduceEqDiff, reduceCtorEq, b18_GR3]
  refine grNode_w x a ?_
  by_cases ha : 0 ≤ a ∧ a < n
  · have d0 : decide (0 ≤ a ∧ a < n) = true := decide_eq_true ha
    obtain ⟨k, rfl⟩ := Int.eq_ofNat_of_zero_le ha.1
    have hk : k < n := by omega
    obtain ⟨nid, bid, X, x⟩ := x
    have g := x.g
    have gn := x.bk.g1
    have hxa : ((List.range n).map X)[k]? = some (X k) := by rw [List.getElem?_map, List.getElem?_range hk]; rfl
    (first | (simp (maxSteps := 1000000) (disch := first | omega | (simp only [AM.DB, List.length_set, List.length_map]; first | done | omega)) only [AM.RB, Nat.reduceAdd, Nat.reduceMul, Nat.reduceEqDiff, reduceCtorEq, b18_GR3, d0, g, gn, hxa, Nat.mul_one, Nat.zero_add, Int.toNat_natCast]) | skip)
    have ow := x.bk.ow k (by omega)
    have er : rowsE n E k = outs (E k) n := by unfold rowsE; rw [if_pos hk]
    rw [er] at ow
    refine bsearch_w ow.rd (outs_srt _ _) (by have := outs_len (E k) n; omega) ?_
    rw [mem_row hk]
    (first | (simp (maxSteps := 1000000) (disch := first | omega | (simp only [AM.DB, List.length_set, List.length_map]; first | done | omega)) only [AM.RB, Nat.reduceAdd, Nat.reduceMul, Nat.reduceEqDiff, reduceCtorEq, b18_GR3]) | skip)
    exact hq
  · have d0 : decide (0 ≤ a ∧ a < n) = false := decide_eq_false ha
    (first | (simp (maxSteps := 1000000) (disch := first | omega | (simp only [AM.DB, List.length_set, List.length_map]; first | done | omega)) only [AM.RB, Nat.reduceAdd, Nat.reduceMul, Nat.reduceEqDiff, reduceCtorEq, b18_GR3, d0]) | skip)
    have : eI n E a b = false := by unfold eI; rw [decide_eq_false (fun q => ha q.1), Bool.false_and]
    rw [this] at hq
    exact hq

def outsI (n : Nat) (E : Nat → Nat → Bool) (a : Int) : List Int := if 0 ≤ a ∧ a < n then outs (E a.toNat) n else []
theorem grClone_w {s : Value} {n : Nat} {cs : List Value} {h : AHeap} (hs : Rd h 3 1 s n cs) (hc : cs.all (·.oneCell') = true) (hn : n ≤ 4000000000) (hl : h.low ≤ h.next) {Q : VQ}
    (hq : ∀ v h', Ow h' 3 1 v n cs → Fr none' h h' → (∀ id, idOf v id → h.next ≤ id) → Q v h') : W 30 [s] h Q := by
  obtain ⟨a, cap, rfl⟩ := hs.form
  refine AM.enter hp (fn := Try.f30) (rs := [.tmp 2]) (nt := 8) (by kernel_rfl) Try.func30 rfl rfl rfl (by kernel_rfl) ?_
  simp (maxSteps := 1000000) (disch := first | omega | (simp only [AM.DB, List.length_set, List.length_map]; first | done | omega)) only [AM.RB, Nat.reduceAdd, Nat.reduceMul, Nat.reduceEqDiff, reduceCtorEq, b30_GR3]
  cases a with
  | none =>
    simp (maxSteps := 1000000) (disch := first | omega | (simp only [AM.DB, List.length_set, List.length_map]; first | done | omega)) only [AM.RB, Nat.reduceAdd, Nat.reduceMul, Nat.reduceEqDiff, reduceCtorEq, b30_GR3, Option.isNone_none]
    rcases hs with ⟨e, rfl, rfl⟩ | ⟨id, off, cap', c, e', o, e, _⟩
    · exact hq _ _ (Ow.nil _ _ _) (Fr.refl _ _) (fun _ q => q.elim)
    · cases e
  | some a =>
    simp (maxSteps := 1000000) (disch := first | omega | (simp only [AM.DB, List.length_set, List.length_map]; first | done | omega)) only [AM.RB, Nat.reduceAdd, Nat.reduceMul, Nat.reduceEqDiff, reduceCtorEq, b30_GR3, Option.isNone_some]
    have fr0 : Fr none' h (h.alloc (.cells [] 3 false)) := (Fr.refl _ _).alloc _
    have ow0 : Ow (h.alloc (.cells [] 3 false)) 3 1 (.slice (some ⟨h.next, 0, none⟩) 0 0) 0 [] := AM.Ow.whole (n := 0) (AM.get_alloc_self rfl) rfl hl
    have hl1 : (h.alloc (.cells [] 3 false)).low ≤ (h.alloc (.cells [] 3 false)).next := by simp only [AHeap.next_alloc, AHeap.low_alloc]; omega
    refine AM.appends_w ap_26 ap_26 ow0 (hs.fr0 fr0) hc hl1 (AM.fits (by omega) (by omega)) (AM.fits' (by omega)) ?_
    intro v h' how fr hid
    simp (maxSteps := 1000000) (disch := first | omega | (simp only [AM.DB, List.length_set, List.length_map]; first | done | omega)) only [AM.RB, Nat.reduceAdd, Nat.reduceMul, Nat.reduceEqDiff, reduceCtorEq, b30_GR3]
    rw [Nat.zero_add] at how
    refine hq _ _ how (fr0.then fr fun id h1 h2 => ?_) (fun id q => ?_)
    · have : id = h.next := h2
      omega
    · rcases hid id q with h2 | h2
      · have : id = h.next := h2
        omega
      · have : h.next + 1 ≤ id := h2
        omega
theorem grOut_w {h : AHeap} {p n : Nat} {E : Nat → Nat → Bool} {S : Nat → Prop} (x : Gt h p n E S) (hn : n ≤ 1024) (hl : h.low ≤ h.next) (a : Int) {Q : VQ}
    (hq : ∀ v h', Ow h' 3 1 v (outsI n E a).length ((outsI n E a).map (.int .i64)) → Fr none' h h' → (∀ id, idOf v id → h.next ≤ id) → Q v h') : W 10 [pv p, .int .i64 a] h Q := by
  refine AM.enter hp (fn := Try.f10) (rs := [.tmp 4]) (nt := 17) (by kernel_rfl) Try.func10 rfl rfl rfl (by kernel_rfl) ?_
  simp (maxSteps := 1000000) (disch := first | omega | (simp only [AM.DB, List.length_set, List.length_map]; first | done | omega)) only [AM.RB, Nat.reduceAdd, Nat.reduceMul, Nat.reduceEqDiff, reduceCtorEq, b10_GR3]
  refine grNode_w x a ?_
  by_cases ha : 0 ≤ a ∧ a < n
  · have d0 : decide (0 ≤ a ∧ a < n) = true := decide_eq_true ha
    obtain ⟨k, rfl⟩ := Int.eq_ofNat_of_zero_le ha.1
    have hk : k < n := by omega
    obtain ⟨nid, bid, X, x⟩ := x
    have g := x.g
    have gn := x.bk.g1
    have hxa : ((List.range n).map X)[k]? = some (X k) := by rw [List.getElem?_map, List.getElem?_range hk]; rfl
    have ow := x.bk.ow k (by omega)
    have er : rowsE n E k = outsI n E k := by unfold rowsE outsI; rw [if_pos hk, if_pos ha, Int.toNat_natCast]
    have hlen := rowsE_len n E k
    (first | (simp (maxSteps := 1000000) (disch := first | omega | (simp only [AM.DB, List.length_set, List.length_map]; first | done | omega)) only [AM.RB, Nat.reduceAdd, Nat.reduceMul, Nat.reduceEqDiff, reduceCtorEq, b10_GR3, d0, g, gn, hxa, Nat.mul_one, Nat.zero_add, Int.toNat_natCast]) | skip)
    refine grClone_w ow.rd (AM.ints_one _ _) (by omega) hl fun v h2 o2 fr2 hid2 => ?_
    (first | (simp (maxSteps := 1000000) (disch := first | omega | (simp only [AM.DB, List.length_set, List.length_map]; first | done | omega)) only [AM.RB, Nat.reduceAdd, Nat.reduceMul, Nat.reduceEqDiff, reduceCtorEq, b10_GR3]) | skip)
    rw [er] at o2
    exact hq _ _ o2 fr2 hid2
  · have d0 : decide (0 ≤ a ∧ a < n) = false := decide_eq_false ha
    (first | (simp (maxSteps := 1000000) (disch := first | omega | (simp only [AM.DB, List.length_set, List.length_map]; first | done | omega)) only [AM.RB, Nat.reduceAdd, Nat.reduceMul, Nat.reduceEqDiff, reduceCtorEq, b10_GR3, d0]) | skip)
    have : outsI n E a = [] := by unfold outsI; rw [if_neg ha]
    rw [this] at hq
    exact hq _ h (Ow.nil _ _ _) (Fr.refl _ _) (fun _ q => q.elim)
end Go.Proofs.Ytnkbdbopiancmaa

namespace Go.Proofs.Ytnkbdbopiancmaa
open Go.AM
set_option maxRecDepth 8000
theorem b11_GR4 : type_of% (And.intro (@AM.bin_eql) (And.intro (@AM.fa_ptr) (And.intro (@fd_53_0) (And.intro (@fd_53_1) (And.intro (@AM.iaO_ok) (And.intro (AM.ia_slice el_51) (And.intro (@AM.ldO_agg) (And.intro (@AM.ldO_one) (And.intro (@AM.ld_ptr) (And.intro (@lk_26) (And.intro (@lk_51) (And.intro (@AM.op_binOp) (And.intro (@AM.op_call) (And.intro (@AM.op_fieldAddr) (And.intro (@AM.op_indexAddr) (And.intro (@AM.op_load) (And.intro (@AM.op_nilCheck) (And.intro (@AM.op_store) (And.intro (@AM.op_unOp) (And.intro (@AM.stO_agg) (And.intro (@AM.stO_bool) (And.intro (@AM.stO_int) (And.intro (@AM.stO_map) (And.intro (@AM.stO_pointer) (And.intro (@AM.stO_slice) (And.intro (@AM.stO_string) (And.intro (@AM.st_ptr) (And.intro (@sz_26) (And.intro (@AM.un_neg) (@AM.un_not)))))))))))))))))))))))))))))) := And.intro (@AM.bin_eql) (And.intro (@AM.fa_ptr) (And.intro (@fd_53_0) (And.intro (@fd_53_1) (And.intro (@AM.iaO_ok) (And.intro (AM.ia_slice el_51) (And.intro (@AM.ldO_agg) (And.intro (@AM.ldO_one) (And.intro (@AM.ld_ptr) (And.intro (@lk_26) (And.intro (@lk_51) (And.intro (@AM.op_binOp) (And.intro (@AM.op_call) (And.intro (@AM.op_fieldAddr) (And.intro (@AM.op_indexAddr) (And.intro (@AM.op_load) (And.intro (@AM.op_nilCheck) (And.intro (@AM.op_store) (And.intro (@AM.op_unOp) (And.intro (@AM.stO_agg) (And.intro (@AM.stO_bool) (And.intro (@AM.stO_int) (And.intro (@AM.stO_map) (And.intro (@AM.stO_pointer) (And.intro (@AM.stO_slice) (And.intro (@AM.stO_string) (And.intro (@AM.st_ptr) (And.intro (@sz_26) (And.intro (@AM.un_neg) (@AM.un_not)))))))))))))))))))))))))))))


def okAdd (n : Nat) (a b : Int) : Bool := decide ((0 ≤ a ∧ a < n) ∧ (0 ≤ b ∧ b < n) ∧ a ≠ b)
/-- The edges with one more. -/
def addE (n : Nat) (E : Nat → Nat → Bool) (a b : Int) : Nat → Nat → Bool := fun i j => E i j || (okAdd n a b && decide (i = a.toNat) && decide (j = b.toNat))
theorem rows_add {n : Nat} {E : Nat → Nat → Bool} {i j : Nat} (hi : i < n) (hj : j < n) (hok : okAdd n i j = true) :
    upd (upd (rowsE n E) i (withL (rowsE n E i) j)) (n + j) (withL (rowsE n E (n + j)) i) = rowsE n (addE n E i j) := by
  funext k
  unfold upd
  have ti : ((i : Nat) : Int).toNat = i := Int.toNat_natCast i
  have tj : ((j : Nat) : Int).toNat = j := Int.toNat_natCast j
  by_cases e1 : k = n + j
  · subst e1
    rw [if_pos rfl]
    unfold rowsE
    rw [if_neg (by omega), if_neg (by omega), withL_outs hi, Nat.add_sub_cancel_left]
    unfold addE
    rw [hok, ti, tj]
    simp
  · rw [if_neg e1]
    by_cases e2 : k = i
    · subst e2
      rw [if_pos rfl]
      unfold rowsE
      rw [if_pos hi, if_pos hi, withL_outs hj]
      unfold addE
      rw [hok, ti, tj]
      simp
    · rw [if_neg e2]
      unfold rowsE addE
      rw [ti, tj]
      split
      · simp [e2]
      · have : k - n ≠ j := by omega
        simp [this]
theorem grAdd_w {h : AHeap} {p n : Nat} {E : Nat → Nat → Bool} {S : Nat → Prop} (x : Gt h p n E S) (hn : n ≤ 1024) (hl : h.low ≤ h.next) (a b : Int) {Q : VQ}
    (hq : ∀ h' S', Gt h' p n (addE n E a b) S' → Fr S h h' → (∀ id, S' id → S id ∨ h.next ≤ id) → (∀ id, S id → S' id) → Q (.int .i64 (if okAdd n a b = true then 0 else 20)) h') : W 11 [pv p, .int .i64 a, .int .i64 b] h Q := by
  have no : okAdd n a b = false → Q (.int .i64 20) h := fun e => by
    have e2 : addE n E a b = E := by funext i j; unfold addE; rw [e]; simp
    have := hq h S (by rw [e2]; exact x) (Fr.refl _ _) (fun id q => .inl q) (fun id q => q)
    rw [e] at this
    exact this
  refine AM.enter hp (fn := Try.f11) (rs := [.tmp 6]) (nt := 52) (by kernel_rfl) Try.func11 rfl rfl rfl (by kernel_rfl) ?_
  simp (maxSteps := 1000000) (disch := first | omega | (simp only [AM.DB, List.length_set, List.length_map]; first | done | omega)) only [AM.RB, Nat.reduceAdd, Nat.reduceMul, Nat.reduceEqDiff, reduceCtorEq, b11_GR4]
  refine grNode_w x a ?_
  by_cases ha : 0 ≤ a ∧ a < n
  case neg =>
    have d0 : decide (0 ≤ a ∧ a < n) = false := decide_eq_false ha
    (repeat' (first | (simp (maxSteps := 1000000) (disch := first | omega | (simp only [AM.DB, List.length_set, List.length_map]; first | done | omega)) only [AM.RB, Nat.reduceAdd, Nat.reduceMul, Nat.reduceEqDiff, reduceCtorEq, b11_GR4, d0]) | refine AM.drawW_loose (id := 3) hp (by kernel_rfl) (by kernel_rfl) ?_ | refine AM.opW_tied (by kernel_rfl) ?_ | refine AM.opW_untied (by kernel_rfl) ?_))
    exact no (decide_eq_false fun q => ha q.1)
  have d0 : decide (0 ≤ a ∧ a < n) = true := decide_eq_true ha
  (repeat' (first | (simp (maxSteps := 1000000) (disch := first | omega | (simp only [AM.DB, List.length_set, List.length_map]; first | done | omega)) only [AM.RB, Nat.reduceAdd, Nat.reduceMul, Nat.reduceEqDiff, reduceCtorEq, b11_GR4, d0]) | refine AM.drawW_loose (id := 3) hp (by kernel_rfl) (by kernel_rfl) ?_ | refine AM.opW_tied (by kernel_rfl) ?_ | refine AM.opW_untied (by kernel_rfl) ?_))
  refine grNode_w x b ?_
  by_cases hb : 0 ≤ b ∧ b < n
  case neg =>
    have d1 : decide (0 ≤ b ∧ b < n) = false := decide_eq_false hb
    (repeat' (first | (simp (maxSteps := 1000000) (disch := first | omega | (simp only [AM.DB, List.length_set, List.length_map]; first | done | omega)) only [AM.RB, Nat.reduceAdd, Nat.reduceMul, Nat.reduceEqDiff, reduceCtorEq, b11_GR4, d1]) | refine AM.drawW_loose (id := 3) hp (by kernel_rfl) (by kernel_rfl) ?_ | refine AM.opW_tied (by kernel_rfl) ?_ | refine AM.opW_untied (by kernel_rfl) ?_))
    exact no (decide_eq_false fun q => hb q.2.1)
  have d1 : decide (0 ≤ b ∧ b < n) = true := decide_eq_true hb
  by_cases hab : a = b
  · have d2 : decide (a = b) = true := decide_eq_true hab
    (repeat' (first | (simp (maxSteps := 1000000) (disch := first | omega | (simp only [AM.DB, List.length_set, List.length_map]; first | done | omega)) only [AM.RB, Nat.reduceAdd, Nat.reduceMul, Nat.reduceEqDiff, reduceCtorEq, b11_GR4, d1, d2]) | refine AM.drawW_loose (id := 3) hp (by kernel_rfl) (by kernel_rfl) ?_ | refine AM.opW_tied (by kernel_rfl) ?_ | refine AM.opW_untied (by kernel_rfl) ?_))
    exact no (decide_eq_false fun q => q.2.2 hab)
  have d2 : decide (a = b) = false := decide_eq_false hab
  have hok : okAdd n a b = true := decide_eq_true ⟨ha, hb, hab⟩
  rw [if_pos hok] at hq
  clear no
  obtain ⟨i, rfl⟩ := Int.eq_ofNat_of_zero_le ha.1
  obtain ⟨j, rfl⟩ := Int.eq_ofNat_of_zero_le hb.1
  have hi : i < n := by omega
  have hj : j < n := by omega
  obtain ⟨nid, bid, X, x⟩ := x
  have g := x.g
  have gn := x.bk.g1
  have gb := x.bk.g2
  have ltp := AM.get_some_lt g
  have ltn := AM.get_some_lt gn
  have ltb := AM.get_some_lt gb
  have hxa : ((List.range n).map X)[i]? = some (X i) := by rw [List.getElem?_map, List.getElem?_range hi]; rfl
  have hxb : ((List.range n).map fun j => X (n + j))[j]? = some (X (n + j)) := by rw [List.getElem?_map, List.getElem?_range hj]; rfl
  (repeat' (first | (simp (maxSteps := 1000000) (disch := first | omega | (simp only [AM.DB, List.length_set, List.length_map]; first | done | omega)) only [AM.RB, Nat.reduceAdd, Nat.reduceMul, Nat.reduceEqDiff, reduceCtorEq, b11_GR4, d1, d2, g, gn, gb, hxa, hxb, Nat.mul_one, Nat.zero_add, Int.toNat_natCast]) | refine AM.drawW_loose (id := 3) hp (by kernel_rfl) (by kernel_rfl) ?_ | refine AM.opW_tied (by kernel_rfl) ?_ | refine AM.opW_untied (by kernel_rfl) ?_))
  refine with_w (x.bk.ow i (by omega)) (x.cp i (by omega)) (rowsE_srt n E i) (by have := rowsE_len n E i; omega) hl fun v h1 o1 c1 fr1 hid1 => ?_
  have gA := fr1.get g (x.nx i (by omega))
  have gnA := fr1.get gn (fun q => (x.bk.ne i (by omega) _ q).1 rfl)
  have gbA := fr1.get gb (fun q => (x.bk.ne i (by omega) _ q).2 rfl)
  have hl1 := fr1.hl hl
  have n1 := fr1.next
  have w1 := fr1.low
  (repeat' (first | (simp (maxSteps := 1000000) (disch := first | omega | (simp only [AM.DB, List.length_set, List.length_map]; first | done | omega)) only [AM.RB, Nat.reduceAdd, Nat.reduceMul, Nat.reduceEqDiff, reduceCtorEq, b11_GR4, gA, gnA, gbA, hxa, hxb, Nat.mul_one, Nat.zero_add, Int.toNat_natCast]) | refine AM.drawW_loose (id := 3) hp (by kernel_rfl) (by kernel_rfl) ?_ | refine AM.opW_tied (by kernel_rfl) ?_ | refine AM.opW_untied (by kernel_rfl) ?_))
  have owB := (x.bk.ow (n + j) (by omega)).fr fr1 (fun id q e => x.bk.dj (n + j) i (by omega) (by omega) (by omega) id q e)
  refine with_w owB (x.cp (n + j) (by omega)) (rowsE_srt n E (n + j)) (by have := rowsE_len n E (n + j); omega) hl1 fun w h2 o2 c2 fr2 hid2 => ?_
  have gA2 := fr2.get gA (x.nx (n + j) (by omega))
  have gnA2 := fr2.get gnA (fun q => (x.bk.ne (n + j) (by omega) _ q).1 rfl)
  have gbA2 := fr2.get gbA (fun q => (x.bk.ne (n + j) (by omega) _ q).2 rfl)
  have n2 := fr2.next
  have w2 := fr2.low
  obtain ⟨va, vc, rfl⟩ := o1.form
  obtain ⟨wa, wc, rfl⟩ := o2.form
  have lown := x.bk.low
  have hlX : (List.map X (List.range n)).length = n := by simp
  have hlY : (List.map (fun j => X (n + j)) (List.range n)).length = n := by simp
  (repeat' (first | (simp (maxSteps := 1000000) (disch := first | omega | (simp only [AM.DB, List.length_set, List.length_map]; first | done | omega)) only [AM.RB, Nat.reduceAdd, Nat.reduceMul, Nat.reduceEqDiff, reduceCtorEq, b11_GR4, gnA2, gbA2, Nat.mul_one, Nat.zero_add, Int.toNat_natCast]) | refine AM.drawW_loose (id := 3) hp (by kernel_rfl) (by kernel_rfl) ?_ | refine AM.opW_tied (by kernel_rfl) ?_ | refine AM.opW_untied (by kernel_rfl) ?_))
  generalize hE_ : AHeap.put h2 _ _ = h3; obtain ⟨g3, fr3, n3, l3⟩ := AM.put_get hE_ (by omega); clear hE_
  have gA3 := fr3.get gA2 x.np.1
  have gb3 := fr3.get gbA2 (fun e => x.bk.nb e.symm)
  (repeat' (first | (simp (maxSteps := 1000000) (disch := first | omega | (simp only [AM.DB, List.length_set, List.length_map]; first | done | omega)) only [AM.RB, Nat.reduceAdd, Nat.reduceMul, Nat.reduceEqDiff, reduceCtorEq, b11_GR4, gb3, Nat.mul_one, Nat.zero_add, Int.toNat_natCast]) | refine AM.drawW_loose (id := 3) hp (by kernel_rfl) (by kernel_rfl) ?_ | refine AM.opW_tied (by kernel_rfl) ?_ | refine AM.opW_untied (by kernel_rfl) ?_))
  generalize hE_ : AHeap.put h3 _ _ = h4; obtain ⟨g4, fr4, n4, l4⟩ := AM.put_get hE_ (by omega); clear hE_
  have gA4 := fr4.get gA3 x.np.2
  have rN : Rd h 26 1 (slT nid n) n ((List.range n).map X) := AM.Rd.whole gn (by simp)
  have rB : Rd h 26 1 (slT bid n) n ((List.range n).map fun j => X (n + j)) := AM.Rd.whole gb (by simp)
  have rX := (x.bk.ow (n + j) (by omega)).rd
  have n3' := fr3.next
  have n4' := fr4.next
  refine ⟨AM.looseOk_by [(3, [0, 19, 28]), (8, [0, 19, 28]), (22, [0, 19]), (25, [0, 19])] (by kernel_rfl) ?_, ?_⟩
  · simp (maxSteps := 1000000) (disch := first | omega | (simp only [AM.DB, List.length_set, List.length_map]; first | done | omega)) only [AM.RB, Nat.reduceAdd, Nat.reduceMul, Nat.reduceEqDiff, reduceCtorEq, b11_GR4]
    (repeat' apply And.intro) <;> (first | (refine AM.stable_len _ _ _ _ _ _ (fun _ => ?_); (simp (maxSteps := 1000000) (disch := first | omega | (simp only [AM.DB, List.length_set, List.length_map]; first | done | omega)) only [AM.RB, Nat.reduceAdd, Nat.reduceMul, Nat.reduceEqDiff, reduceCtorEq, b11_GR4, g, gA, gA2, gA3, gA4, gb, gbA, gbA2, gb3, hxb, Nat.zero_add])) | (refine AM.stable_load _ _ _ _ _ _ ?_; (first | (simp (maxSteps := 1000000) (disch := first | omega | (simp only [AM.DB, List.length_set, List.length_map]; first | done | omega)) only [AM.RB, Nat.reduceAdd, Nat.reduceMul, Nat.reduceEqDiff, reduceCtorEq, b11_GR4, g, gA, gA2, gA3, gA4, gb, gbA, gbA2, gb3, hxb, Nat.zero_add]) | skip); (first | (refine AM.stabL_int (by omega) ?_; (simp (maxSteps := 1000000) (disch := first | omega | (simp only [AM.DB, List.length_set, List.length_map]; first | done | omega)) only [AM.RB, Nat.reduceAdd, Nat.reduceMul, Nat.reduceEqDiff, reduceCtorEq, b11_GR4, g, gA, gA2, gA3, gA4, gb, gbA, gbA2, gb3, hxb, Nat.zero_add])) | (refine AM.stabL_ptr (by omega) (by omega) ?_; (simp (maxSteps := 1000000) (disch := first | omega | (simp only [AM.DB, List.length_set, List.length_map]; first | done | omega)) only [AM.RB, Nat.reduceAdd, Nat.reduceMul, Nat.reduceEqDiff, reduceCtorEq, b11_GR4, g, gA, gA2, gA3, gA4, gb, gbA, gbA2, gb3, hxb, Nat.zero_add])) | (refine AM.stabL_string (by omega) ?_; (simp (maxSteps := 1000000) (disch := first | omega | (simp only [AM.DB, List.length_set, List.length_map]; first | done | omega)) only [AM.RB, Nat.reduceAdd, Nat.reduceMul, Nat.reduceEqDiff, reduceCtorEq, b11_GR4, g, gA, gA2, gA3, gA4, gb, gbA, gbA2, gb3, hxb, Nat.zero_add])) | (refine AM.stabL_bool (by omega) ?_; (simp (maxSteps := 1000000) (disch := first | omega | (simp only [AM.DB, List.length_set, List.length_map]; first | done | omega)) only [AM.RB, Nat.reduceAdd, Nat.reduceMul, Nat.reduceEqDiff, reduceCtorEq, b11_GR4, g, gA, gA2, gA3, gA4, gb, gbA, gbA2, gb3, hxb, Nat.zero_add])) | (refine AM.stabL_rd rN (by omega) (by omega) ?_; (simp (maxSteps := 1000000) (disch := first | omega | (simp only [AM.DB, List.length_set, List.length_map]; first | done | omega)) only [AM.RB, Nat.reduceAdd, Nat.reduceMul, Nat.reduceEqDiff, reduceCtorEq, b11_GR4, g, gA, gA2, gA3, gA4, gb, gbA, gbA2, gb3, hxb, Nat.zero_add])) | (refine AM.stabL_rd rB (by omega) (by omega) ?_; (simp (maxSteps := 1000000) (disch := first | omega | (simp only [AM.DB, List.length_set, List.length_map]; first | done | omega)) only [AM.RB, Nat.reduceAdd, Nat.reduceMul, Nat.reduceEqDiff, reduceCtorEq, b11_GR4, g, gA, gA2, gA3, gA4, gb, gbA, gbA2, gb3, hxb, Nat.zero_add])) | (refine AM.stabL_rd rX (by omega) (by omega) ?_; (simp (maxSteps := 1000000) (disch := first | omega | (simp only [AM.DB, List.length_set, List.length_map]; first | done | omega)) only [AM.RB, Nat.reduceAdd, Nat.reduceMul, Nat.reduceEqDiff, reduceCtorEq, b11_GR4, g, gA, gA2, gA3, gA4, gb, gbA, gbA2, gb3, hxb, Nat.zero_add])) | (refine AM.stabL_elS rN (by omega) (by omega) ?_; (simp (maxSteps := 1000000) (disch := first | omega | (simp only [AM.DB, List.length_set, List.length_map]; first | done | omega)) only [AM.RB, Nat.reduceAdd, Nat.reduceMul, Nat.reduceEqDiff, reduceCtorEq, b11_GR4, g, gA, gA2, gA3, gA4, gb, gbA, gbA2, gb3, hxb, Nat.zero_add])) | (refine AM.stabL_elI rN (by omega) (by omega) ?_; (simp (maxSteps := 1000000) (disch := first | omega | (simp only [AM.DB, List.length_set, List.length_map]; first | done | omega)) only [AM.RB, Nat.reduceAdd, Nat.reduceMul, Nat.reduceEqDiff, reduceCtorEq, b11_GR4, g, gA, gA2, gA3, gA4, gb, gbA, gbA2, gb3, hxb, Nat.zero_add])) | (refine AM.stabL_elS rB (by omega) (by omega) ?_; (simp (maxSteps := 1000000) (disch := first | omega | (simp only [AM.DB, List.length_set, List.length_map]; first | done | omega)) only [AM.RB, Nat.reduceAdd, Nat.reduceMul, Nat.reduceEqDiff, reduceCtorEq, b11_GR4, g, gA, gA2, gA3, gA4, gb, gbA, gbA2, gb3, hxb, Nat.zero_add])) | (refine AM.stabL_elI rB (by omega) (by omega) ?_; (simp (maxSteps := 1000000) (disch := first | omega | (simp only [AM.DB, List.length_set, List.length_map]; first | done | omega)) only [AM.RB, Nat.reduceAdd, Nat.reduceMul, Nat.reduceEqDiff, reduceCtorEq, b11_GR4, g, gA, gA2, gA3, gA4, gb, gbA, gbA2, gb3, hxb, Nat.zero_add])) | (refine AM.stabL_elS rX (by omega) (by omega) ?_; (simp (maxSteps := 1000000) (disch := first | omega | (simp only [AM.DB, List.length_set, List.length_map]; first | done | omega)) only [AM.RB, Nat.reduceAdd, Nat.reduceMul, Nat.reduceEqDiff, reduceCtorEq, b11_GR4, g, gA, gA2, gA3, gA4, gb, gbA, gbA2, gb3, hxb, Nat.zero_add])) | (refine AM.stabL_elI rX (by omega) (by omega) ?_; (simp (maxSteps := 1000000) (disch := first | omega | (simp only [AM.DB, List.length_set, List.length_map]; first | done | omega)) only [AM.RB, Nat.reduceAdd, Nat.reduceMul, Nat.reduceEqDiff, reduceCtorEq, b11_GR4, g, gA, gA2, gA3, gA4, gb, gbA, gbA2, gb3, hxb, Nat.zero_add])))))
  · (repeat' (first | (simp (maxSteps := 1000000) (disch := first | omega | (simp only [AM.DB, List.length_set, List.length_map]; first | done | omega)) only [AM.RB, Nat.reduceAdd, Nat.reduceMul, Nat.reduceEqDiff, reduceCtorEq, b11_GR4]) | refine AM.drawW_loose (id := 3) hp (by kernel_rfl) (by kernel_rfl) ?_ | refine AM.opW_tied (by kernel_rfl) ?_ | refine AM.opW_untied (by kernel_rfl) ?_))
    have bk4 := Bk.put2 x.bk hi hj o1 fr1 hid1 o2 fr2 hid2 (by simpa using g3) fr3 (by simpa using g4) fr4
    rw [rows_add hi hj hok] at bk4
    have hv1 : ∀ id, idOf (.slice va (withL (rowsE n E i) j).length vc) id → S id ∨ h.next ≤ id := fun id q => (hid1 id q).imp (x.sx i (by omega) id) (fun q => q)
    have hw1 : ∀ id, idOf (.slice wa (withL (rowsE n E (n + j)) i).length wc) id → S id ∨ h.next ≤ id := fun id q => (hid2 id q).imp (x.sx (n + j) (by omega) id) (fun q => by omega)
    have np1 : ∀ id, idOf (.slice va (withL (rowsE n E i) j).length vc) id → id ≠ p := fun id q e => by
      rcases hid1 id q with q | q
      · exact x.nx i (by omega) (e ▸ q)
      · omega
    have np2 : ∀ id, idOf (.slice wa (withL (rowsE n E (n + j)) i).length wc) id → id ≠ p := fun id q e => by
      rcases hid2 id q with q | q
      · exact x.nx (n + j) (by omega) (e ▸ q)
      · omega
    have fr4' : Fr S h h4 := (((fr1.mono fun id _ q => x.sx i (by omega) id q).then fr2 fun id _ q => x.sx (n + j) (by omega) id q).then fr3 fun id _ q => by rw [q]; exact x.sp.2.1).then fr4 fun id _ q => by rw [q]; exact x.sp.2.2
    refine hq h4 (fun id => S id ∨ idOf (.slice va (withL (rowsE n E i) j).length vc) id ∨ idOf (.slice wa (withL (rowsE n E (n + j)) i).length wc) id) ⟨nid, bid, _, gA4, ?_, bk4, fun k hk => ?_, x.np, fun k hk => ?_, ⟨.inl x.sp.1, .inl x.sp.2.1, .inl x.sp.2.2⟩, fun k hk id => ?_, fun id q => ?_⟩ fr4' (fun id q => ?_) (fun id q => .inl q)
    · have := x.low; have := fr4'.low; omega
    · unfold upd
      split
      · exact c2
      · split
        · exact c1
        · exact x.cp k hk
    · unfold upd
      split
      · exact fun q => np2 p q rfl
      · split
        · exact fun q => np1 p q rfl
        · exact x.nx k hk
    · unfold upd
      split
      · exact fun q => .inr (.inr q)
      · split
        · exact fun q => .inr (.inl q)
        · exact fun q => .inl (x.sx k hk id q)
    · rcases q with q | q | q
      · have := x.lt id q; omega
      · have := o1.lt q; omega
      · have := o2.lt q; omega
    · rcases q with q | q | q
      · exact .inl q
      · exact hv1 id q
      · exact hw1 id q
end Go.Proofs.Ytnkbdbopiancmaa

namespace Go.AM
variable {P : Program}
theorem copy0_w {h : AHeap} {dt e : TypeId} {sz : Nat} {cap l c : Nat} {a b : Option Addr} {K : VQ} (ht : elI P dt = some (e, sz)) (hq : K (.int .i64 0) h) : optR (aCopy P h dt (.slice b 0 c) (.slice a l cap)) K := by
  unfold elI at ht
  cases hu : P.underlying dt with
  | none => rw [hu] at ht; cases ht
  | some u =>
    rw [hu] at ht
    cases u with
    | slice e0 =>
      simp only at ht
      cases hi : P.info? e0 with
      | none => rw [hi] at ht; cases ht
      | some i =>
        unfold aCopy
        simp only [hu, hi, aLenOf, Option.bind_some]
        rw [if_pos (Nat.min_eq_right (Nat.zero_le _))]
        exact ⟨_, rfl, hq⟩
    | _ => cases ht
end Go.AM
namespace Go.Proofs.Ytnkbdbopiancmaa
open Go.AM
set_option maxRecDepth 8000
theorem b54_GRR : type_of% (And.intro (@AM.bin_add) (And.intro (@AM.bin_and) (And.intro (@AM.bin_mul) (And.intro (@AM.bin_shr) (And.intro (@AM.op_binOp) (@AM.resL_two)))))) := And.intro (@AM.bin_add) (And.intro (@AM.bin_and) (And.intro (@AM.bin_mul) (And.intro (@AM.bin_shr) (And.intro (@AM.op_binOp) (@AM.resL_two)))))
theorem b43_GRR : type_of% (And.intro (@AM.cvW_int) (And.intro (AM.cv_int ul_68 ul_75) (And.intro (AM.cv_int ul_75 ul_68) (And.intro (@AM.ex_tuple) (And.intro (@AM.op_call) (And.intro (@AM.op_convert) (And.intro (@AM.op_extract) (@AM.resL_two)))))))) := And.intro (@AM.cvW_int) (And.intro (AM.cv_int ul_68 ul_75) (And.intro (AM.cv_int ul_75 ul_68) (And.intro (@AM.ex_tuple) (And.intro (@AM.op_call) (And.intro (@AM.op_convert) (And.intro (@AM.op_extract) (@AM.resL_two)))))))
theorem b32_GRR : type_of% (And.intro (@AM.bin_add) (And.intro (@AM.bin_gtr) (And.intro (@AM.bin_lss) (And.intro (@AM.cvW_int) (And.intro (AM.cv_int ul_3 ul_68) (And.intro (AM.cv_int ul_68 ul_3) (And.intro (@AM.ex_tuple) (And.intro (AM.len_slice ul_26) (And.intro (AM.mkW_int mk_26) (And.intro (@AM.op_binOp) (And.intro (@AM.op_call) (And.intro (@AM.op_convert) (And.intro (@AM.op_copy) (And.intro (@AM.op_extract) (And.intro (@AM.op_len) (And.intro (@AM.op_makeInterface) (And.intro (@AM.op_makeSlice) (@AM.op_slice)))))))))))))))))) := And.intro (@AM.bin_add) (And.intro (@AM.bin_gtr) (And.intro (@AM.bin_lss) (And.intro (@AM.cvW_int) (And.intro (AM.cv_int ul_3 ul_68) (And.intro (AM.cv_int ul_68 ul_3) (And.intro (@AM.ex_tuple) (And.intro (AM.len_slice ul_26) (And.intro (AM.mkW_int mk_26) (And.intro (@AM.op_binOp) (And.intro (@AM.op_call) (And.intro (@AM.op_convert) (And.intro (@AM.op_copy) (And.intro (@AM.op_extract) (And.intro (@AM.op_len) (And.intro (@AM.op_makeInterface) (And.intro (@AM.op_makeSlice) (@AM.op_slice)))))))))))))))))


theorem grMul64_w {n : Nat} (hn : n ≤ 4000000) {h : AHeap} {Q : VQ} (hq : Q (.tuple #[.int .u64 0, .int .u64 n]) h) : W 54 [.int .u64 1, .int .u64 n] h Q := by
  have a1 : IntKind.u64.wrap ((BitVec.ofInt IntKind.u64.bits (1 : Int) &&& BitVec.ofInt IntKind.u64.bits 4294967295).toNat : Int) = 1 := rfl
  have a2 := AM.and_mask (n := n) (by omega)
  have a0 : IntKind.u64.wrap ((BitVec.ofInt IntKind.u64.bits (0 : Int) &&& BitVec.ofInt IntKind.u64.bits 4294967295).toNat : Int) = 0 := rfl
  have s1 : Int.fdiv (1 : Int) (2 ^ (min (32 : Int).toNat IntKind.u64.bits)) = 0 := rfl
  have s2 := AM.shr_32 (n := n) (by omega)
  have s0 : Int.fdiv (0 : Int) (2 ^ (min (32 : Int).toNat IntKind.u64.bits)) = 0 := rfl
  refine AM.enter hp (fn := Try.f54) (rs := [.tmp 4, .tmp 5]) (nt := 51) (by kernel_rfl) Try.func54 rfl rfl rfl (by kernel_rfl) ?_
  (first | (simp (maxSteps := 1000000) (disch := first | omega | (simp only [AM.DB, List.length_set, List.length_map]; first | done | omega)) only [AM.RB, Nat.reduceAdd, Nat.reduceMul, Nat.reduceEqDiff, reduceCtorEq, b54_GRR, a1, a2, a0, s1, s2, s0, Int.zero_mul, Int.one_mul, Int.mul_zero, Int.add_zero, Int.zero_add, AM.wrap_u64]) | skip)
  exact hq
theorem grMul_w {n : Nat} (hn : n ≤ 4000000) {h : AHeap} {Q : VQ} (hq : Q (.tuple #[.int .u64 0, .int .u64 n]) h) : W 43 [.int .u64 1, .int .u64 n] h Q := by
  refine AM.enter hp (fn := Try.f43) (rs := [.tmp 4, .tmp 5]) (nt := 30) (by kernel_rfl) Try.func43 rfl rfl rfl (by kernel_rfl) ?_
  (first | (simp (maxSteps := 1000000) (disch := first | omega | (simp only [AM.DB, List.length_set, List.length_map]; first | done | omega)) only [AM.RB, Nat.reduceAdd, Nat.reduceMul, Nat.reduceEqDiff, reduceCtorEq, b43_GRR]) | skip)
  refine grMul64_w hn ?_
  (first | (simp (maxSteps := 1000000) (disch := first | omega | (simp only [AM.DB, List.length_set, List.length_map]; first | done | omega)) only [AM.RB, Nat.reduceAdd, Nat.reduceMul, Nat.reduceEqDiff, reduceCtorEq, b43_GRR]) | skip)
  exact hq
theorem grSetRow (n k m : Nat) (x : Value) (y : Value) (hk : k + m ≤ n) : setRow (List.replicate k x ++ List.replicate (n - k) y) k (List.replicate m x) = List.replicate (k + m) x ++ List.replicate (n - (k + m)) y := by
  apply List.ext_getElem?
  intro i
  rw [AM.setRow_get _ _ _ (by simp <;> omega)]
  simp only [List.length_replicate, List.getElem?_append, List.getElem?_replicate]
  rcases (show (k ≤ i ∧ i < k + m) ∨ i < k ∨ (k + m ≤ i ∧ i < n) ∨ n ≤ i by omega) with q | q | q | q
  · simp [q, show ¬ i < k by omega, show i - k < m by omega]
  · rw [if_neg (show ¬ (k ≤ i ∧ i < k + m) by omega)]
    simp [q, show i < k + m by omega]
  · simp [show ¬ (k ≤ i ∧ i < k + m) by omega, show ¬ i < k + m by omega, show ¬ i < k by omega, show i - k < n - k by omega, show i - (k + m) < n - (k + m) by omega]
  · simp [show ¬ (k ≤ i ∧ i < k + m) by omega, show ¬ i < k + m by omega, show ¬ i < k by omega, show ¬ i - k < n - k by omega, show ¬ i - (k + m) < n - (k + m) by omega]
set_option maxHeartbeats 4000000 in
theorem grRepeat_w {h : AHeap} {v : Value} {x : Int} {n : Nat} (hs : Rd h 3 1 v 1 [.int .i64 x]) (hn0 : 0 < n) (hn : n ≤ 4000000) (hl : h.low ≤ h.next) {Q : VQ}
    (hq : ∀ v' h', Ow h' 3 1 v' n ((List.replicate n x).map (.int .i64)) → Fr none' h h' → (∀ id, idOf v' id → h.next ≤ id) → Q v' h') : W 32 [v, .int .i64 n] h Q := by
  obtain ⟨va, vc, rfl⟩ := hs.form
  have d1 : decide ((n : Int) < 0) = false := decide_eq_false (by omega)
  have d2 : decide ((9223372036854775807 : Int) < (n : Int)) = false := decide_eq_false (by omega)
  refine AM.enter hp (fn := Try.f32) (rs := [.tmp 4]) (nt := 48) (by kernel_rfl) Try.func32 rfl rfl rfl (by kernel_rfl) ?_
  (repeat' (first | (simp (maxSteps := 1000000) (disch := first | omega | (simp only [AM.DB, List.length_set, List.length_map]; first | done | omega)) only [AM.RB, Nat.reduceAdd, Nat.reduceMul, Nat.reduceEqDiff, reduceCtorEq, b32_GRR, d1, AM.wrap_u64, AM.wrap_i64]) | refine AM.drawW_fine hp (by kernel_rfl) (by kernel_rfl) (by kernel_rfl) ?_ | refine AM.opW_tied (by kernel_rfl) ?_ | refine AM.opW_untied (by kernel_rfl) ?_))
  refine grMul_w hn ?_
  have d0 : decide ((0 : Int) < 0) = false := rfl
  have erep : ∀ m, AM.repeated [Value.int .i64 0] m = List.replicate m (Value.int .i64 0) := fun m => by
    induction m with
    | zero => rfl
    | succ m ih => rw [AM.repeated, ih, List.replicate_succ]; rfl
  (repeat' (first | (simp (maxSteps := 1000000) (disch := first | omega | (simp only [AM.DB, List.length_set, List.length_map]; first | done | omega)) only [AM.RB, Nat.reduceAdd, Nat.reduceMul, Nat.reduceEqDiff, reduceCtorEq, b32_GRR, d0, d2, AM.wrap_i64, erep]) | refine AM.drawW_fine hp (by kernel_rfl) (by kernel_rfl) (by kernel_rfl) ?_ | refine AM.opW_tied (by kernel_rfl) ?_ | refine AM.opW_untied (by kernel_rfl) ?_))
  generalize hE_ : AHeap.alloc h _ = h1; obtain ⟨g1, fr1, n1, l1⟩ := AM.new_get hE_; clear hE_
  refine AM.copy_w (id := h.next) (off := 0) (c := List.replicate n (.int .i64 0)) (cs := [.int .i64 x]) (m := 1) (dl := n) el_26 (by omega) g1 (by omega) (by simp) (hs.fr0 fr1) rfl (by omega) fun h2 g2 fr2 n2 l2 => ?_
  have em : min 1 n = 1 := by omega
  have e2 : setRow (List.replicate n (Value.int .i64 0)) 0 ([Value.int .i64 x].take (min 1 n * 1)) = List.replicate 1 (.int .i64 x) ++ List.replicate (n - 1) (.int .i64 0) := by
    have := grSetRow n 0 1 (.int .i64 x) (.int .i64 0) (by omega)
    simpa [em] using this
  rw [e2] at g2
  rw [em]
  have fr02 : Fr none' h h2 := Fr.fresh fr1 fr2 (fun id e => by have e : id = h.next := e; omega)
  (repeat' (first | (simp (maxSteps := 1000000) (disch := first | omega | (simp only [AM.DB, List.length_set, List.length_map]; first | done | omega)) only [AM.RB, Nat.reduceAdd, Nat.reduceMul, Nat.reduceEqDiff, reduceCtorEq, b32_GRR]) | refine AM.drawW_fine hp (by kernel_rfl) (by kernel_rfl) (by kernel_rfl) ?_ | refine AM.opW_tied (by kernel_rfl) ?_ | refine AM.opW_untied (by kernel_rfl) ?_))
  refine AM.loop_w hp 48 (fun k : Nat => [(7, .slice (some ⟨h.next, 0, none⟩) n n), (8, .int .i64 k)])
    (fun k h' => 1 ≤ k ∧ k ≤ n ∧ h'.get h.next = some (.cells (List.replicate k (.int .i64 x) ++ List.replicate (n - k) (.int .i64 0)) 3 false) ∧ Fr none' h h' ∧ h.next < h'.next) (fun k => n - k) (by kernel_rfl) 1 ?_ ?_ ?_
  · simp (maxSteps := 1000000) (disch := first | omega | (simp only [AM.DB, List.length_set, List.length_map]; first | done | omega)) only [AM.RB, Nat.reduceAdd, Nat.reduceMul, Nat.reduceEqDiff, reduceCtorEq, b32_GRR]
    first | rfl | skip
  · exact ⟨Nat.le_refl _, hn0, g2, fr02, by omega⟩
  rintro k h3 ρ ⟨hk1, hkn, g3, fr3, nx3⟩
  have lw3 := fr3.low
  simp (maxSteps := 1000000) (disch := first | omega | (simp only [AM.DB, List.length_set, List.length_map]; first | done | omega)) only [AM.RB, Nat.reduceAdd, Nat.reduceMul, Nat.reduceEqDiff, reduceCtorEq, b32_GRR]
  refine AM.condV_split (fun hlt => ?_) (fun hlt => ?_)
  · have hkl : k < n := by omega
    (repeat' (first | (simp (maxSteps := 1000000) (disch := first | omega | (simp only [AM.DB, List.length_set, List.length_map]; first | done | omega)) only [AM.RB, Nat.reduceAdd, Nat.reduceMul, Nat.reduceEqDiff, reduceCtorEq, b32_GRR, AM.slc el_26 g3, AM.slbs_lo_i, AM.slbs_hi_i, Int.toNat_natCast, Nat.sub_zero, Nat.zero_mul, Nat.mul_one]) | refine AM.drawW_fine hp (by kernel_rfl) (by kernel_rfl) (by kernel_rfl) ?_ | refine AM.opW_tied (by kernel_rfl) ?_ | refine AM.opW_untied (by kernel_rfl) ?_))
    have r3 : Rd h3 3 1 (.slice (some ⟨h.next, 0, none⟩) k n) k (List.replicate k (.int .i64 x)) := .inr ⟨_, _, _, _, _, _, rfl, hkn, g3, by simp <;> omega, by simp, .inr rfl⟩
    refine AM.copy_w (id := h.next) (off := k) (cs := List.replicate k (.int .i64 x)) (m := k) (dl := n - k) el_26 (by omega) g3 (by omega) (by simp <;> omega) r3 (by rw [List.all_eq_true]; intro v hv; rw [List.eq_of_mem_replicate hv]; rfl) (by omega) fun h4 g4 fr4 n4 l4 => ?_
    have e4 : setRow (List.replicate k (Value.int .i64 x) ++ List.replicate (n - k) (.int .i64 0)) k ((List.replicate k (Value.int .i64 x)).take (min k (n - k) * 1)) = List.replicate (k + min k (n - k)) (.int .i64 x) ++ List.replicate (n - (k + min k (n - k))) (.int .i64 0) := by
      rw [Nat.mul_one, List.take_replicate, show min (min k (n - k)) k = min k (n - k) by omega]
      exact grSetRow n k _ _ _ (by omega)
    rw [e4] at g4
    (repeat' (first | (simp (maxSteps := 1000000) (disch := first | omega | (simp only [AM.DB, List.length_set, List.length_map]; first | done | omega)) only [AM.RB, Nat.reduceAdd, Nat.reduceMul, Nat.reduceEqDiff, reduceCtorEq, b32_GRR, AM.wrap_i64]) | refine AM.drawW_fine hp (by kernel_rfl) (by kernel_rfl) (by kernel_rfl) ?_ | refine AM.opW_tied (by kernel_rfl) ?_ | refine AM.opW_untied (by kernel_rfl) ?_))
    refine ⟨k + min k (n - k), by omega, congrArg _ (by omega), by omega, by omega, g4, Fr.fresh fr3 fr4 (fun id e => by have e : id = h.next := e; omega), by omega⟩
  · obtain rfl : k = n := by omega
    rw [Nat.sub_self, List.replicate_zero, List.append_nil] at g3
    (repeat' (first | (simp (maxSteps := 1000000) (disch := first | omega | (simp only [AM.DB, List.length_set, List.length_map]; first | done | omega)) only [AM.RB, Nat.reduceAdd, Nat.reduceMul, Nat.reduceEqDiff, reduceCtorEq, b32_GRR]) | refine AM.drawW_fine hp (by kernel_rfl) (by kernel_rfl) (by kernel_rfl) ?_ | refine AM.opW_tied (by kernel_rfl) ?_ | refine AM.opW_untied (by kernel_rfl) ?_))
    refine hq _ _ (.inr ⟨_, _, _, _, _, rfl, Nat.le_refl _, g3, by simp, by simp, by omega⟩) fr3 (fun id e => by have e : id = h.next := e; omega)

theorem grRepeat0_w {h : AHeap} {v : Value} {x : Int} {n : Nat} (hn : n = 0) (hs : Rd h 3 1 v 1 [.int .i64 x]) (hl : h.low ≤ h.next) {Q : VQ}
    (hq : ∀ v' h', Ow h' 3 1 v' n ((List.replicate n x).map (.int .i64)) → Fr none' h h' → (∀ id, idOf v' id → h.next ≤ id) → Q v' h') : W 32 [v, .int .i64 n] h Q := by
  obtain ⟨va, vc, rfl⟩ := hs.form
  have d1 : decide ((n : Int) < 0) = false := decide_eq_false (by omega)
  have d2 : decide ((9223372036854775807 : Int) < (n : Int)) = false := decide_eq_false (by omega)
  refine AM.enter hp (fn := Try.f32) (rs := [.tmp 4]) (nt := 48) (by kernel_rfl) Try.func32 rfl rfl rfl (by kernel_rfl) ?_
  (repeat' (first | (simp (maxSteps := 1000000) (disch := first | omega | (simp only [AM.DB, List.length_set, List.length_map]; first | done | omega)) only [AM.RB, Nat.reduceAdd, Nat.reduceMul, Nat.reduceEqDiff, reduceCtorEq, b32_GRR, d1, AM.wrap_u64, AM.wrap_i64]) | refine AM.drawW_fine hp (by kernel_rfl) (by kernel_rfl) (by kernel_rfl) ?_ | refine AM.opW_tied (by kernel_rfl) ?_ | refine AM.opW_untied (by kernel_rfl) ?_))
  refine grMul_w (by omega) ?_
  have d0 : decide ((0 : Int) < 0) = false := rfl
  have e0 : AM.repeated [Value.int .i64 0] n = [] := by subst hn; rfl
  (repeat' (first | (simp (maxSteps := 1000000) (disch := first | omega | (simp only [AM.DB, List.length_set, List.length_map]; first | done | omega)) only [AM.RB, Nat.reduceAdd, Nat.reduceMul, Nat.reduceEqDiff, reduceCtorEq, b32_GRR, d0, d2, AM.wrap_i64, e0]) | refine AM.drawW_fine hp (by kernel_rfl) (by kernel_rfl) (by kernel_rfl) ?_ | refine AM.opW_tied (by kernel_rfl) ?_ | refine AM.opW_untied (by kernel_rfl) ?_))
  generalize hE_ : AHeap.alloc h _ = h1; obtain ⟨g1, fr1, n1, l1⟩ := AM.new_get hE_; clear hE_
  have ec : ∀ (s : Value) (K : VQ), K (.int .i64 0) h1 → optR (aCopy Try.prog h1 26 (.slice (some ⟨h.next, 0, none⟩) n n) (.slice va 1 vc)) K := fun s K q => by
    subst hn; exact AM.copy0_w el_26 q
  refine ec .nilFunc _ ?_
  (repeat' (first | (simp (maxSteps := 1000000) (disch := first | omega | (simp only [AM.DB, List.length_set, List.length_map]; first | done | omega)) only [AM.RB, Nat.reduceAdd, Nat.reduceMul, Nat.reduceEqDiff, reduceCtorEq, b32_GRR, d0]) | refine AM.drawW_fine hp (by kernel_rfl) (by kernel_rfl) (by kernel_rfl) ?_ | refine AM.opW_tied (by kernel_rfl) ?_ | refine AM.opW_untied (by kernel_rfl) ?_))
  refine AM.loop_w hp 48 (fun k : Nat => [(7, .slice (some ⟨h.next, 0, none⟩) n n), (8, .int .i64 0)])
    (fun k h' => h' = h1) (fun k => 0) (by kernel_rfl) 1 ?_ ?_ ?_
  · simp (maxSteps := 1000000) (disch := first | omega | (simp only [AM.DB, List.length_set, List.length_map]; first | done | omega)) only [AM.RB, Nat.reduceAdd, Nat.reduceMul, Nat.reduceEqDiff, reduceCtorEq, b32_GRR]
    first | rfl | skip
  · rfl
  rintro k h3 ρ rfl
  have d3 : decide ((0 : Int) < (n : Int)) = false := decide_eq_false (by omega)
  (repeat' (first | (simp (maxSteps := 1000000) (disch := first | omega | (simp only [AM.DB, List.length_set, List.length_map]; first | done | omega)) only [AM.RB, Nat.reduceAdd, Nat.reduceMul, Nat.reduceEqDiff, reduceCtorEq, b32_GRR, d3]) | refine AM.drawW_fine hp (by kernel_rfl) (by kernel_rfl) (by kernel_rfl) ?_ | refine AM.opW_tied (by kernel_rfl) ?_ | refine AM.opW_untied (by kernel_rfl) ?_))
  refine hq _ _ (.inr ⟨_, _, _, _, _, rfl, Nat.le_refl _, g1, by simp; omega, ?_, by omega⟩) fr1 (fun id e => by have e : id = h.next := e; omega)
  subst hn; rfl
theorem grRep_w {h : AHeap} {v : Value} {x : Int} {n : Nat} (hs : Rd h 3 1 v 1 [.int .i64 x]) (hn : n ≤ 4000000) (hl : h.low ≤ h.next) {Q : VQ}
    (hq : ∀ v' h', Ow h' 3 1 v' n ((List.replicate n x).map (.int .i64)) → Fr none' h h' → (∀ id, idOf v' id → h.next ≤ id) → Q v' h') : W 32 [v, .int .i64 n] h Q := by
  by_cases h0 : n = 0
  · exact grRepeat0_w h0 hs hl hq
  · exact grRepeat_w hs (by omega) hn hl hq
end Go.Proofs.Ytnkbdbopiancmaa

namespace Go.Proofs.Ytnkbdbopiancmaa
open Go.AM
set_option maxRecDepth 8000
theorem b44_GR5 : type_of% (And.intro (@AM.bin_add) (And.intro (@AM.bin_geq) (And.intro (@AM.bin_gtr) (And.intro (@AM.bin_lss) (And.intro (AM.bsW_int bs_26) (And.intro (AM.bsW_nil bs_26) (And.intro (AM.bsW_slice bs_26) (And.intro (AM.bsW_string bs_26) (And.intro (@AM.iaO_ok) (And.intro (AM.ia_slice el_26) (And.intro (@AM.ldO_agg) (And.intro (@AM.ldO_one) (And.intro (@AM.ld_ptr) (And.intro (AM.len_slice ul_26) (And.intro (@lk_27) (And.intro (@lk_3) (And.intro (@AM.op_append) (And.intro (@AM.op_binOp) (And.intro (@AM.op_buildSlice) (And.intro (@AM.op_call) (And.intro (@AM.op_indexAddr) (And.intro (@AM.op_len) (And.intro (@AM.op_load) (And.intro (@AM.op_slice) (And.intro (@AM.op_store) (And.intro (@AM.op_unOp) (And.intro (@AM.stO_agg) (And.intro (@AM.stO_bool) (And.intro (@AM.stO_int) (And.intro (@AM.stO_map) (And.intro (@AM.stO_pointer) (And.intro (@AM.stO_slice) (And.intro (@AM.stO_string) (And.intro (@AM.st_ptr) (And.intro (@sz_3) (And.intro (@AM.un_neg) (@AM.un_not))))))))))))))))))))))))))))))))))))) := And.intro (@AM.bin_add) (And.intro (@AM.bin_geq) (And.intro (@AM.bin_gtr) (And.intro (@AM.bin_lss) (And.intro (AM.bsW_int bs_26) (And.intro (AM.bsW_nil bs_26) (And.intro (AM.bsW_slice bs_26) (And.intro (AM.bsW_string bs_26) (And.intro (@AM.iaO_ok) (And.intro (AM.ia_slice el_26) (And.intro (@AM.ldO_agg) (And.intro (@AM.ldO_one) (And.intro (@AM.ld_ptr) (And.intro (AM.len_slice ul_26) (And.intro (@lk_27) (And.intro (@lk_3) (And.intro (@AM.op_append) (And.intro (@AM.op_binOp) (And.intro (@AM.op_buildSlice) (And.intro (@AM.op_call) (And.intro (@AM.op_indexAddr) (And.intro (@AM.op_len) (And.intro (@AM.op_load) (And.intro (@AM.op_slice) (And.intro (@AM.op_store) (And.intro (@AM.op_unOp) (And.intro (@AM.stO_agg) (And.intro (@AM.stO_bool) (And.intro (@AM.stO_int) (And.intro (@AM.stO_map) (And.intro (@AM.stO_pointer) (And.intro (@AM.stO_slice) (And.intro (@AM.stO_string) (And.intro (@AM.st_ptr) (And.intro (@sz_3) (And.intro (@AM.un_neg) (@AM.un_not))))))))))))))))))))))))))))))))))))


/-- What tells those beside one: in every heap where R's objects are as they were. -/
def NextF (f : Value) (n : Nat) (N : Int → List Int) (R : Nat → Prop) (h : AHeap) : Prop :=
  ∀ (h' : AHeap), h.next ≤ h'.next → h'.low ≤ h'.next → (∀ id, R id → h'.get id = h.get id) → ∀ (a : Int), 0 ≤ a → a < n → ∀ Q : VQ,
    (∀ v h2, Rd h2 3 1 v (N a).length ((N a).map (.int .i64)) → Fr none' h' h2 → (∀ id, idOf v id → R id ∨ h'.next ≤ id) → Q v h2) → CallW Try.prog prims f [.int .i64 a] h' Q
abbrev encQ (q : Int × Int) : List Value := [.int .i64 q.1, .int .i64 q.2]

set_option maxHeartbeats 4000000 in
theorem walk1_w {b1 b2 b3 n : Nat} {r : Int} {f : Value} {N : Int → List Int} {R : Nat → Prop} {h : AHeap} {e1 e2 e3 : TypeId} {o1 o2 o3 : Bool} (g1 : h.get b1 = some (.cells [.int .i64 n] e1 o1)) (g2 : h.get b2 = some (.cells [.int .i64 r] e2 o2)) (g3 : h.get b3 = some (.cells [f] e3 o3))
    (hr : 0 ≤ r ∧ r < n) (hn : n ≤ 1024) (hN : ∀ b : Int, 0 ≤ b ∧ b < n → ∀ c ∈ N b, 0 ≤ c ∧ c < n) (hNl : ∀ b : Int, 0 ≤ b ∧ b < n → (N b).length ≤ 4000000) (hR : ∀ id, R id → id < h.next) (hf : NextF f n N R h) (hl : h.low ≤ h.next) :
    IterOk Try.prog prims (.func (.func 44) #[] #[pv b1, pv b2, pv b3]) (fun id => id = b1 ∨ id = b2 ∨ id = b3 ∨ R id) ((bfs N n r).map encQ) h := by
  intro y J E h0 hnx hRk hlow hJ hE hy hJ0
  have lt1 := AM.get_some_lt g1
  have lt2 := AM.get_some_lt g2
  have lt3 := AM.get_some_lt g3
  have k1 : h0.get b1 = some (.cells [.int .i64 n] e1 o1) := by rw [hRk b1 lt1 (.inl rfl)]; exact g1
  have k2 : h0.get b2 = some (.cells [.int .i64 r] e2 o2) := by rw [hRk b2 lt2 (.inr (.inl rfl))]; exact g2
  have k3 : h0.get b3 = some (.cells [f] e3 o3) := by rw [hRk b3 lt3 (.inr (.inr (.inl rfl)))]; exact g3
  have kR : ∀ id, R id → h0.get id = h.get id := fun id i => hRk id (hR id i) (.inr (.inr (.inr i)))
  have hl0 := hlow
  obtain ⟨m, rfl⟩ := Int.eq_ofNat_of_zero_le hr.1
  have hm : m < n := by omega
  refine AM.enter hp (fn := Try.f44) (rs := []) (nt := 60) (by kernel_rfl) Try.func44 rfl rfl rfl (by kernel_rfl) ?_
  (first | (simp (maxSteps := 1000000) (disch := first | omega | (simp only [AM.DB, List.length_set, List.length_map]; first | done | omega)) only [AM.RB, Nat.reduceAdd, Nat.reduceMul, Nat.reduceEqDiff, reduceCtorEq, b44_GR5, k1]) | skip)
  generalize hE_ : AHeap.alloc h0 _ = h4; obtain ⟨g4, fr4, n4, l4⟩ := AM.new_get hE_; clear hE_
  have k14 := k1.fr0 fr4
  (first | (simp (maxSteps := 1000000) (disch := first | omega | (simp only [AM.DB, List.length_set, List.length_map]; first | done | omega)) only [AM.RB, Nat.reduceAdd, Nat.reduceMul, Nat.reduceEqDiff, reduceCtorEq, b44_GR5, k14]) | skip)
  refine grRep_w (AM.Rd.whole (n := 1) g4 rfl) (by omega) (fr4.hl hl0) fun fv h5 o5 fr5 hid5 => ?_
  obtain ⟨fa, fc, rfl⟩ := o5.form
  have k25 := (k2.fr0 fr4).fr0 fr5
  have n5 := fr5.next
  (first | (simp (maxSteps := 1000000) (disch := first | omega | (simp only [AM.DB, List.length_set, List.length_map]; first | done | omega)) only [AM.RB, Nat.reduceAdd, Nat.reduceMul, Nat.reduceEqDiff, reduceCtorEq, b44_GR5, k25, o5.ia el_26, Int.toNat_natCast]) | skip)
  refine o5.st sz_3 (j := m) (by omega) rfl rfl fun h6 o6 fr6 n6 => ?_
  have hf5 : ∀ id, idOf (.slice fa n fc) id → h0.next ≤ id := fun id q => by have := hid5 id q; omega
  have fr06 : Fr none' h0 h6 := (fr4.trans fr5).fresh fr6 hf5
  have k26 := k2.fr0 fr06
  (first | (simp (maxSteps := 1000000) (disch := first | omega | (simp only [AM.DB, List.length_set, List.length_map]; first | done | omega)) only [AM.RB, Nat.reduceAdd, Nat.reduceMul, Nat.reduceEqDiff, reduceCtorEq, b44_GR5, k26]) | skip)
  generalize hE_ : AHeap.alloc h6 _ = h7; obtain ⟨g7, fr7, n7, l7⟩ := AM.new_get hE_; clear hE_
  have fr07 := fr06.trans fr7
  have n6' := fr06.next
  have hA0 : ∀ id, (idOf (.slice fa n fc) id ∨ id = h6.next) → h0.next ≤ id ∧ id < h7.next := fun id q => by
    rcases q with q | q
    · have := hf5 id q; have := o6.lt q; omega
    · omega
  have J0 : J 0 (fun id => idOf (.slice fa n fc) id ∨ id = h6.next) h7 := hJ 0 none' _ h0 h7 hJ0 fr07 (fun id q => q.elim) (fun id q => .inr (hA0 id q).1)
  have o7 := o6.fr0 fr7
  have eset : (List.map (Value.int IntKind.i64) (List.replicate n (-1))).set m (.int .i64 0) = (((List.replicate n (-1 : Int)).set ((m : Nat) : Int).toNat 0).map (.int .i64)) := by rw [Int.toNat_natCast, List.map_set]
  rw [eset] at o7
  have t7 : Ow h7 3 1 (slT h6.next 1) 1 (([((m : Nat) : Int)]).map (.int .i64)) := AM.Ow.whole g7 rfl (by have := fr06.low; omega)
  have bf0 := Bf.init N n m hr.1 hr.2
  (first | (simp (maxSteps := 1000000) (disch := first | omega | (simp only [AM.DB, List.length_set, List.length_map]; first | done | omega)) only [AM.RB, Nat.reduceAdd, Nat.reduceMul, Nat.reduceEqDiff, reduceCtorEq, b44_GR5]) | skip)
  refine AM.loop_w hp 60 (fun q : Nat × List Int × List Int × Value => [(0, y), (1, pv b1), (2, pv b2), (3, pv b3), (5, .slice fa n fc), (6, q.2.2.2)])
    (fun q h' => (∀ j, q.2.1.getD j 0 ≤ q.1) ∧ ∃ P A, P.length = q.1 ∧ Bf N n m P [] q.2.2.1 q.2.1 ∧ (bfs N n m).drop q.1 = bfsL N (n - q.1) (q.2.1, q.2.2.1) ∧ q.1 ≤ n ∧ q.1 ≤ (bfs N n m).length ∧ J q.1 A h' ∧ (∀ id, A id → h0.next ≤ id ∧ id < h'.next) ∧ h0.next ≤ h'.next ∧ h'.low = h0.low ∧
      (∀ id, (id = b1 ∨ id = b2 ∨ id = b3 ∨ R id) → h'.get id = h0.get id) ∧ Ow h' 3 1 (.slice fa n fc) n (q.2.1.map (.int .i64)) ∧ Ow h' 3 1 q.2.2.2 q.2.2.1.length (q.2.2.1.map (.int .i64)) ∧
      (∀ id, idOf (.slice fa n fc) id → A id) ∧ (∀ id, idOf q.2.2.2 id → A id) ∧ ∀ id, idOf q.2.2.2 id → ¬ idOf (.slice fa n fc) id)
    (fun q => n - q.1) (by kernel_rfl) (0, (List.replicate n (-1)).set ((m : Nat) : Int).toNat 0, [((m : Nat) : Int)], slT h6.next 1) ?_ ?_ ?_
  · simp (maxSteps := 1000000) (disch := first | omega | (simp only [AM.DB, List.length_set, List.length_map]; first | done | omega)) only [AM.RB, Nat.reduceAdd, Nat.reduceMul, Nat.reduceEqDiff, reduceCtorEq, b44_GR5]
    first | rfl | skip
  · refine ⟨fun j => ?_, [], _, rfl, bf0, rfl, Nat.zero_le _, Nat.zero_le _, J0, hA0, by show h0.next ≤ h7.next; omega, by show h7.low = h0.low; exact fr07.low, fun id q => ?_, o7, t7, fun id q => .inl q, fun id q => .inr q, fun id q r => ?_⟩
    · show ((List.replicate n (-1 : Int)).set ((m : Nat) : Int).toNat 0).getD j 0 ≤ 0
      rw [Int.toNat_natCast]
      by_cases hj : j < n
      · rw [getD_set _ _ _ _ (by simpa using hj)]
        split
        · exact Int.le_refl _
        · simp [List.getD, hj]
      · simp [List.getD, show ((List.replicate n (-1 : Int)).set m 0)[j]? = none by simp; omega]
    · refine fr07.old id ?_ (fun q => q)
      rcases q with rfl | rfl | rfl | q
      · omega
      · omega
      · omega
      · have := hR id q; omega
    · have q : id = h6.next := q
      have := o6.lt r; omega
  rintro ⟨i, far, T, tv⟩ h1 ρ ⟨hfb, P, A, hPl, bf, hdrop, hin, hil, hJi, hA, hnx1, hlw1, hk, of, ot, fA, tA, tf⟩
  simp only at hfb hPl bf hdrop hin hil hJi of ot tA tf
  obtain ⟨ta, tc, rfl⟩ := ot.form
  have hl1 : h1.low ≤ h1.next := by omega
  have hTn : P.length + T.length ≤ n := by have := nodup_len bf.nd bf.dom; simp at this; omega
  (first | (simp (maxSteps := 1000000) (disch := first | omega | (simp only [AM.DB, List.length_set, List.length_map]; first | done | omega)) only [AM.RB, Nat.reduceAdd, Nat.reduceMul, Nat.reduceEqDiff, reduceCtorEq, b44_GR5]) | skip)
  refine AM.condV_split (fun hlt => ?_) (fun hlt => ?_)
  case' refine_2 =>
    have hT : T = [] := List.eq_nil_of_length_eq_zero (by omega)
    subst hT
    (first | (simp (maxSteps := 1000000) (disch := first | omega | (simp only [AM.DB, List.length_set, List.length_map]; first | done | omega)) only [AM.RB, Nat.reduceAdd, Nat.reduceMul, Nat.reduceEqDiff, reduceCtorEq, b44_GR5]) | skip)
    have e : (bfs N n m).length = i := by
      have h1 := congrArg List.length hdrop
      have h2 : bfsL N (n - i) (far, []) = [] := by cases n - i <;> rfl
      rw [h2, List.length_drop, List.length_nil] at h1
      omega
    refine ⟨A, hA, hnx1, hlw1, .inl ?_⟩
    rw [List.length_map, e]
    exact hJi
  obtain ⟨a, T', rfl⟩ : ∃ a T', T = a :: T' := by
    cases T with
    | nil => simp at hlt
    | cons a T' => exact ⟨a, T', rfl⟩
  have hlT : (a :: T').length = T'.length + 1 := rfl
  obtain ⟨kk, hk2⟩ : ∃ k, n - i = k + 1 := ⟨n - i - 1, by simp only [List.length_cons] at hTn; omega⟩
  rw [hk2] at hdrop
  have hdrop' : (bfs N n m).drop i = (a, far.getD a.toNat 0) :: bfsL N kk (visitL (far.getD a.toNat 0) (N a) (far, T')) := hdrop
  have hget : (bfs N n m)[i]? = some (a, far.getD a.toNat 0) := by
    have := congrArg (fun l => l[0]?) hdrop'
    simpa using this
  have had := bf.dom a (by simp)
  have tget : (a :: T').getD 0 0 = a := rfl
  have ot' := ot
  rcases ot with ⟨_, z, _⟩ | ⟨tid, toff, tcap, tcs, to', te, tnc, tg, tfit, tdr, tlo⟩
  · simp at z
  cases te
  have hel : tcs[toff]? = some (.int .i64 a) := by
    have := congrArg (fun l => l[0]?) tdr
    rw [List.getElem?_take, if_pos (by simp), List.getElem?_drop] at this
    simpa using this
  have t0 : (0 : Int).toNat = 0 := rfl
  have t1 : (1 : Int).toNat = 1 := rfl
  obtain ⟨ai, rfl⟩ := Int.eq_ofNat_of_zero_le had.1
  have tai : ((ai : Nat) : Int).toNat = ai := Int.toNat_natCast ai
  have hai : ai < n := by omega
  (first | (simp (maxSteps := 1000000) (disch := first | omega | (simp only [AM.DB, List.length_set, List.length_map]; first | done | omega)) only [AM.RB, Nat.reduceAdd, Nat.reduceMul, Nat.reduceEqDiff, reduceCtorEq, b44_GR5, tg, hel, t0, Nat.add_zero, AM.slc el_26 tg, AM.slbs_lo_i, t1, of.ia el_26, of.rd.ldi lk_3, tai]) | skip)
  have ct := AM.Ow.cut (i := 1) (j := T'.length + 1) (m := tc) ot' (by omega) (Nat.le_refl _) tnc (Nat.le_refl _)
  have ecut : (List.drop (1 * 1) (List.map (Value.int .i64) ((ai : Int) :: T'))).take ((T'.length + 1 - 1) * 1) = T'.map (.int .i64) := by simp only [Nat.mul_one, List.map_cons, List.drop_succ_cons, List.drop_zero, Nat.add_sub_cancel]; exact List.take_of_length_le (by simp)
  rw [ecut] at ct
  simp only [Nat.add_sub_cancel] at ct
  have hd0 := hfb ai
  generalize hdd : far.getD ai 0 = d at *
  have hdpos : 0 ≤ d := by
    have := (bf.vis (ai : Int) had.1 had.2).2 (by simp)
    rw [tai, hdd] at this; exact this
  rw [tai, hdd] at hget hdrop'
  refine AM.CallW.mono (hy i [.int .i64 ai, .int .i64 d] A h1 (by rw [List.getElem?_map, hget]; rfl) hJi hA hnx1 hlw1 hk) ?_
  rintro v h2 ⟨b, rfl, q1, q2, q3, q4⟩
  have hRlt : ∀ id, (id = b1 ∨ id = b2 ∨ id = b3 ∨ R id) → id < h.next := fun id q => by
    rcases q with rfl | rfl | rfl | q
    · exact lt1
    · exact lt2
    · exact lt3
    · exact hR id q
  have k2' : ∀ id, (id = b1 ∨ id = b2 ∨ id = b3 ∨ R id) → h2.get id = h0.get id := fun id q => by
    rw [q3 id (by have := hRlt id q; omega) (.inr q), hk id q]
  have hA2 : ∀ id, A id → h0.next ≤ id ∧ id < h2.next := fun id q => ⟨(hA id q).1, by have := (hA id q).2; omega⟩
  cases b with
  | false =>
    (first | (simp (maxSteps := 1000000) (disch := first | omega | (simp only [AM.DB, List.length_set, List.length_map]; first | done | omega)) only [AM.RB, Nat.reduceAdd, Nat.reduceMul, Nat.reduceEqDiff, reduceCtorEq, b44_GR5]) | skip)
    exact ⟨A, hA2, by omega, by omega, .inr q4⟩
  | true =>
    simp only [if_true] at q4
    have of2 := of.same (fun id q => q3 id (of.lt q) (.inl (fA id q))) q2
    have ct2 := ct.same (fun id q => q3 id (ct.lt q) (.inl (tA id q))) q2
    have k23 : h2.get b3 = some (.cells [f] e3 o3) := by rw [k2' b3 (.inr (.inr (.inl rfl)))]; exact k3
    (first | (simp (maxSteps := 1000000) (disch := first | omega | (simp only [AM.DB, List.length_set, List.length_map]; first | done | omega)) only [AM.RB, Nat.reduceAdd, Nat.reduceMul, Nat.reduceEqDiff, reduceCtorEq, b44_GR5, k23]) | skip)
    refine hf h2 (by omega) (by omega) (fun id q => by rw [k2' id (.inr (.inr (.inr q))), kR id q]) ai had.1 had.2 _ fun v3 h3 r3 fr3 hid3 => ?_
    obtain ⟨va, vc, rfl⟩ := r3.form
    have J3 : J (i + 1) A h3 := hJ (i + 1) A A h2 h3 q4 fr3.weak (fun _ q => q) (fun _ q => .inl q)
    have of3 := of2.fr0 fr3
    have ct3 := ct2.fr0 fr3
    have n3 := fr3.next
    have w3 := fr3.low
    have hNlen := hNl ai had
    have bfp := bf.pop
    (first | (simp (maxSteps := 1000000) (disch := first | omega | (simp only [AM.DB, List.length_set, List.length_map]; first | done | omega)) only [AM.RB, Nat.reduceAdd, Nat.reduceMul, Nat.reduceEqDiff, reduceCtorEq, b44_GR5]) | skip)
    refine AM.loop_w hp 60 (fun q : Nat × List Int × List Int × Value => [(0, y), (1, pv b1), (2, pv b2), (3, pv b3), (5, .slice fa n fc), (6, q.2.2.2), (7, .int .i64 ai), (36, .slice va (N ai).length vc), (37, .int .i64 (N ai).length), (38, .int .i64 q.1)])
      (fun q h' => q.1 ≤ (N ai).length ∧ Bf N n m P [(ai : Int)] q.2.2.1 q.2.1 ∧ visitL d ((N ai).drop q.1) (q.2.1, q.2.2.1) = visitL d (N ai) (far, T') ∧ q.2.1.getD ai 0 = d ∧ (∀ j, q.2.1.getD j 0 ≤ (i : Int) + 1) ∧ ∃ A', J (i + 1) A' h' ∧ (∀ id, A' id → h0.next ≤ id ∧ id < h'.next) ∧ h3.next ≤ h'.next ∧ h'.low = h0.low ∧
        (∀ id, (id = b1 ∨ id = b2 ∨ id = b3 ∨ R id) → h'.get id = h0.get id) ∧ Rd h' 3 1 (.slice va (N ai).length vc) (N ai).length ((N ai).map (.int .i64)) ∧ Ow h' 3 1 (.slice fa n fc) n (q.2.1.map (.int .i64)) ∧ Ow h' 3 1 q.2.2.2 q.2.2.1.length (q.2.2.1.map (.int .i64)) ∧
        (∀ id, idOf (.slice fa n fc) id → A' id) ∧ (∀ id, idOf q.2.2.2 id → A' id) ∧ (∀ id, idOf q.2.2.2 id → ¬ idOf (.slice fa n fc) id) ∧ ∀ id, idOf (.slice va (N ai).length vc) id → ¬ A' id)
      (fun q => (N ai).length - q.1) (by kernel_rfl) (0, far, T', .slice (some ⟨tid, toff + 1 * 1, none⟩) T'.length (tc - 1)) ?_ ?_ ?_
    · simp (maxSteps := 1000000) (disch := first | omega | (simp only [AM.DB, List.length_set, List.length_map]; first | done | omega)) only [AM.RB, Nat.reduceAdd, Nat.reduceMul, Nat.reduceEqDiff, reduceCtorEq, b44_GR5]
      first | rfl | skip
    · refine ⟨Nat.zero_le _, bfp, rfl, hdd, fun j => ?_, A, J3, fun id q => ⟨(hA id q).1, by have := (hA2 id q).2; omega⟩, Nat.le_refl _, by omega, fun id q => ?_, r3, of3, ct3, fA, tA, tf, fun id q r => ?_⟩
      · have := hfb j; simp only; omega
      · rw [fr3.old id (by have := hRlt id q; omega) (fun q => q), k2' id q]
      · rcases hid3 id q with q | q
        · have := hR id q; have := (hA id r).1; omega
        · have := (hA2 id r).2; omega
    rintro ⟨k, far2, T2, tv2⟩ h4 ρ4 ⟨hkn, bf2, hvis, hda, hfb2, A', J4, hA4, hnx4, hlw4, hk4, r4, of4, ot4, fA4, tA4, tf4, vA4⟩
    simp only at hkn bf2 hvis hda hfb2 ot4 tA4 tf4
    obtain ⟨ta2, tc2, rfl⟩ := ot4.form
    (first | (simp (maxSteps := 1000000) (disch := first | omega | (simp only [AM.DB, List.length_set, List.length_map]; first | done | omega)) only [AM.RB, Nat.reduceAdd, Nat.reduceMul, Nat.reduceEqDiff, reduceCtorEq, b44_GR5]) | skip)
    refine AM.condV_split (fun hlt4 => ?_) (fun hlt4 => ?_)
    · have hkl : k < (N ai).length := by omega
      have hbm : (N ai).getD k 0 ∈ N ai := by simp [List.getD, hkl]
      have hbd := hN ai had _ hbm
      have edr : (N ai).drop k = (N ai).getD k 0 :: (N ai).drop (k + 1) := by
        rw [List.drop_eq_getElem_cons hkl]; simp [List.getD, hkl]
      generalize hb : (N ai).getD k 0 = b at *
      obtain ⟨bi, rfl⟩ := Int.eq_ofNat_of_zero_le hbd.1
      have hbn : bi < n := by omega
      rw [edr] at hvis
      have hvis' : visitL d ((N ai).drop (k + 1)) (if 0 ≤ far2.getD bi 0 then (far2, T2) else (far2.set bi (d + 1), T2 ++ [(bi : Int)])) = visitL d (N ai) (far, T') := hvis
      by_cases hv : 0 ≤ far2.getD bi 0
      · have dv : decide (0 ≤ far2.getD bi 0) = true := decide_eq_true hv
        rw [if_pos hv] at hvis'
        (first | (simp (maxSteps := 1000000) (disch := first | omega | (simp only [AM.DB, List.length_set, List.length_map]; first | done | omega)) only [AM.RB, Nat.reduceAdd, Nat.reduceMul, Nat.reduceEqDiff, reduceCtorEq, b44_GR5, r4.ia el_26, r4.ldi lk_3, of4.ia el_26, of4.rd.ldi lk_3, Int.toNat_natCast, hb, dv, AM.wrap_i64]) | skip)
        refine ⟨(k + 1, far2, T2, _), by simp only; omega, ?_, by simp only; omega, bf2, hvis', hda, hfb2, A', J4, hA4, hnx4, hlw4, hk4, r4, of4, ot4, fA4, tA4, tf4, vA4⟩
        simp (maxSteps := 1000000) (disch := first | omega | (simp only [AM.DB, List.length_set, List.length_map]; first | done | omega)) only [AM.RB, Nat.reduceAdd, Nat.reduceMul, Nat.reduceEqDiff, reduceCtorEq, b44_GR5]
        first | rfl | skip
      · have dv : decide (0 ≤ far2.getD bi 0) = false := decide_eq_false hv
        rw [if_neg hv] at hvis'
        have wd : IntKind.i64.wrap (d + 1) = d + 1 := AM.wrap_i64 (by omega) (by omega)
        have bf3 := bf2.new hN hbm (by rw [Int.toNat_natCast]; exact hv)
        rw [tai, hda, Int.toNat_natCast] at bf3
        have hTn2 : T2.length ≤ n := by have := nodup_len bf2.nd bf2.dom; simp at this; omega
        have lw4 : h4.low ≤ h4.next := by omega
        (first | (simp (maxSteps := 1000000) (disch := first | omega | (simp only [AM.DB, List.length_set, List.length_map]; first | done | omega)) only [AM.RB, Nat.reduceAdd, Nat.reduceMul, Nat.reduceEqDiff, reduceCtorEq, b44_GR5, r4.ia el_26, r4.ldi lk_3, of4.ia el_26, of4.rd.ldi lk_3, Int.toNat_natCast, hb, dv, hda, wd]) | skip)
        refine of4.st sz_3 (j := bi) hbn rfl rfl fun h5 of5 fr5 n5 => ?_
        rw [← List.map_set] at of5
        have w5 := fr5.low
        have ot5 := ot4.fr fr5 fun id q e => tf4 id q e
        have r5 := r4.fr fr5 fun id q e => vA4 id q (fA4 id e)
        (first | (simp (maxSteps := 1000000) (disch := first | omega | (simp only [AM.DB, List.length_set, List.length_map]; first | done | omega)) only [AM.RB, Nat.reduceAdd, Nat.reduceMul, Nat.reduceEqDiff, reduceCtorEq, b44_GR5]) | skip)
        generalize hE_ : AHeap.alloc h5 _ = h6; obtain ⟨g6, fr6, n6, l6⟩ := AM.new_get hE_; clear hE_
        refine AM.appends_w ap_26 ap_26 (ot5.fr0 fr6) (AM.Rd.whole (n := 1) (c := [.int .i64 (bi : Int)]) g6 rfl) rfl (by omega) (AM.fits (by omega) (by omega)) (AM.fits' (by omega)) fun tv7 h7' ot7 fr7' hid7 => ?_
        have n7' := fr7'.next
        have w7' := fr7'.low
        have of6 := of5.fr0 fr6
        have of7 := of6.fr fr7' fun id q e => tf4 id e q
        have r7 := (r5.fr0 fr6).fr fr7' fun id q e => vA4 id q (tA4 id e)
        (first | (simp (maxSteps := 1000000) (disch := first | omega | (simp only [AM.DB, List.length_set, List.length_map]; first | done | omega)) only [AM.RB, Nat.reduceAdd, Nat.reduceMul, Nat.reduceEqDiff, reduceCtorEq, b44_GR5, AM.wrap_i64]) | skip)
        have frA : Fr A' h4 h7' := ((fr5.mono fun id _ q => fA4 id q).then fr6 fun _ _ q => q.elim).then fr7' fun id _ q => tA4 id q
        have hid7' : ∀ id, idOf tv7 id → A' id ∨ h4.next ≤ id := fun id q => (hid7 id q).imp (tA4 id) (fun q => by omega)
        refine ⟨(k + 1, far2.set bi (d + 1), T2 ++ [(bi : Int)], tv7), by simp only; omega, ?_, by simp only; omega, bf3, hvis', ?_, fun j => ?_, fun id => A' id ∨ idOf tv7 id, ?_, fun id q => ?_, by omega, by omega, fun id q => ?_, r7, of7, ?_, fun id q => .inl (fA4 id q), fun id q => .inr q, fun id q r => ?_, fun id q r => ?_⟩
        · simp (maxSteps := 1000000) (disch := first | omega | (simp only [AM.DB, List.length_set, List.length_map]; first | done | omega)) only [AM.RB, Nat.reduceAdd, Nat.reduceMul, Nat.reduceEqDiff, reduceCtorEq, b44_GR5]
          first | rfl | skip
        · have hne : bi ≠ ai := fun e => by rw [e, hda] at hv; exact hv hdpos
          rw [getD_set _ _ _ _ (by rw [bf2.len]; exact hai), if_neg hne]; exact hda
        · by_cases hj : j < far2.length
          · simp only
            rw [getD_set _ _ _ _ hj]
            split
            · omega
            · exact hfb2 j
          · have e1 : (far2.set bi (d + 1)).getD j 0 = 0 := by simp only [List.getD, List.getElem?_eq_none (show (far2.set bi (d + 1)).length ≤ j by rw [List.length_set]; omega)]; rfl
            simp only; rw [e1]; omega
        · exact hJ (i + 1) A' _ h4 h7' J4 frA (fun id q => .inl q) (fun id q => q.elim .inl (hid7' id))
        · rcases q with q | q
          · have := hA4 id q; omega
          · have := ot7.lt q
            rcases hid7' id q with q | q
            · have := hA4 id q; omega
            · omega
        · have hlt0 := hRlt id q
          rw [frA.old id (by omega) (fun e => by have := hA4 id e; omega), hk4 id q]
        · simpa using ot7
        · rcases hid7 id q with q | q
          · exact tf4 id q r
          · have := of6.lt r; omega
        · rcases r with r | r
          · exact vA4 id q r
          · rcases hid7 id r with r | r
            · exact vA4 id q (tA4 id r)
            · have := r4.lt q; omega
    · obtain rfl : k = (N ai).length := by omega
      rw [List.drop_length] at hvis
      have hvis' : (far2, T2) = visitL d (N ai) (far, T') := hvis
      have hv := Bf.visit hN (N ai) bfp (fun c hc => hc)
      rw [tai, hdd, ← hvis'] at hv
      have bf3 := bf2.done hv.2.1
      rw [← hvis'] at hdrop'
      have hdr : (bfs N n m).drop (i + 1) = bfsL N (n - (i + 1)) (far2, T2) := by
        rw [← List.drop_drop, hdrop', show n - (i + 1) = kk by omega]; rfl
      have hil2 : i < (bfs N n m).length := (List.getElem?_eq_some_iff.1 hget).1
      (first | (simp (maxSteps := 1000000) (disch := first | omega | (simp only [AM.DB, List.length_set, List.length_map]; first | done | omega)) only [AM.RB, Nat.reduceAdd, Nat.reduceMul, Nat.reduceEqDiff, reduceCtorEq, b44_GR5]) | skip)
      refine ⟨(i + 1, far2, T2, _), by simp only; omega, ?_, fun j => ?_, P ++ [(ai : Int)], A', by simp [hPl], bf3, hdr, by simp only; omega, by simp only; omega, J4, hA4, by omega, hlw4, hk4, of4, ot4, fA4, tA4, tf4⟩
      · simp (maxSteps := 1000000) (disch := first | omega | (simp only [AM.DB, List.length_set, List.length_map]; first | done | omega)) only [AM.RB, Nat.reduceAdd, Nat.reduceMul, Nat.reduceEqDiff, reduceCtorEq, b44_GR5]
        first | rfl | skip
      · have := hfb2 j; simp only; omega
end Go.Proofs.Ytnkbdbopiancmaa

namespace Go.Proofs.Ytnkbdbopiancmaa
open Go.AM
set_option maxRecDepth 8000
theorem b33_GR6 : type_of% (And.intro (@List.map_toArray.{0,0}) (And.intro (@AM.boxK_agg) (And.intro (@AM.boxK_bool) (And.intro (@AM.boxK_func) (And.intro (@AM.boxK_int) (And.intro (@AM.boxK_map) (And.intro (@AM.boxK_pointer) (And.intro (@AM.boxK_slice) (And.intro (@AM.boxK_string) (And.intro (@AM.op_box) (@AM.op_makeFunc))))))))))) := And.intro (@List.map_toArray.{0,0}) (And.intro (@AM.boxK_agg) (And.intro (@AM.boxK_bool) (And.intro (@AM.boxK_func) (And.intro (@AM.boxK_int) (And.intro (@AM.boxK_map) (And.intro (@AM.boxK_pointer) (And.intro (@AM.boxK_slice) (And.intro (@AM.boxK_string) (And.intro (@AM.op_box) (@AM.op_makeFunc))))))))))
theorem b34_GR6 : type_of% (And.intro (@AM.fa_ptr) (And.intro (@fd_53_0) (And.intro (@AM.iaO_ok) (And.intro (AM.ia_slice el_51) (And.intro (@AM.ldO_agg) (And.intro (@AM.ldO_one) (And.intro (@AM.ld_ptr) (And.intro (@lk_24) (And.intro (@lk_26) (And.intro (@lk_51) (And.intro (@AM.op_fieldAddr) (And.intro (@AM.op_indexAddr) (And.intro (@AM.op_load) (@AM.op_nilCheck)))))))))))))) := And.intro (@AM.fa_ptr) (And.intro (@fd_53_0) (And.intro (@AM.iaO_ok) (And.intro (AM.ia_slice el_51) (And.intro (@AM.ldO_agg) (And.intro (@AM.ldO_one) (And.intro (@AM.ld_ptr) (And.intro (@lk_24) (And.intro (@lk_26) (And.intro (@lk_51) (And.intro (@AM.op_fieldAddr) (And.intro (@AM.op_indexAddr) (And.intro (@AM.op_load) (@AM.op_nilCheck)))))))))))))
theorem b39_GR6 : type_of% (And.intro (@AM.fa_ptr) (And.intro (@fd_53_1) (And.intro (@AM.iaO_ok) (And.intro (AM.ia_slice el_51) (And.intro (@AM.ldO_agg) (And.intro (@AM.ldO_one) (And.intro (@AM.ld_ptr) (And.intro (@lk_24) (And.intro (@lk_26) (And.intro (@lk_51) (And.intro (@AM.op_fieldAddr) (And.intro (@AM.op_indexAddr) (And.intro (@AM.op_load) (@AM.op_nilCheck)))))))))))))) := And.intro (@AM.fa_ptr) (And.intro (@fd_53_1) (And.intro (@AM.iaO_ok) (And.intro (AM.ia_slice el_51) (And.intro (@AM.ldO_agg) (And.intro (@AM.ldO_one) (And.intro (@AM.ld_ptr) (And.intro (@lk_24) (And.intro (@lk_26) (And.intro (@lk_51) (And.intro (@AM.op_fieldAddr) (And.intro (@AM.op_indexAddr) (And.intro (@AM.op_load) (@AM.op_nilCheck)))))))))))))


theorem grWalk_w {h : AHeap} {n r : Int} {k : Nat} {c : Array Value} {Q : VQ} (hq : ∀ h2, h2.get h.next = some (.cells [.int .i64 n] 3 false) → h2.get (h.next + 1) = some (.cells [.int .i64 r] 3 false) →
    (∃ e, h2.get (h.next + 2) = some (.cells [.func (.func k) #[] c] e false)) → Fr none' h h2 → h2.next = h.next + 3 → h2.low = h.low → Q (.func (.func 44) #[] #[pv h.next, pv (h.next + 1), pv (h.next + 2)]) h2) : W 33 [.int .i64 n, .int .i64 r, .func (.func k) #[] c] h Q := by
  refine AM.enter hp (fn := Try.f33) (rs := [.tmp 6]) (nt := 8) (by kernel_rfl) Try.func33 rfl rfl rfl (by kernel_rfl) ?_
  (first | (simp (maxSteps := 1000000) (disch := first | omega | (simp only [AM.DB, List.length_set, List.length_map]; first | done | omega)) only [AM.RB, Nat.reduceAdd, Nat.reduceMul, Nat.reduceEqDiff, reduceCtorEq, b33_GR6]) | skip)
  generalize hE_ : AHeap.alloc (AHeap.alloc (AHeap.alloc h _) _) _ = h2
  refine hq h2 ?_ ?_ ⟨_, by rw [← hE_]; exact AM.get_alloc_self (by simp)⟩ ?_ (by rw [← hE_]; rfl) (by rw [← hE_]; rfl)
  · rw [← hE_, AM.get_alloc_ne (by simp; omega), AM.get_alloc_ne (by simp), AM.get_alloc_self rfl]
  · rw [← hE_, AM.get_alloc_ne (by simp), AM.get_alloc_self (by simp)]
  · rw [← hE_]; exact (((Fr.refl _ _).alloc _).alloc _).alloc _

theorem mem_outsI {n : Nat} {E : Nat → Nat → Bool} {a b : Int} : b ∈ outsI n E a ↔ eI n E a b = true := by
  unfold outsI
  by_cases ha : 0 ≤ a ∧ a < n
  · rw [if_pos ha]
    have := mem_row (n := n) (E := E) (a := a.toNat) (by omega) (b := b)
    rw [show ((a.toNat : Nat) : Int) = a by omega] at this
    rw [← this]; simp
  · rw [if_neg ha]
    unfold eI
    rw [decide_eq_false (fun q => ha q.1), Bool.false_and]
    simp
def innI (n : Nat) (E : Nat → Nat → Bool) (b : Int) : List Int := if 0 ≤ b ∧ b < n then outs (fun a => E a b.toNat) n else []
theorem outsI_len (n : Nat) (E : Nat → Nat → Bool) (a : Int) : (outsI n E a).length ≤ n := by unfold outsI; split; exact outs_len _ _; simp
theorem innI_len (n : Nat) (E : Nat → Nat → Bool) (a : Int) : (innI n E a).length ≤ n := by unfold innI; split; exact outs_len _ _; simp

theorem nextOut {h : AHeap} {bx p n : Nat} {E : Nat → Nat → Bool} {S : Nat → Prop} {e : TypeId} {o : Bool} (x : Gt h p n E S) (gx : h.get bx = some (.cells [pv p] e o)) : NextF (.func (.func 34) #[] #[pv bx]) n (outsI n E) (fun id => id = bx ∨ S id) h := by
  intro h' hn hl hk a a0 a1 Q hq
  have gx' : h'.get bx = some (.cells [pv p] e o) := by rw [hk bx (.inl rfl)]; exact gx
  obtain ⟨nid, bid, X, x⟩ := x
  have g := x.g
  have g' : h'.get p = some (.cells [slT nid n, slT bid n] 53 false) := by rw [hk p (.inr x.sp.1)]; exact g
  have gn' : h'.get nid = some (.cells ((List.range n).map X) 26 false) := by rw [hk nid (.inr x.sp.2.1)]; exact x.bk.g1
  obtain ⟨k, rfl⟩ := Int.eq_ofNat_of_zero_le a0
  have hkn : k < n := by omega
  have hxa : ((List.range n).map X)[k]? = some (X k) := by rw [List.getElem?_map, List.getElem?_range hkn]; rfl
  have r := (x.bk.ow k (by omega)).rd.same (h' := h') (fun id q => hk id (.inr (x.sx k (by omega) id q)))
  have er : rowsE n E k = outsI n E k := by unfold rowsE outsI; rw [if_pos hkn, if_pos (by omega), Int.toNat_natCast]
  rw [er] at r
  refine AM.enter hp (fn := Try.f34) (rs := [.tmp 3]) (nt := 11) (by kernel_rfl) Try.func34 rfl rfl rfl (by kernel_rfl) ?_
  (first | (simp (maxSteps := 1000000) (disch := first | omega | (simp only [AM.DB, List.length_set, List.length_map]; first | done | omega)) only [AM.RB, Nat.reduceAdd, Nat.reduceMul, Nat.reduceEqDiff, reduceCtorEq, b34_GR6, gx', g', gn', hxa, Nat.mul_one, Nat.zero_add, Int.toNat_natCast]) | skip)
  exact hq _ _ r (Fr.refl _ _) (fun id q => .inl (.inr (x.sx k (by omega) id q)))
theorem nextIn {h : AHeap} {bx p n : Nat} {E : Nat → Nat → Bool} {S : Nat → Prop} {e : TypeId} {o : Bool} (x : Gt h p n E S) (gx : h.get bx = some (.cells [pv p] e o)) : NextF (.func (.func 39) #[] #[pv bx]) n (innI n E) (fun id => id = bx ∨ S id) h := by
  intro h' hn hl hk a a0 a1 Q hq
  have gx' : h'.get bx = some (.cells [pv p] e o) := by rw [hk bx (.inl rfl)]; exact gx
  obtain ⟨nid, bid, X, x⟩ := x
  have g := x.g
  have g' : h'.get p = some (.cells [slT nid n, slT bid n] 53 false) := by rw [hk p (.inr x.sp.1)]; exact g
  have gn' : h'.get bid = some (.cells ((List.range n).map fun j => X (n + j)) 26 false) := by rw [hk bid (.inr x.sp.2.2)]; exact x.bk.g2
  obtain ⟨k, rfl⟩ := Int.eq_ofNat_of_zero_le a0
  have hkn : k < n := by omega
  have hxa : ((List.range n).map fun j => X (n + j))[k]? = some (X (n + k)) := by rw [List.getElem?_map, List.getElem?_range hkn]; rfl
  have r := (x.bk.ow (n + k) (by omega)).rd.same (h' := h') (fun id q => hk id (.inr (x.sx (n + k) (by omega) id q)))
  have er : rowsE n E (n + k) = innI n E k := by unfold rowsE innI; rw [if_neg (by omega), if_pos (by omega), Int.toNat_natCast, Nat.add_sub_cancel_left]
  rw [er] at r
  refine AM.enter hp (fn := Try.f39) (rs := [.tmp 3]) (nt := 11) (by kernel_rfl) Try.func39 rfl rfl rfl (by kernel_rfl) ?_
  (first | (simp (maxSteps := 1000000) (disch := first | omega | (simp only [AM.DB, List.length_set, List.length_map]; first | done | omega)) only [AM.RB, Nat.reduceAdd, Nat.reduceMul, Nat.reduceEqDiff, reduceCtorEq, b39_GR6, gx', g', gn', hxa, Nat.mul_one, Nat.zero_add, Int.toNat_natCast]) | skip)
  exact hq _ _ r (Fr.refl _ _) (fun id q => .inl (.inr (x.sx (n + k) (by omega) id q)))
end Go.Proofs.Ytnkbdbopiancmaa
