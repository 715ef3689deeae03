/- Walks of this claim's functions, and plain laws. -/
import Derived.Test.YtdimjemgganegaaDoorWc
set_option linter.unusedSimpArgs false
set_option linter.unusedVariables false
namespace Go.Proofs.YtdimjemgganegaaDoor
open Go.AM
set_option maxRecDepth 8000
theorem b35_G16 : type_of% (And.intro (@Option.isNone_none.{0}) (And.intro (@Option.isNone_some.{0}) (And.intro (AM.bin_snil ul_29) (And.intro (AM.bsW_int bs_29) (And.intro (AM.bsW_nil bs_29) (And.intro (AM.bsW_slice bs_29) (And.intro (AM.bsW_string bs_29) (And.intro (@AM.op_append) (And.intro (@AM.op_binOp) (@AM.op_buildSlice)))))))))) := And.intro (@Option.isNone_none.{0}) (And.intro (@Option.isNone_some.{0}) (And.intro (AM.bin_snil ul_29) (And.intro (AM.bsW_int bs_29) (And.intro (AM.bsW_nil bs_29) (And.intro (AM.bsW_slice bs_29) (And.intro (AM.bsW_string bs_29) (And.intro (@AM.op_append) (And.intro (@AM.op_binOp) (@AM.op_buildSlice)))))))))


/-! ### Next, Back -/
theorem callW_first {g : FuncId} {x : Value} {h : AHeap} {Q : VQ} (hh : W g [x] h Q) : CallW Tryd.prog prims (.func (.func g) #[x] #[]) [] h Q := by
  obtain ⟨n, v, h', e, q⟩ := hh
  refine ⟨n, v, h', ?_, q⟩
  rw [← e]
  cases n with
  | zero => rfl
  | succ n => unfold callE; rfl
theorem do_w {p off : Nat} {h : AHeap} {c : List Value} {e : TypeId} {d s : Int} {Q : VQ} (hg : h.get p = some (.cells c e false)) (h0 : c[off]? = some (.int .u32 d)) (h1 : c[off + 1]? = some (.int .i32 s)) (hl : h.low ≤ p)
    (hdone : d ≠ 0 → Q (.tuple #[]) h)
    (hdo : d = 0 → s = 0 ∧ W 34 [pv p] (h.put p (some (.cells (setRow c (off + 1) [.int .i32 1]) e false))) fun _ h2 => ∃ c2 e2, h2.get p = some (.cells c2 e2 false) ∧ c2[off]? = some (.int .u32 0) ∧ c2[off + 1]? = some (.int .i32 1) ∧
      Q (.tuple #[]) (h2.put p (some (.cells (setRow c2 off [.int .u32 1, .int .i32 0]) e2 false)))) :
    W 33 [.pointer (some ⟨p, off, none⟩), .func (.func 34) #[pv p] #[]] h Q := by
  by_cases hd : d = 0
  · obtain ⟨hs, hw⟩ := hdo hd
    subst hd; subst hs
    obtain ⟨n, v, h2, hc, c2, e2, k1, k2, k3, hq⟩ := callW_first hw
    refine AM.callW_prim hp (p := pDo) (by unfold prims; rfl) ⟨n, ?_⟩ hq
    show pDo _ _ _ = _
    unfold pDo
    have ha : pDoArg [.pointer (some ⟨p, off, none⟩), .func (.func 34) #[pv p] #[]] h = some (.inr (.func (.func 34) #[pv p] #[], h.put p (some (.cells (setRow c (off + 1) [.int .i32 1]) e false)), p, off)) := by
      unfold pDoArg
      simp [hg, h0, h1, hl]
    simp only [List.append_nil, List.nil_append]
    rw [ha]
    simp only
    rw [hc, Option.bind_some]
    unfold pDoEnd
    simp [k1, k2, k3]
  · refine AM.callW_prim hp (p := pDo) (by unfold prims; rfl) ⟨0, ?_⟩ (hdone hd)
    show pDo _ _ _ = _
    unfold pDo
    have ha : pDoArg [.pointer (some ⟨p, off, none⟩), .func (.func 34) #[pv p] #[]] h = some (.inl (.tuple #[], h)) := by
      unfold pDoArg
      simp [hg, h0, h1, hl, hd]
    simp only [List.append_nil, List.nil_append]
    rw [ha]

theorem clone_w {s : Value} {n : Nat} {cs : List Value} {h : AHeap} (hs : Rd h 3 1 s n cs) (hc : cs.all (·.oneCell') = true) (hn : n ≤ 4000000000) (hl : h.low ≤ h.next) {Q : VQ}
    (hq : ∀ v h', Ow h' 3 1 v n cs → Fr none' h h' → (∀ id, idOf v id → h.next ≤ id) → Q v h') : W 35 [s] h Q := by
  obtain ⟨a, cap, rfl⟩ := hs.form
  refine AM.enter hp (fn := Tryd.f35) (rs := [.tmp 2]) (nt := 8) (by kernel_rfl) Tryd.func35 rfl rfl rfl (by kernel_rfl) ?_
  simp (maxSteps := 1000000) (disch := first | omega | (simp only [AM.DB, List.length_set, List.length_map]; first | done | omega)) only [AM.RB, Nat.reduceAdd, Nat.reduceMul, Nat.reduceEqDiff, reduceCtorEq, b35_G16]
  cases a with
  | none =>
    simp (maxSteps := 1000000) (disch := first | omega | (simp only [AM.DB, List.length_set, List.length_map]; first | done | omega)) only [AM.RB, Nat.reduceAdd, Nat.reduceMul, Nat.reduceEqDiff, reduceCtorEq, b35_G16, Option.isNone_none]
    rcases hs with ⟨e, rfl, rfl⟩ | ⟨id, off, cap', c, e', o, e, _⟩
    · exact hq _ _ (Ow.nil _ _ _) (Fr.refl _ _) (fun _ q => q.elim)
    · cases e
  | some a =>
    simp (maxSteps := 1000000) (disch := first | omega | (simp only [AM.DB, List.length_set, List.length_map]; first | done | omega)) only [AM.RB, Nat.reduceAdd, Nat.reduceMul, Nat.reduceEqDiff, reduceCtorEq, b35_G16, Option.isNone_some]
    have fr0 : Fr none' h (h.alloc (.cells [] 3 false)) := (Fr.refl _ _).alloc _
    have ow0 : Ow (h.alloc (.cells [] 3 false)) 3 1 (.slice (some ⟨h.next, 0, none⟩) 0 0) 0 [] := AM.Ow.whole (n := 0) (AM.get_alloc_self rfl) rfl hl
    have hl1 : (h.alloc (.cells [] 3 false)).low ≤ (h.alloc (.cells [] 3 false)).next := by simp only [AHeap.next_alloc, AHeap.low_alloc]; omega
    refine AM.appends_w ap_29 ap_29 ow0 (hs.fr0 fr0) hc hl1 (AM.fits (by omega) (by omega)) (AM.fits' (by omega)) ?_
    intro v h' how fr hid
    simp (maxSteps := 1000000) (disch := first | omega | (simp only [AM.DB, List.length_set, List.length_map]; first | done | omega)) only [AM.RB, Nat.reduceAdd, Nat.reduceMul, Nat.reduceEqDiff, reduceCtorEq, b35_G16]
    rw [Nat.zero_add] at how
    refine hq _ _ how (fr0.then fr fun id h1 h2 => ?_) (fun id q => ?_)
    · have : id = h.next := h2
      omega
    · rcases hid id q with h2 | h2
      · have : id = h.next := h2
        omega
      · have : h.next + 1 ≤ id := h2
        omega

/-- A map in memory with what it owns; its tables are made, or not yet. -/
def Mt (h : AHeap) (p : Nat) (L : List (List UInt8)) (S : Nat → Prop) : Prop := ∃ kv, (∀ id, idOf kv id → S id) ∧ S p ∧ (∀ id, S id → id < h.next) ∧
  (Mp h p kv L.length (L.getD 0 []).length L.flatten (tlD 0 0 (.slice none 0 0) (.slice none 0 0)) ∨
   ∃ nid bid X, Mp h p kv L.length (L.getD 0 []).length L.flatten (tlD 1 0 (.slice (some ⟨nid, 0, none⟩) L.flatten.length L.flatten.length) (.slice (some ⟨bid, 0, none⟩) L.flatten.length L.flatten.length)) ∧
     Bk h L.flatten.length nid bid X (bothE (edgesTo L.flatten L.length (L.getD 0 []).length L.flatten.length) L.flatten.length) ∧ S nid ∧ S bid ∧ (∀ j, j < 2 * L.flatten.length → ∀ id, idOf (X j) id → S id) ∧ nid ≠ p ∧ bid ≠ p ∧ (∀ j, j < 2 * L.flatten.length → ¬ idOf (X j) p))
theorem Mt.mp {h : AHeap} {p : Nat} {L : List (List UInt8)} {S : Nat → Prop} (m : Mt h p L S) : ∃ kv tl, Mp h p kv L.length (L.getD 0 []).length L.flatten tl := by
  obtain ⟨kv, _, _, _, m | ⟨_, _, _, m, _⟩⟩ := m
  · exact ⟨_, _, m⟩
  · exact ⟨_, _, m⟩
theorem Mp.same {h h' : AHeap} {p : Nat} {kv : Value} {R C : Nat} {K : List UInt8} {tl : List Value} (m : Mp h p kv R C K tl) (h1 : h'.get p = h.get p) (h2 : ∀ id, idOf kv id → h'.get id = h.get id) (hl : h'.low = h.low) : Mp h' p kv R C K tl :=
  ⟨by rw [h1]; exact m.1, m.2.1.same h2 hl, m.2.2.1, by rw [hl]; exact m.2.2.2.1, m.2.2.2.2⟩
theorem Mt.keep {h h' : AHeap} {p : Nat} {L : List (List UInt8)} {S : Nat → Prop} (m : Mt h p L S) (hS : ∀ id, S id → h'.get id = h.get id) (hn : h.next ≤ h'.next) (hl : h'.low = h.low) : Mt h' p L S := by
  obtain ⟨kv, s1, s2, s3, m⟩ := m
  refine ⟨kv, s1, s2, fun id q => Nat.lt_of_lt_of_le (s3 id q) hn, ?_⟩
  rcases m with m | ⟨nid, bid, X, m, b, s4, s5, s6, s7⟩
  · exact .inl (m.same (hS _ s2) (fun id q => hS id (s1 id q)) hl)
  · refine .inr ⟨nid, bid, X, m.same (hS _ s2) (fun id q => hS id (s1 id q)) hl, b.same ?_ hl, s4, s5, s6, s7⟩
    rintro id (rfl | rfl | ⟨j, hj, q⟩)
    · exact hS _ s4
    · exact hS _ s5
    · exact hS _ (s6 j hj id q)
theorem Mt.fr {h h' : AHeap} {p : Nat} {L : List (List UInt8)} {S T : Nat → Prop} (m : Mt h p L S) (fr : Fr T h h') (hT : ∀ id, S id → ¬ T id) : Mt h' p L S := by
  have s3 := m.choose_spec.2.2.1
  exact m.keep (fun id q => fr.old id (s3 id q) (hT id q)) fr.next fr.low
theorem Mt.fr0 {h h' : AHeap} {p : Nat} {L : List (List UInt8)} {S : Nat → Prop} (m : Mt h p L S) (fr : Fr none' h h') : Mt h' p L S := m.fr fr fun _ _ q => q
theorem Mt.lt {h : AHeap} {p : Nat} {L : List (List UInt8)} {S : Nat → Prop} (m : Mt h p L S) {id : Nat} (q : S id) : id < h.next := m.choose_spec.2.2.1 id q
theorem Mt.self {h : AHeap} {p : Nat} {L : List (List UInt8)} {S : Nat → Prop} (m : Mt h p L S) : S p := m.choose_spec.2.1
/-- A text's size. -/
structure Fit (L : List (List UInt8)) : Prop where
  rows : 0 < L.length
  cols : 0 < (L.getD 0 []).length
  r32 : L.length ≤ 32
  c32 : (L.getD 0 []).length ≤ 32
  len : L.flatten.length = L.length * (L.getD 0 []).length
theorem Good.fit {l : List UInt8} {L : List (List UInt8)} (g : Good l L) : Fit L := ⟨g.rows, g.cols, g.r32, g.c32, g.len⟩
abbrev edgesL (L : List (List UInt8)) : List Ed := edgesTo L.flatten L.length (L.getD 0 []).length L.flatten.length
def nextL (L : List (List UInt8)) (i : Int) : List Int := if 0 ≤ i ∧ i < L.flatten.length then fromE (edgesL L) i.toNat else []
def backL (L : List (List UInt8)) (i : Int) : List Int := if 0 ≤ i ∧ i < L.flatten.length then intoE (edgesL L) i.toNat else []
/-- The tables are there afterwards. -/
theorem once_w {h : AHeap} {p : Nat} {L : List (List UInt8)} {S : Nat → Prop} (m : Mt h p L S) (f : Fit L) (hw : h.get GW = some (.cells waysC 89 false)) (hgl : GW < h.low) (hl : h.low ≤ h.next) {Q : VQ}
    (hq : ∀ kv nid bid X h' S', Mp h' p kv L.length (L.getD 0 []).length L.flatten (tlD 1 0 (.slice (some ⟨nid, 0, none⟩) L.flatten.length L.flatten.length) (.slice (some ⟨bid, 0, none⟩) L.flatten.length L.flatten.length)) →
      Bk h' L.flatten.length nid bid X (bothE (edgesL L) L.flatten.length) → Mt h' p L S' → (∀ id, S' id → S id ∨ h.next ≤ id) → Fr (fun id => id = p) h h' → (∀ j, j < 2 * L.flatten.length → ∀ id, idOf (X j) id → S' id) → Q (.tuple #[]) h') :
    W 33 [.pointer (some ⟨p, 3, none⟩), .func (.func 34) #[pv p] #[]] h Q := by
  obtain ⟨kv, s1, s2, s3, m⟩ := id m
  rcases m with m1 | ⟨nid, bid, X, m1, b, s4, s5, s6, s7⟩
  · refine do_w (d := 0) (s := 0) m1.1 rfl rfl m1.2.2.2.1 (fun q => absurd rfl q) (fun _ => ⟨rfl, ?_⟩)
    generalize hE_ : AHeap.put h _ _ = h1
    obtain ⟨g1, fr1, n1, l1⟩ := AM.put_get hE_ (AM.get_some_lt m1.1)
    clear hE_
    have m2 : Mp h1 p kv L.length (L.getD 0 []).length L.flatten (tlD 0 1 (.slice none 0 0) (.slice none 0 0)) :=
      ⟨g1, m1.2.1.fr fr1 (fun id q e => m1.2.2.2.2 (by have e : id = p := e; rw [← e]; exact q)), rfl, by rw [l1]; exact m1.2.2.2.1, m1.2.2.2.2⟩
    have hgp : GW ≠ p := by have := m1.2.2.2.1; omega
    refine tables_w (fr1.get hw hgp) (by rw [l1]; exact hgl) m2 f.rows f.cols f.len ⟨f.r32, f.c32⟩ (by omega) fun nid bid X h2 m3 b fr2 c1 c2 c3 => ?_
    refine ⟨_, _, m3.1, rfl, rfl, ?_⟩
    generalize hE_ : AHeap.put h2 _ _ = h3
    obtain ⟨g3, fr3, n3, l3⟩ := AM.put_get hE_ (AM.get_some_lt m3.1)
    clear hE_
    have lp := AM.get_some_lt m1.1
    have hne : ∀ j, j < 2 * L.flatten.length → ∀ id, idOf (X j) id → id ≠ p := fun j hj id q => by have := c3 j hj id q; omega
    have m4 : Mp h3 p kv L.length (L.getD 0 []).length L.flatten (tlD 1 0 (.slice (some ⟨nid, 0, none⟩) L.flatten.length L.flatten.length) (.slice (some ⟨bid, 0, none⟩) L.flatten.length L.flatten.length)) :=
      ⟨g3, m3.2.1.fr fr3 (fun id q e => m1.2.2.2.2 (by have e : id = p := e; rw [← e]; exact q)), rfl, by rw [l3]; exact m3.2.2.2.1, m1.2.2.2.2⟩
    have b3 : Bk h3 L.flatten.length nid bid X (bothE (edgesL L) L.flatten.length) := by
      refine b.same (fun id q => fr3.old id ?_ ?_) l3
      · rcases q with rfl | rfl | ⟨j, hj, q⟩
        · exact AM.get_some_lt b.g1
        · exact AM.get_some_lt b.g2
        · exact (b.ow j hj).lt q
      · rintro e
        have e : id = p := e
        rcases q with rfl | rfl | ⟨j, hj, q⟩
        · omega
        · omega
        · exact hne j hj id q e
    have fr13 : Fr (fun id => id = p) h h3 := ((fr1.then fr2 fun _ _ q => q).then fr3 fun _ _ q => q)
    have n2 := fr2.next
    have ltn := AM.get_some_lt b3.g1
    have ltb := AM.get_some_lt b3.g2
    refine hq kv nid bid X h3 (fun id => S id ∨ id = nid ∨ id = bid ∨ ∃ j, j < 2 * L.flatten.length ∧ idOf (X j) id) m4 b3 ⟨kv, fun id q => .inl (s1 id q), .inl s2, ?_, .inr ⟨nid, bid, X, m4, b3, .inr (.inl rfl), .inr (.inr (.inl rfl)), fun j hj id q => .inr (.inr (.inr ⟨j, hj, q⟩)), by omega, by omega, fun j hj q => hne j hj p q rfl⟩⟩ ?_ fr13 (fun j hj id q => .inr (.inr (.inr ⟨j, hj, q⟩)))
    · rintro id (q | rfl | rfl | ⟨j, hj, q⟩)
      · have := s3 id q; omega
      · exact ltn
      · exact ltb
      · exact (b3.ow j hj).lt q
    · rintro id (q | rfl | rfl | ⟨j, hj, q⟩)
      · exact .inl q
      · exact .inr (by omega)
      · exact .inr (by omega)
      · exact .inr (by have := c3 j hj id q; omega)
  · refine do_w (d := 1) (s := 0) m1.1 rfl rfl m1.2.2.2.1 (fun _ => ?_) (fun q => by cases q)
    exact hq kv nid bid X h S m1 b ⟨kv, s1, s2, s3, .inr ⟨nid, bid, X, m1, b, s4, s5, s6, s7⟩⟩ (fun id q => .inl q) (Fr.refl _ _) s6

end Go.Proofs.YtdimjemgganegaaDoor

namespace Go.Proofs.YtdimjemgganegaaDoor
open Go.AM
set_option maxRecDepth 8000
theorem b15_G17 : type_of% (And.intro (@List.map_toArray.{0,0}) (And.intro (@AM.fa_ptr) (And.intro (@fd_57_3) (And.intro (@fd_57_4) (And.intro (@AM.iaO_ok) (And.intro (AM.ia_slice el_55) (And.intro (@AM.ldO_agg) (And.intro (@AM.ldO_one) (And.intro (@AM.ld_ptr) (And.intro (@lk_29) (And.intro (@lk_55) (And.intro (@AM.op_call) (And.intro (@AM.op_fieldAddr) (And.intro (@AM.op_indexAddr) (And.intro (@AM.op_load) (And.intro (@AM.op_makeFunc) (And.intro (@AM.op_nilCheck) (And.intro (@AM.op_unOp) (And.intro (@AM.un_neg) (@AM.un_not)))))))))))))))))))) := And.intro (@List.map_toArray.{0,0}) (And.intro (@AM.fa_ptr) (And.intro (@fd_57_3) (And.intro (@fd_57_4) (And.intro (@AM.iaO_ok) (And.intro (AM.ia_slice el_55) (And.intro (@AM.ldO_agg) (And.intro (@AM.ldO_one) (And.intro (@AM.ld_ptr) (And.intro (@lk_29) (And.intro (@lk_55) (And.intro (@AM.op_call) (And.intro (@AM.op_fieldAddr) (And.intro (@AM.op_indexAddr) (And.intro (@AM.op_load) (And.intro (@AM.op_makeFunc) (And.intro (@AM.op_nilCheck) (And.intro (@AM.op_unOp) (And.intro (@AM.un_neg) (@AM.un_not)))))))))))))))))))
theorem b21_G17 : type_of% (And.intro (@List.map_toArray.{0,0}) (And.intro (@AM.fa_ptr) (And.intro (@fd_57_3) (And.intro (@fd_57_5) (And.intro (@AM.iaO_ok) (And.intro (AM.ia_slice el_55) (And.intro (@AM.ldO_agg) (And.intro (@AM.ldO_one) (And.intro (@AM.ld_ptr) (And.intro (@lk_29) (And.intro (@lk_55) (And.intro (@AM.op_call) (And.intro (@AM.op_fieldAddr) (And.intro (@AM.op_indexAddr) (And.intro (@AM.op_load) (And.intro (@AM.op_makeFunc) (And.intro (@AM.op_nilCheck) (And.intro (@AM.op_unOp) (And.intro (@AM.un_neg) (@AM.un_not)))))))))))))))))))) := And.intro (@List.map_toArray.{0,0}) (And.intro (@AM.fa_ptr) (And.intro (@fd_57_3) (And.intro (@fd_57_5) (And.intro (@AM.iaO_ok) (And.intro (AM.ia_slice el_55) (And.intro (@AM.ldO_agg) (And.intro (@AM.ldO_one) (And.intro (@AM.ld_ptr) (And.intro (@lk_29) (And.intro (@lk_55) (And.intro (@AM.op_call) (And.intro (@AM.op_fieldAddr) (And.intro (@AM.op_indexAddr) (And.intro (@AM.op_load) (And.intro (@AM.op_makeFunc) (And.intro (@AM.op_nilCheck) (And.intro (@AM.op_unOp) (And.intro (@AM.un_neg) (@AM.un_not)))))))))))))))))))
theorem b55_G17 : type_of% (And.intro (@AM.bin_add) (And.intro (@AM.bin_eql) (And.intro (@AM.bin_lss) (And.intro (@AM.iaO_ok) (And.intro (AM.ia_slice el_29) (And.intro (@AM.ldO_agg) (And.intro (@AM.ldO_one) (And.intro (@AM.ld_ptr) (And.intro (AM.len_slice ul_29) (And.intro (@lk_3) (And.intro (@AM.op_binOp) (And.intro (@AM.op_indexAddr) (And.intro (@AM.op_len) (@AM.op_load)))))))))))))) := And.intro (@AM.bin_add) (And.intro (@AM.bin_eql) (And.intro (@AM.bin_lss) (And.intro (@AM.iaO_ok) (And.intro (AM.ia_slice el_29) (And.intro (@AM.ldO_agg) (And.intro (@AM.ldO_one) (And.intro (@AM.ld_ptr) (And.intro (AM.len_slice ul_29) (And.intro (@lk_3) (And.intro (@AM.op_binOp) (And.intro (@AM.op_indexAddr) (And.intro (@AM.op_len) (@AM.op_load)))))))))))))
theorem b36_G17 : type_of% (And.intro (@AM.bin_geq) (And.intro (@AM.op_binOp) (@AM.op_call))) := And.intro (@AM.bin_geq) (And.intro (@AM.op_binOp) (@AM.op_call))
theorem b17_G17 : type_of% (@AM.op_call) := @AM.op_call


theorem ints_one (l : List Int) : (l.map (Value.int .i64)).all (·.oneCell') = true := by
  rw [List.all_eq_true]; intro x hx
  obtain ⟨n, _, rfl⟩ := List.mem_map.1 hx; rfl
theorem edgesL_len (L : List (List UInt8)) (f : Fit L) : (edgesL L).length ≤ 4096 := by
  have h1 := edgesTo_len L.flatten L.length (L.getD 0 []).length L.flatten.length
  have h2 : L.flatten.length ≤ 1024 := by rw [f.len]; exact Nat.le_trans (Nat.mul_le_mul f.r32 f.c32) (by decide)
  show (edgesTo L.flatten L.length (L.getD 0 []).length L.flatten.length).length ≤ 4096
  omega
theorem Fit.k1024 {L : List (List UInt8)} (f : Fit L) : L.flatten.length ≤ 1024 := by rw [f.len]; exact Nat.le_trans (Nat.mul_le_mul f.r32 f.c32) (by decide)
theorem next_w {h : AHeap} {p : Nat} {L : List (List UInt8)} {S : Nat → Prop} (m : Mt h p L S) (f : Fit L) (hw : h.get GW = some (.cells waysC 89 false)) (hgl : GW < h.low) (hl : h.low ≤ h.next) (i : Int) {Q : VQ}
    (hq : ∀ v h' S', Mt h' p L S' → (∀ id, S' id → S id ∨ h.next ≤ id) → Ow h' 3 1 v (nextL L i).length ((nextL L i).map (.int .i64)) → Fr (fun id => id = p) h h' → (∀ id, idOf v id → h.next ≤ id ∧ ¬ S' id) → Q v h') : W 15 [pv p, .int .i64 i] h Q := by
  obtain ⟨kv0, tl0', m0⟩ := m.mp
  have hK := f.k1024
  refine AM.enter hp (fn := Tryd.f15) (rs := [.tmp 4]) (nt := 23) (by kernel_rfl) Tryd.func15 rfl rfl rfl (by kernel_rfl) ?_
  (first | (simp (maxSteps := 1000000) (disch := first | omega | (simp only [AM.DB, List.length_set, List.length_map]; first | done | omega)) only [AM.RB, Nat.reduceAdd, Nat.reduceMul, Nat.reduceEqDiff, reduceCtorEq, b15_G17]) | skip); (repeat' ((first | refine AM.drawW_fine hp (by kernel_rfl) (by kernel_rfl) ?_ | refine AM.opW_tied (by kernel_rfl) ?_ | refine AM.opW_untied (by kernel_rfl) ?_ | refine AM.build_w ?_); simp (maxSteps := 1000000) (disch := first | omega | (simp only [AM.DB, List.length_set, List.length_map]; first | done | omega)) only [AM.RB, Nat.reduceAdd, Nat.reduceMul, Nat.reduceEqDiff, reduceCtorEq, b15_G17]))
  refine is_w m0 f.rows i _ ?_
  by_cases hi : 0 ≤ i ∧ i < L.flatten.length
  · (first | (simp (maxSteps := 1000000) (disch := first | omega | (simp only [AM.DB, List.length_set, List.length_map]; first | done | omega)) only [AM.RB, Nat.reduceAdd, Nat.reduceMul, Nat.reduceEqDiff, reduceCtorEq, b15_G17, decide_eq_true hi]) | skip); (repeat' ((first | refine AM.drawW_fine hp (by kernel_rfl) (by kernel_rfl) ?_ | refine AM.opW_tied (by kernel_rfl) ?_ | refine AM.opW_untied (by kernel_rfl) ?_ | refine AM.build_w ?_); simp (maxSteps := 1000000) (disch := first | omega | (simp only [AM.DB, List.length_set, List.length_map]; first | done | omega)) only [AM.RB, Nat.reduceAdd, Nat.reduceMul, Nat.reduceEqDiff, reduceCtorEq, b15_G17, decide_eq_true hi]))
    refine once_w m f hw hgl hl fun kv nid bid X h1 S1 m1 b mt1 hS1 fr1 hX => ?_
    have hg1 := m1.1
    obtain ⟨n, rfl⟩ := Int.eq_ofNat_of_zero_le hi.1
    have hn : n < L.flatten.length := by omega
    have hxa : ((List.range L.flatten.length).map X)[n]? = some (X n) := by rw [List.getElem?_map, List.getElem?_range hn]; rfl
    have hgn := b.g1
    have hl1 := fr1.hl hl
    have hEl := bothE_len (edgesL L) L.flatten.length n
    have hEL := edgesL_len L f
    (first | (simp (maxSteps := 1000000) (disch := first | omega | (simp only [AM.DB, List.length_set, List.length_map]; first | done | omega)) only [AM.RB, Nat.reduceAdd, Nat.reduceMul, Nat.reduceEqDiff, reduceCtorEq, b15_G17, hg1, hgn, hxa, Nat.mul_one, Nat.zero_add, Int.toNat_natCast]) | skip); (repeat' ((first | refine AM.drawW_fine hp (by kernel_rfl) (by kernel_rfl) ?_ | refine AM.opW_tied (by kernel_rfl) ?_ | refine AM.opW_untied (by kernel_rfl) ?_ | refine AM.build_w ?_); simp (maxSteps := 1000000) (disch := first | omega | (simp only [AM.DB, List.length_set, List.length_map]; first | done | omega)) only [AM.RB, Nat.reduceAdd, Nat.reduceMul, Nat.reduceEqDiff, reduceCtorEq, b15_G17, hg1, hgn, hxa, Nat.mul_one, Nat.zero_add, Int.toNat_natCast]))
    have heq : bothE (edgesL L) L.flatten.length n = nextL L n := by unfold bothE nextL; rw [if_pos hn, if_pos ⟨by omega, by omega⟩, Int.toNat_natCast]
    refine clone_w ((b.ow n (by omega)).rd) (ints_one _) (by omega) hl1 fun v h2 o2 fr2 hid2 => ?_
    (first | (simp (maxSteps := 1000000) (disch := first | omega | (simp only [AM.DB, List.length_set, List.length_map]; first | done | omega)) only [AM.RB, Nat.reduceAdd, Nat.reduceMul, Nat.reduceEqDiff, reduceCtorEq, b15_G17]) | skip); (repeat' ((first | refine AM.drawW_fine hp (by kernel_rfl) (by kernel_rfl) ?_ | refine AM.opW_tied (by kernel_rfl) ?_ | refine AM.opW_untied (by kernel_rfl) ?_ | refine AM.build_w ?_); simp (maxSteps := 1000000) (disch := first | omega | (simp only [AM.DB, List.length_set, List.length_map]; first | done | omega)) only [AM.RB, Nat.reduceAdd, Nat.reduceMul, Nat.reduceEqDiff, reduceCtorEq, b15_G17]))
    rw [heq] at o2
    have n1 := fr1.next
    exact hq v h2 S1 (mt1.fr0 fr2) hS1 o2 (fr1.then fr2 fun _ _ q => q.elim) fun id q => ⟨by have := hid2 id q; omega, fun e => by have := hid2 id q; have := mt1.lt e; omega⟩
  · (first | (simp (maxSteps := 1000000) (disch := first | omega | (simp only [AM.DB, List.length_set, List.length_map]; first | done | omega)) only [AM.RB, Nat.reduceAdd, Nat.reduceMul, Nat.reduceEqDiff, reduceCtorEq, b15_G17, decide_eq_false hi]) | skip); (repeat' ((first | refine AM.drawW_fine hp (by kernel_rfl) (by kernel_rfl) ?_ | refine AM.opW_tied (by kernel_rfl) ?_ | refine AM.opW_untied (by kernel_rfl) ?_ | refine AM.build_w ?_); simp (maxSteps := 1000000) (disch := first | omega | (simp only [AM.DB, List.length_set, List.length_map]; first | done | omega)) only [AM.RB, Nat.reduceAdd, Nat.reduceMul, Nat.reduceEqDiff, reduceCtorEq, b15_G17, decide_eq_false hi]))
    refine hq _ h S m (fun _ q => .inl q) ?_ (Fr.refl _ _) (fun _ q => q.elim)
    unfold nextL; rw [if_neg hi]; exact Ow.nil _ _ _
theorem back_w {h : AHeap} {p : Nat} {L : List (List UInt8)} {S : Nat → Prop} (m : Mt h p L S) (f : Fit L) (hw : h.get GW = some (.cells waysC 89 false)) (hgl : GW < h.low) (hl : h.low ≤ h.next) (i : Int) {Q : VQ}
    (hq : ∀ v h' S', Mt h' p L S' → (∀ id, S' id → S id ∨ h.next ≤ id) → Ow h' 3 1 v (backL L i).length ((backL L i).map (.int .i64)) → Fr (fun id => id = p) h h' → (∀ id, idOf v id → h.next ≤ id ∧ ¬ S' id) → Q v h') : W 21 [pv p, .int .i64 i] h Q := by
  obtain ⟨kv0, tl0', m0⟩ := m.mp
  have hK := f.k1024
  refine AM.enter hp (fn := Tryd.f21) (rs := [.tmp 4]) (nt := 23) (by kernel_rfl) Tryd.func21 rfl rfl rfl (by kernel_rfl) ?_
  (first | (simp (maxSteps := 1000000) (disch := first | omega | (simp only [AM.DB, List.length_set, List.length_map]; first | done | omega)) only [AM.RB, Nat.reduceAdd, Nat.reduceMul, Nat.reduceEqDiff, reduceCtorEq, b21_G17]) | skip); (repeat' ((first | refine AM.drawW_fine hp (by kernel_rfl) (by kernel_rfl) ?_ | refine AM.opW_tied (by kernel_rfl) ?_ | refine AM.opW_untied (by kernel_rfl) ?_ | refine AM.build_w ?_); simp (maxSteps := 1000000) (disch := first | omega | (simp only [AM.DB, List.length_set, List.length_map]; first | done | omega)) only [AM.RB, Nat.reduceAdd, Nat.reduceMul, Nat.reduceEqDiff, reduceCtorEq, b21_G17]))
  refine is_w m0 f.rows i _ ?_
  by_cases hi : 0 ≤ i ∧ i < L.flatten.length
  · (first | (simp (maxSteps := 1000000) (disch := first | omega | (simp only [AM.DB, List.length_set, List.length_map]; first | done | omega)) only [AM.RB, Nat.reduceAdd, Nat.reduceMul, Nat.reduceEqDiff, reduceCtorEq, b21_G17, decide_eq_true hi]) | skip); (repeat' ((first | refine AM.drawW_fine hp (by kernel_rfl) (by kernel_rfl) ?_ | refine AM.opW_tied (by kernel_rfl) ?_ | refine AM.opW_untied (by kernel_rfl) ?_ | refine AM.build_w ?_); simp (maxSteps := 1000000) (disch := first | omega | (simp only [AM.DB, List.length_set, List.length_map]; first | done | omega)) only [AM.RB, Nat.reduceAdd, Nat.reduceMul, Nat.reduceEqDiff, reduceCtorEq, b21_G17, decide_eq_true hi]))
    refine once_w m f hw hgl hl fun kv nid bid X h1 S1 m1 b mt1 hS1 fr1 hX => ?_
    have hg1 := m1.1
    obtain ⟨n, rfl⟩ := Int.eq_ofNat_of_zero_le hi.1
    have hn : n < L.flatten.length := by omega
    have hxa : ((List.range L.flatten.length).map fun j => X (L.flatten.length + j))[n]? = some (X (L.flatten.length + n)) := by rw [List.getElem?_map, List.getElem?_range hn]; rfl
    have hgn := b.g2
    have hl1 := fr1.hl hl
    have hEl := bothE_len (edgesL L) L.flatten.length (L.flatten.length + n)
    have hEL := edgesL_len L f
    (first | (simp (maxSteps := 1000000) (disch := first | omega | (simp only [AM.DB, List.length_set, List.length_map]; first | done | omega)) only [AM.RB, Nat.reduceAdd, Nat.reduceMul, Nat.reduceEqDiff, reduceCtorEq, b21_G17, hg1, hgn, hxa, Nat.mul_one, Nat.zero_add, Int.toNat_natCast]) | skip); (repeat' ((first | refine AM.drawW_fine hp (by kernel_rfl) (by kernel_rfl) ?_ | refine AM.opW_tied (by kernel_rfl) ?_ | refine AM.opW_untied (by kernel_rfl) ?_ | refine AM.build_w ?_); simp (maxSteps := 1000000) (disch := first | omega | (simp only [AM.DB, List.length_set, List.length_map]; first | done | omega)) only [AM.RB, Nat.reduceAdd, Nat.reduceMul, Nat.reduceEqDiff, reduceCtorEq, b21_G17, hg1, hgn, hxa, Nat.mul_one, Nat.zero_add, Int.toNat_natCast]))
    have heq : bothE (edgesL L) L.flatten.length (L.flatten.length + n) = backL L n := by unfold bothE backL; rw [if_neg (by omega), if_pos ⟨by omega, by omega⟩, Int.toNat_natCast, Nat.add_sub_cancel_left]
    refine clone_w ((b.ow (L.flatten.length + n) (by omega)).rd) (ints_one _) (by omega) hl1 fun v h2 o2 fr2 hid2 => ?_
    (first | (simp (maxSteps := 1000000) (disch := first | omega | (simp only [AM.DB, List.length_set, List.length_map]; first | done | omega)) only [AM.RB, Nat.reduceAdd, Nat.reduceMul, Nat.reduceEqDiff, reduceCtorEq, b21_G17]) | skip); (repeat' ((first | refine AM.drawW_fine hp (by kernel_rfl) (by kernel_rfl) ?_ | refine AM.opW_tied (by kernel_rfl) ?_ | refine AM.opW_untied (by kernel_rfl) ?_ | refine AM.build_w ?_); simp (maxSteps := 1000000) (disch := first | omega | (simp only [AM.DB, List.length_set, List.length_map]; first | done | omega)) only [AM.RB, Nat.reduceAdd, Nat.reduceMul, Nat.reduceEqDiff, reduceCtorEq, b21_G17]))
    rw [heq] at o2
    have n1 := fr1.next
    exact hq v h2 S1 (mt1.fr0 fr2) hS1 o2 (fr1.then fr2 fun _ _ q => q.elim) fun id q => ⟨by have := hid2 id q; omega, fun e => by have := hid2 id q; have := mt1.lt e; omega⟩
  · (first | (simp (maxSteps := 1000000) (disch := first | omega | (simp only [AM.DB, List.length_set, List.length_map]; first | done | omega)) only [AM.RB, Nat.reduceAdd, Nat.reduceMul, Nat.reduceEqDiff, reduceCtorEq, b21_G17, decide_eq_false hi]) | skip); (repeat' ((first | refine AM.drawW_fine hp (by kernel_rfl) (by kernel_rfl) ?_ | refine AM.opW_tied (by kernel_rfl) ?_ | refine AM.opW_untied (by kernel_rfl) ?_ | refine AM.build_w ?_); simp (maxSteps := 1000000) (disch := first | omega | (simp only [AM.DB, List.length_set, List.length_map]; first | done | omega)) only [AM.RB, Nat.reduceAdd, Nat.reduceMul, Nat.reduceEqDiff, reduceCtorEq, b21_G17, decide_eq_false hi]))
    refine hq _ h S m (fun _ q => .inl q) ?_ (Fr.refl _ _) (fun _ q => q.elim)
    unfold backL; rw [if_neg hi]; exact Ow.nil _ _ _

theorem index_w {s : Value} {n : Nat} {l : List Int} {h : AHeap} (hs : Rd h 3 1 s n (l.map (.int .i64))) (hn : n ≤ 4000000000) (x : Int) {Q : VQ}
    (hq : ∀ r : Int, (decide (0 ≤ r) = decide (x ∈ l)) → Q (.int .i64 r) h) : W 55 [s, .int .i64 x] h Q := by
  obtain ⟨a, cap, rfl⟩ := hs.form
  have hlen : l.length = n := by have := hs.length; rw [List.length_map] at this; omega
  refine AM.enter hp (fn := Tryd.f55) (rs := [.tmp 4]) (nt := 19) (by kernel_rfl) Tryd.func55 rfl rfl rfl (by kernel_rfl) ?_
  (first | (simp (maxSteps := 1000000) (disch := first | omega | (simp only [AM.DB, List.length_set, List.length_map]; first | done | omega)) only [AM.RB, Nat.reduceAdd, Nat.reduceMul, Nat.reduceEqDiff, reduceCtorEq, b55_G17]) | skip); (repeat' ((first | refine AM.drawW_fine hp (by kernel_rfl) (by kernel_rfl) ?_ | refine AM.opW_tied (by kernel_rfl) ?_ | refine AM.opW_untied (by kernel_rfl) ?_ | refine AM.build_w ?_); simp (maxSteps := 1000000) (disch := first | omega | (simp only [AM.DB, List.length_set, List.length_map]; first | done | omega)) only [AM.RB, Nat.reduceAdd, Nat.reduceMul, Nat.reduceEqDiff, reduceCtorEq, b55_G17]))
  refine AM.loop_w hp 19 (fun i : Nat => [(0, .slice a n cap), (1, .int .i64 x), (7, .int .i64 n), (8, .int .i64 i)]) (fun i h' => h' = h ∧ i ≤ n ∧ ∀ j, j < i → l.getD j 0 ≠ x) (fun i => n - i) (by kernel_rfl) 0 ?_ ?_ ?_
  · simp (maxSteps := 1000000) (disch := first | omega | (simp only [AM.DB, List.length_set, List.length_map]; first | done | omega)) only [AM.RB, Nat.reduceAdd, Nat.reduceMul, Nat.reduceEqDiff, reduceCtorEq, b55_G17]
  · exact ⟨rfl, Nat.zero_le _, fun j hj => by omega⟩
  rintro i h1 ρ ⟨rfl, hi, hj⟩
  simp (maxSteps := 1000000) (disch := first | omega | (simp only [AM.DB, List.length_set, List.length_map]; first | done | omega)) only [AM.RB, Nat.reduceAdd, Nat.reduceMul, Nat.reduceEqDiff, reduceCtorEq, b55_G17]
  refine AM.condV_split (fun hlt => ?_) (fun hlt => ?_)
  · have hil : i < n := by omega
    have hg : l.getD i 0 = l[i]'(by omega) := by simp [List.getD, show i < l.length by omega]
    by_cases e : x = l.getD i 0
    · (first | (simp (maxSteps := 1000000) (disch := first | omega | (simp only [AM.DB, List.length_set, List.length_map]; first | done | omega)) only [AM.RB, Nat.reduceAdd, Nat.reduceMul, Nat.reduceEqDiff, reduceCtorEq, b55_G17, hs.ia el_29, Rd.ldi hs lk_3, Int.toNat_natCast, decide_eq_true e]) | skip); (repeat' ((first | refine AM.drawW_fine hp (by kernel_rfl) (by kernel_rfl) ?_ | refine AM.opW_tied (by kernel_rfl) ?_ | refine AM.opW_untied (by kernel_rfl) ?_ | refine AM.build_w ?_); simp (maxSteps := 1000000) (disch := first | omega | (simp only [AM.DB, List.length_set, List.length_map]; first | done | omega)) only [AM.RB, Nat.reduceAdd, Nat.reduceMul, Nat.reduceEqDiff, reduceCtorEq, b55_G17, hs.ia el_29, Rd.ldi hs lk_3, Int.toNat_natCast, decide_eq_true e]))
      refine hq _ ?_
      rw [decide_eq_true (by omega), decide_eq_true]
      rw [e, hg]; exact List.getElem_mem _
    · (first | (simp (maxSteps := 1000000) (disch := first | omega | (simp only [AM.DB, List.length_set, List.length_map]; first | done | omega)) only [AM.RB, Nat.reduceAdd, Nat.reduceMul, Nat.reduceEqDiff, reduceCtorEq, b55_G17, hs.ia el_29, Rd.ldi hs lk_3, Int.toNat_natCast, decide_eq_false e, AM.wrap_i64]) | skip); (repeat' ((first | refine AM.drawW_fine hp (by kernel_rfl) (by kernel_rfl) ?_ | refine AM.opW_tied (by kernel_rfl) ?_ | refine AM.opW_untied (by kernel_rfl) ?_ | refine AM.build_w ?_); simp (maxSteps := 1000000) (disch := first | omega | (simp only [AM.DB, List.length_set, List.length_map]; first | done | omega)) only [AM.RB, Nat.reduceAdd, Nat.reduceMul, Nat.reduceEqDiff, reduceCtorEq, b55_G17, hs.ia el_29, Rd.ldi hs lk_3, Int.toNat_natCast, decide_eq_false e, AM.wrap_i64]))
      refine ⟨i + 1, by omega, congrArg _ (by omega), by omega, fun j q => ?_⟩
      by_cases ej : j = i
      · subst ej; exact fun q => e q.symm
      · exact hj j (by omega)
  · (first | (simp (maxSteps := 1000000) (disch := first | omega | (simp only [AM.DB, List.length_set, List.length_map]; first | done | omega)) only [AM.RB, Nat.reduceAdd, Nat.reduceMul, Nat.reduceEqDiff, reduceCtorEq, b55_G17]) | skip); (repeat' ((first | refine AM.drawW_fine hp (by kernel_rfl) (by kernel_rfl) ?_ | refine AM.opW_tied (by kernel_rfl) ?_ | refine AM.opW_untied (by kernel_rfl) ?_ | refine AM.build_w ?_); simp (maxSteps := 1000000) (disch := first | omega | (simp only [AM.DB, List.length_set, List.length_map]; first | done | omega)) only [AM.RB, Nat.reduceAdd, Nat.reduceMul, Nat.reduceEqDiff, reduceCtorEq, b55_G17]))
    refine hq _ ?_
    rw [decide_eq_false (by omega), decide_eq_false]
    intro q
    obtain ⟨j, hjl, ej⟩ := List.getElem_of_mem q
    refine hj j (by omega) ?_
    rw [← ej]; simp [List.getD, hjl]
theorem contains_w {s : Value} {n : Nat} {l : List Int} {h : AHeap} (hs : Rd h 3 1 s n (l.map (.int .i64))) (hn : n ≤ 4000000000) (x : Int) {Q : VQ} (hq : Q (.bool (decide (x ∈ l))) h) : W 36 [s, .int .i64 x] h Q := by
  refine AM.enter hp (fn := Tryd.f36) (rs := [.tmp 4]) (nt := 9) (by kernel_rfl) Tryd.func36 rfl rfl rfl (by kernel_rfl) ?_
  (first | (simp (maxSteps := 1000000) (disch := first | omega | (simp only [AM.DB, List.length_set, List.length_map]; first | done | omega)) only [AM.RB, Nat.reduceAdd, Nat.reduceMul, Nat.reduceEqDiff, reduceCtorEq, b36_G17]) | skip); (repeat' ((first | refine AM.drawW_fine hp (by kernel_rfl) (by kernel_rfl) ?_ | refine AM.opW_tied (by kernel_rfl) ?_ | refine AM.opW_untied (by kernel_rfl) ?_ | refine AM.build_w ?_); simp (maxSteps := 1000000) (disch := first | omega | (simp only [AM.DB, List.length_set, List.length_map]; first | done | omega)) only [AM.RB, Nat.reduceAdd, Nat.reduceMul, Nat.reduceEqDiff, reduceCtorEq, b36_G17]))
  refine index_w hs hn x fun r hr => ?_
  rw [← hr] at hq
  (first | (simp (maxSteps := 1000000) (disch := first | omega | (simp only [AM.DB, List.length_set, List.length_map]; first | done | omega)) only [AM.RB, Nat.reduceAdd, Nat.reduceMul, Nat.reduceEqDiff, reduceCtorEq, b36_G17]) | skip); (repeat' ((first | refine AM.drawW_fine hp (by kernel_rfl) (by kernel_rfl) ?_ | refine AM.opW_tied (by kernel_rfl) ?_ | refine AM.opW_untied (by kernel_rfl) ?_ | refine AM.build_w ?_); simp (maxSteps := 1000000) (disch := first | omega | (simp only [AM.DB, List.length_set, List.length_map]; first | done | omega)) only [AM.RB, Nat.reduceAdd, Nat.reduceMul, Nat.reduceEqDiff, reduceCtorEq, b36_G17]))
  exact hq
theorem edge_w {h : AHeap} {p : Nat} {L : List (List UInt8)} {S : Nat → Prop} (m : Mt h p L S) (f : Fit L) (hw : h.get GW = some (.cells waysC 89 false)) (hgl : GW < h.low) (hl : h.low ≤ h.next) (a b : Int) {Q : VQ}
    (hq : ∀ h' S', Mt h' p L S' → (∀ id, S' id → S id ∨ h.next ≤ id) → Fr (fun id => id = p) h h' → Q (.bool (decide (b ∈ nextL L a))) h') : W 17 [pv p, .int .i64 a, .int .i64 b] h Q := by
  have hEL := edgesL_len L f
  have hnl : (nextL L a).length ≤ 4096 := by unfold nextL; split; exact Nat.le_trans (fromE_len _ _) hEL; simp
  refine AM.enter hp (fn := Tryd.f17) (rs := [.tmp 6]) (nt := 12) (by kernel_rfl) Tryd.func17 rfl rfl rfl (by kernel_rfl) ?_
  (first | (simp (maxSteps := 1000000) (disch := first | omega | (simp only [AM.DB, List.length_set, List.length_map]; first | done | omega)) only [AM.RB, Nat.reduceAdd, Nat.reduceMul, Nat.reduceEqDiff, reduceCtorEq, b17_G17]) | skip); (repeat' ((first | refine AM.drawW_fine hp (by kernel_rfl) (by kernel_rfl) ?_ | refine AM.opW_tied (by kernel_rfl) ?_ | refine AM.opW_untied (by kernel_rfl) ?_ | refine AM.build_w ?_); simp (maxSteps := 1000000) (disch := first | omega | (simp only [AM.DB, List.length_set, List.length_map]; first | done | omega)) only [AM.RB, Nat.reduceAdd, Nat.reduceMul, Nat.reduceEqDiff, reduceCtorEq, b17_G17]))
  refine next_w m f hw hgl hl a fun v h1 S1 m1 hS1 o1 fr1 hid1 => ?_
  (first | (simp (maxSteps := 1000000) (disch := first | omega | (simp only [AM.DB, List.length_set, List.length_map]; first | done | omega)) only [AM.RB, Nat.reduceAdd, Nat.reduceMul, Nat.reduceEqDiff, reduceCtorEq, b17_G17]) | skip); (repeat' ((first | refine AM.drawW_fine hp (by kernel_rfl) (by kernel_rfl) ?_ | refine AM.opW_tied (by kernel_rfl) ?_ | refine AM.opW_untied (by kernel_rfl) ?_ | refine AM.build_w ?_); simp (maxSteps := 1000000) (disch := first | omega | (simp only [AM.DB, List.length_set, List.length_map]; first | done | omega)) only [AM.RB, Nat.reduceAdd, Nat.reduceMul, Nat.reduceEqDiff, reduceCtorEq, b17_G17]))
  refine contains_w o1.rd (by omega) b ?_
  (first | (simp (maxSteps := 1000000) (disch := first | omega | (simp only [AM.DB, List.length_set, List.length_map]; first | done | omega)) only [AM.RB, Nat.reduceAdd, Nat.reduceMul, Nat.reduceEqDiff, reduceCtorEq, b17_G17]) | skip); (repeat' ((first | refine AM.drawW_fine hp (by kernel_rfl) (by kernel_rfl) ?_ | refine AM.opW_tied (by kernel_rfl) ?_ | refine AM.opW_untied (by kernel_rfl) ?_ | refine AM.build_w ?_); simp (maxSteps := 1000000) (disch := first | omega | (simp only [AM.DB, List.length_set, List.length_map]; first | done | omega)) only [AM.RB, Nat.reduceAdd, Nat.reduceMul, Nat.reduceEqDiff, reduceCtorEq, b17_G17]))
  exact hq h1 S1 m1 hS1 fr1

end Go.Proofs.YtdimjemgganegaaDoor

namespace Go.Proofs.YtdimjemgganegaaDoor
open Go.AM

/-! ### The edges, as the document has them -/
def farN (C a b : Nat) : Int := max (((a / C : Nat) : Int) - (b / C : Nat)) (((b / C : Nat) : Int) - (a / C : Nat)) + max (((a % C : Nat) : Int) - (b % C : Nat)) (((b % C : Nat) : Int) - (a % C : Nat))
def wayOf (C a b : Nat) : Int × Int := if (b : Int) = (a : Int) - 1 ∧ b / C = a / C then (60, 62) else if b / C < a / C then (94, 118) else if a / C < b / C then (118, 94) else (62, 60)
/-- Does an edge go from a cell to another one? -/
def edgeN (K : List UInt8) (C a b : Nat) : Bool := !decide (((K.getD a 0).toNat : Int) = 35) && !decide (((K.getD b 0).toNat : Int) = 35) && decide (farN C a b = 1) &&
  (decide (((K.getD a 0).toNat : Int) = 46) || decide (((K.getD a 0).toNat : Int) = (wayOf C a b).1)) && !decide (((K.getD b 0).toNat : Int) = (wayOf C a b).2)
/-- A way leads to a cell. -/
def hits (C a b : Nat) (q : Wy) : Prop := ((b / C : Nat) : Int) = rowTo C a q ∧ ((b % C : Nat) : Int) = colTo C a q
theorem hits_of {R C a b : Nat} {q : Wy} (hC : 0 < C) (hb : b < R * C) : (inB R C a q = true ∧ cellTo C a q = b) ↔ hits C a b q := by
  have hm := Nat.mod_lt b hC
  have hd : b / C < R := by rw [Nat.div_lt_iff_lt_mul hC]; exact hb
  have he : b / C * C + b % C = b := by rw [Nat.mul_comm]; exact Nat.div_add_mod b C
  unfold hits inB cellTo
  simp only [Bool.and_eq_true, decide_eq_true_eq]
  generalize rowTo C a q = r
  generalize colTo C a q = c
  constructor
  · rintro ⟨⟨⟨⟨h1, h2⟩, h3⟩, h4⟩, h5⟩
    obtain ⟨r, rfl⟩ := Int.eq_ofNat_of_zero_le h1
    obtain ⟨c, rfl⟩ := Int.eq_ofNat_of_zero_le h3
    have hb' : b = c + C * r := by
      have h6 : b = r * C + c := by
        have : (b : Int) = ((r * C + c : Nat) : Int) := by rw [← h5, Int.natCast_add, Int.natCast_mul]
        exact Int.ofNat.inj this
      rw [h6, Nat.mul_comm, Nat.add_comm]
    have hc : c < C := by omega
    rw [hb', Nat.add_mul_div_left _ _ hC, Nat.add_mul_mod_self_left, Nat.div_eq_of_lt hc, Nat.mod_eq_of_lt hc, Nat.zero_add]
    exact ⟨rfl, rfl⟩
  · rintro ⟨rfl, rfl⟩
    refine ⟨⟨⟨⟨Int.natCast_nonneg _, Int.ofNat_lt.2 hd⟩, Int.natCast_nonneg _⟩, Int.ofNat_lt.2 hm⟩, ?_⟩
    rw [← Int.natCast_mul, ← Int.natCast_add, he]
theorem far_hits {C a b : Nat} : farN C a b = 1 ↔ ∃ q ∈ wayV, hits C a b q := by
  unfold farN hits rowTo colTo wayV
  generalize a / C = ra
  generalize b / C = rb
  generalize a % C = ca
  generalize b % C = cb
  constructor
  · intro h
    have hh : ((rb : Int) = ra - 1 ∧ (cb : Int) = ca) ∨ ((rb : Int) = ra ∧ (cb : Int) = ca - 1) ∨ ((rb : Int) = ra ∧ (cb : Int) = ca + 1) ∨ ((rb : Int) = ra + 1 ∧ (cb : Int) = ca) := by omega
    rcases hh with ⟨h1, h2⟩ | ⟨h1, h2⟩ | ⟨h1, h2⟩ | ⟨h1, h2⟩
    · exact ⟨(94, 118, -1, 0), by simp, by simp only; omega, by simp only; omega⟩
    · exact ⟨(60, 62, 0, -1), by simp, by simp only; omega, by simp only; omega⟩
    · exact ⟨(62, 60, 0, 1), by simp, by simp only; omega, by simp only; omega⟩
    · exact ⟨(118, 94, 1, 0), by simp, by simp only; omega, by simp only; omega⟩
  · rintro ⟨q, hq, h1, h2⟩
    simp only [List.mem_cons, List.not_mem_nil, or_false] at hq
    rcases hq with rfl | rfl | rfl | rfl <;> simp only at h1 h2 <;> omega
theorem way_of {C a b : Nat} (hC : 0 < C) {q : Wy} (hq : q ∈ wayV) (h : hits C a b q) : wayOf C a b = (q.1, q.2.1) := by
  have ha : a / C * C + a % C = a := by rw [Nat.mul_comm]; exact Nat.div_add_mod a C
  have hb : b / C * C + b % C = b := by rw [Nat.mul_comm]; exact Nat.div_add_mod b C
  obtain ⟨h1, h2⟩ := h
  unfold rowTo at h1
  unfold colTo at h2
  unfold wayOf
  generalize hra : a / C = ra at *
  generalize hrb : b / C = rb at *
  generalize hca : a % C = ca at *
  generalize hcb : b % C = cb at *
  unfold wayV at hq
  simp only [List.mem_cons, List.not_mem_nil, or_false] at hq
  rcases hq with rfl | rfl | rfl | rfl <;> simp only at h1 h2
  · rw [if_neg (by omega), if_pos (by omega)]
  · have e : rb = ra := by omega
    subst e
    rw [if_pos ⟨by omega, rfl⟩]
  · have e : rb = ra := by omega
    subst e
    rw [if_neg (by omega), if_neg (by omega), if_neg (by omega)]
  · rw [if_neg (by omega), if_neg (by omega), if_pos (by omega)]
/-- The program's edges are the document's. -/
theorem edge_iff (K : List UInt8) {R C a b : Nat} (hC : 0 < C) (hb : b < R * C) : edgeN K C a b = true ↔ ∃ q ∈ wayV, inB R C a q = true ∧ goesP K C a q = true ∧ cellTo C a q = b := by
  unfold edgeN
  simp only [Bool.and_eq_true, decide_eq_true_eq, Bool.or_eq_true, Bool.not_eq_true', decide_eq_false_iff_not]
  constructor
  · rintro ⟨⟨⟨⟨h1, h2⟩, h3⟩, h4⟩, h5⟩
    obtain ⟨q, hq, hh⟩ := far_hits.1 h3
    obtain ⟨i1, i2⟩ := (hits_of hC hb).2 hh
    refine ⟨q, hq, i1, ?_, i2⟩
    rw [way_of hC hq hh] at h4 h5
    unfold goesP leavesP
    rw [i2, Int.toNat_natCast]
    simp only [Bool.and_eq_true, decide_eq_true_eq, Bool.or_eq_true, Bool.not_eq_true', decide_eq_false_iff_not]
    exact ⟨⟨h4, h2⟩, h5⟩
  · rintro ⟨q, hq, i1, hg, i2⟩
    have hh := (hits_of hC hb).1 ⟨i1, i2⟩
    rw [way_of hC hq hh]
    unfold goesP leavesP at hg
    rw [i2, Int.toNat_natCast] at hg
    simp only [Bool.and_eq_true, decide_eq_true_eq, Bool.or_eq_true, Bool.not_eq_true', decide_eq_false_iff_not] at hg
    obtain ⟨⟨g1, g2⟩, g3⟩ := hg
    refine ⟨⟨⟨⟨?_, g2⟩, far_hits.2 ⟨q, hq, hh⟩⟩, g1⟩, g3⟩
    unfold wayV at hq
    simp only [List.mem_cons, List.not_mem_nil, or_false] at hq
    rcases hq with rfl | rfl | rfl | rfl <;> simp only at g1 <;> omega
/-! ### Ascending lists -/
def Asc : List Nat → Prop
  | [] => True
  | x :: l => (∀ y ∈ l, x < y) ∧ Asc l
theorem asc_eq : ∀ {l m : List Nat}, Asc l → Asc m → (∀ x, x ∈ l ↔ x ∈ m) → l = m
  | [], [], _, _, _ => rfl
  | [], y :: m, _, _, h => by have := (h y).2 (by simp); cases this
  | x :: l, [], _, _, h => by have := (h x).1 (by simp); cases this
  | x :: l, y :: m, ⟨a1, a2⟩, ⟨b1, b2⟩, h => by
    have e : x = y := by
      have h1 := (h x).1 (by simp)
      have h2 := (h y).2 (by simp)
      rcases List.mem_cons.1 h1 with q | q
      · exact q
      · rcases List.mem_cons.1 h2 with q2 | q2
        · exact q2.symm
        · have := b1 x q; have := a1 y q2; omega
    subst e
    rw [asc_eq a2 b2 fun z => ?_]
    constructor
    · intro hz
      rcases List.mem_cons.1 ((h z).1 (by simp [hz])) with q | q
      · have := a1 z hz; omega
      · exact q
    · intro hz
      rcases List.mem_cons.1 ((h z).2 (by simp [hz])) with q | q
      · have := b1 z hz; omega
      · exact q
theorem asc_append : ∀ {l m : List Nat}, Asc l → Asc m → (∀ x ∈ l, ∀ y ∈ m, x < y) → Asc (l ++ m)
  | [], _, _, hm, _ => hm
  | x :: l, m, ⟨a1, a2⟩, hm, h => ⟨fun y hy => (List.mem_append.1 hy).elim (a1 y) (h x (by simp) y), asc_append a2 hm fun z hz => h z (by simp [hz])⟩
theorem asc_filter {p : Nat → Bool} : ∀ {l : List Nat}, Asc l → Asc (l.filter p)
  | [], _ => trivial
  | x :: l, ⟨a1, a2⟩ => by
    rw [List.filter_cons]
    split
    · exact ⟨fun y hy => a1 y (List.mem_filter.1 hy).1, asc_filter a2⟩
    · exact asc_filter a2
theorem asc_range : ∀ n, Asc (List.range n)
  | 0 => trivial
  | n + 1 => by
    rw [List.range_succ]
    refine asc_append (asc_range n) ⟨fun y hy => by simp at hy, trivial⟩ fun x hx y hy => ?_
    have := List.mem_range.1 hx
    simp at hy; omega

/-- Where one goes from a cell, in order. -/
def outsW (K : List UInt8) (R C a : Nat) : List Nat := ((sidesF R C a wayV).filter (goesP K C a)).map fun q => (cellTo C a q).toNat
theorem outs_mem (K : List UInt8) {R C a b : Nat} (hC : 0 < C) : b ∈ outsW K R C a ↔ b < R * C ∧ edgeN K C a b = true := by
  unfold outsW sidesF
  rw [List.mem_map]
  constructor
  · rintro ⟨q, hq, rfl⟩
    obtain ⟨h1, h2⟩ := List.mem_filter.1 hq
    obtain ⟨h3, h4⟩ := List.mem_filter.1 h1
    obtain ⟨b, hb, hbl⟩ := cellTo_lt hC h4
    rw [hb, Int.toNat_natCast]
    exact ⟨hbl, (edge_iff K hC hbl).2 ⟨q, h3, h4, h2, hb⟩⟩
  · rintro ⟨hb, he⟩
    obtain ⟨q, h1, h2, h3, h4⟩ := (edge_iff K hC hb).1 he
    exact ⟨q, List.mem_filter.2 ⟨List.mem_filter.2 ⟨h1, h2⟩, h3⟩, by rw [h4, Int.toNat_natCast]⟩
theorem outs_asc (K : List UInt8) {R C a : Nat} (hC : 0 < C) : Asc (outsW K R C a) := by
  unfold outsW sidesF
  rw [List.filter_filter]
  have hm := Nat.mod_lt a hC
  -- the four, one behind the other
  have key : ∀ (l : List Wy), (∀ q ∈ l, inB R C a q = true → ∃ b : Nat, cellTo C a q = b) → (l.Pairwise fun q r => inB R C a q = true → inB R C a r = true → cellTo C a q < cellTo C a r) → Asc ((l.filter fun q => goesP K C a q && inB R C a q).map fun q => (cellTo C a q).toNat) := by
    intro l
    induction l with
    | nil => intro _ _; trivial
    | cons q l ih =>
      intro h1 h2
      rw [List.pairwise_cons] at h2
      rw [List.filter_cons]
      split
      · rename_i hc
        rw [Bool.and_eq_true] at hc
        refine ⟨fun y hy => ?_, ih (fun r hr => h1 r (by simp [hr])) h2.2⟩
        obtain ⟨r, hr, rfl⟩ := List.mem_map.1 hy
        obtain ⟨hr1, hr2⟩ := List.mem_filter.1 hr
        rw [Bool.and_eq_true] at hr2
        have := h2.1 r hr1 hc.2 hr2.2
        obtain ⟨b1, e1⟩ := h1 q (by simp) hc.2
        obtain ⟨b2, e2⟩ := h1 r (by simp [hr1]) hr2.2
        simp only
        rw [e1, e2] at this ⊢
        omega
      · exact ih (fun r hr => h1 r (by simp [hr])) h2.2
  refine key wayV (fun q _ h => (cellTo_lt hC h).imp fun _ q => q.1) ?_
  unfold wayV
  simp only [List.pairwise_cons, List.mem_cons, List.not_mem_nil, or_false, forall_eq_or_imp, forall_eq, false_implies, implies_true, List.Pairwise.nil, and_true]
  unfold inB cellTo rowTo colTo
  simp only [Bool.and_eq_true, decide_eq_true_eq]
  generalize a / C = ra
  generalize a % C = ca at *
  have e1 : ((ra : Int) + -1) * C = ra * C - C := by rw [Int.add_mul]; omega
  have e2 : ((ra : Int) + 1) * C = ra * C + C := by rw [Int.add_mul]; omega
  have e3 : ((ra : Int) + 0) * C = ra * C := by rw [Int.add_zero]
  rw [e1, e2, e3]
  generalize (ra : Int) * C = rc
  refine ⟨⟨?_, ?_, ?_⟩, ⟨?_, ?_⟩, ?_⟩ <;> (rintro ⟨⟨⟨_, _⟩, _⟩, _⟩ ⟨⟨⟨_, _⟩, _⟩, _⟩; omega)
theorem outs_eq (K : List UInt8) {R C a : Nat} (hC : 0 < C) : outsW K R C a = (List.range (R * C)).filter (edgeN K C a) :=
  asc_eq (outs_asc K hC) (asc_filter (asc_range _)) fun b => by rw [outs_mem K hC, List.mem_filter, List.mem_range]

theorem from_edges (K : List UInt8) (R C : Nat) : ∀ (n a : Nat), fromE (edgesTo K R C n) a = if a < n then (outsW K R C a).map fun (b : Nat) => (b : Int) else []
  | 0, a => by simp [edgesTo, fromE]
  | n + 1, a => by
    have ih := from_edges K R C n a
    have hs : fromE (edgesTo K R C (n + 1)) a = fromE (edgesTo K R C n) a ++ fromE (edgesW K C n (sidesF R C n wayV)) a := by
      rw [edgesTo]; unfold fromE; rw [List.filter_append, List.map_append]
    rw [hs, ih]
    by_cases e : a = n
    · subst e
      rw [if_neg (by omega), if_pos (by omega), List.nil_append]
      unfold fromE edgesW outsW
      rw [List.filter_map, List.map_map, List.map_map]
      congr 1
      rw [List.filter_eq_self]
      intro q _
      simp
    · have : fromE (edgesW K C n (sidesF R C n wayV)) a = [] := by
        unfold fromE edgesW
        rw [List.filter_map, List.map_map, List.map_eq_nil_iff, List.filter_eq_nil_iff]
        intro q _
        have : n ≠ a := fun q => e q.symm
        simp [this]
      rw [this, List.append_nil]
      by_cases h : a < n
      · rw [if_pos h, if_pos (by omega)]
      · rw [if_neg h, if_neg (by omega)]
theorem into_edges (K : List UInt8) {R C : Nat} (hC : 0 < C) {b : Nat} (hb : b < R * C) : ∀ (n : Nat), intoE (edgesTo K R C n) b = ((List.range n).filter fun a => edgeN K C a b).map fun (a : Nat) => (a : Int)
  | 0 => by simp [edgesTo, intoE]
  | n + 1 => by
    have ih := into_edges K hC hb n
    have hs : intoE (edgesTo K R C (n + 1)) b = intoE (edgesTo K R C n) b ++ intoE (edgesW K C n (sidesF R C n wayV)) b := by
      rw [edgesTo]; unfold intoE; rw [List.filter_append, List.map_append]
    rw [hs, ih, List.range_succ, List.filter_append, List.map_append]
    congr 1
    have h1 : intoE (edgesW K C n (sidesF R C n wayV)) b = ((outsW K R C n).filter fun x => decide (x = b)).map fun _ => (n : Int) := by
      unfold intoE edgesW outsW
      rw [List.filter_map, List.filter_map, List.map_map, List.map_map]
      rfl
    rw [h1, List.filter_cons, List.filter_nil]
    have hasc := outs_asc K (R := R) (a := n) hC
    have hmem := outs_mem K (R := R) (a := n) (b := b) hC
    have hcount : ∀ l : List Nat, Asc l → (l.filter fun x => decide (x = b)) = if b ∈ l then [b] else [] := by
      intro l
      induction l with
      | nil => intro _; simp
      | cons x l ih =>
        rintro ⟨a1, a2⟩
        rw [List.filter_cons, ih a2]
        by_cases e : x = b
        · subst e
          have : x ∉ l := fun q => by have := a1 x q; omega
          simp [this]
        · have : b ≠ x := fun q => e q.symm
          simp [e, this]
    rw [hcount _ hasc]
    cases he : edgeN K C n b with
    | true => rw [if_pos (hmem.2 ⟨hb, he⟩), if_pos rfl]; rfl
    | false =>
      rw [if_neg (fun q => by have := (hmem.1 q).2; rw [he] at this; cases this)]; rfl
theorem nextL_eq {L : List (List UInt8)} (f : Fit L) (i : Int) : nextL L i = if 0 ≤ i ∧ i < L.flatten.length then ((List.range L.flatten.length).filter (edgeN L.flatten (L.getD 0 []).length i.toNat)).map (fun (b : Nat) => (b : Int)) else [] := by
  unfold nextL
  split
  · rename_i h
    rw [from_edges, if_pos (by omega), outs_eq _ f.cols, f.len]
  · rfl
theorem backL_eq {L : List (List UInt8)} (f : Fit L) (i : Int) : backL L i = if 0 ≤ i ∧ i < L.flatten.length then ((List.range L.flatten.length).filter fun a => edgeN L.flatten (L.getD 0 []).length a i.toNat).map (fun (b : Nat) => (b : Int)) else [] := by
  unfold backL
  split
  · rename_i h
    rw [into_edges _ f.cols (by rw [← f.len]; omega)]
  · rfl

end Go.Proofs.YtdimjemgganegaaDoor

namespace Go.Proofs.YtdimjemgganegaaDoor
open Go.AM
set_option maxRecDepth 8000
theorem b41_G19 : type_of% (And.intro (@AM.aMax_int) (And.intro (@AM.bin_sub) (And.intro (@AM.op_binOp) (@AM.op_max2)))) := And.intro (@AM.aMax_int) (And.intro (@AM.bin_sub) (And.intro (@AM.op_binOp) (@AM.op_max2)))
theorem b24_G19 : type_of% (And.intro (@AM.bin_add) (And.intro (@AM.bin_quo) (And.intro (@AM.bin_rem) (And.intro (@AM.fa_ptr) (And.intro (@fd_57_1) (And.intro (@AM.ldO_agg) (And.intro (@AM.ldO_one) (And.intro (@AM.ld_ptr) (And.intro (@lk_3) (And.intro (@AM.op_binOp) (And.intro (@AM.op_call) (And.intro (@AM.op_fieldAddr) (And.intro (@AM.op_load) (And.intro (@AM.op_nilCheck) (And.intro (@AM.op_unOp) (And.intro (@AM.un_neg) (@AM.un_not))))))))))))))))) := And.intro (@AM.bin_add) (And.intro (@AM.bin_quo) (And.intro (@AM.bin_rem) (And.intro (@AM.fa_ptr) (And.intro (@fd_57_1) (And.intro (@AM.ldO_agg) (And.intro (@AM.ldO_one) (And.intro (@AM.ld_ptr) (And.intro (@lk_3) (And.intro (@AM.op_binOp) (And.intro (@AM.op_call) (And.intro (@AM.op_fieldAddr) (And.intro (@AM.op_load) (And.intro (@AM.op_nilCheck) (And.intro (@AM.op_unOp) (And.intro (@AM.un_neg) (@AM.un_not))))))))))))))))
theorem b25_G19 : type_of% (And.intro (@AM.bin_add) (And.intro (@AM.bin_eql) (And.intro (@AM.bin_lss) (And.intro (@AM.bin_quo) (And.intro (@AM.bin_rem) (And.intro (@AM.bin_sub) (And.intro (@AM.op_binOp) (And.intro (@AM.op_call) (And.intro (@AM.op_unOp) (And.intro (@AM.un_neg) (@AM.un_not))))))))))) := And.intro (@AM.bin_add) (And.intro (@AM.bin_eql) (And.intro (@AM.bin_lss) (And.intro (@AM.bin_quo) (And.intro (@AM.bin_rem) (And.intro (@AM.bin_sub) (And.intro (@AM.op_binOp) (And.intro (@AM.op_call) (And.intro (@AM.op_unOp) (And.intro (@AM.un_neg) (@AM.un_not))))))))))
theorem b12_G19 : type_of% (And.intro (@AM.bin_add) (And.intro (@AM.bin_lss) (And.intro (@AM.bin_neq) (And.intro (@AM.iaO_ok) (And.intro (AM.ia_slice el_29) (And.intro (@AM.ldO_agg) (And.intro (@AM.ldO_one) (And.intro (@AM.ld_ptr) (And.intro (AM.len_slice ul_29) (And.intro (@lk_3) (And.intro (@AM.op_binOp) (And.intro (@AM.op_indexAddr) (And.intro (@AM.op_len) (@AM.op_load)))))))))))))) := And.intro (@AM.bin_add) (And.intro (@AM.bin_lss) (And.intro (@AM.bin_neq) (And.intro (@AM.iaO_ok) (And.intro (AM.ia_slice el_29) (And.intro (@AM.ldO_agg) (And.intro (@AM.ldO_one) (And.intro (@AM.ld_ptr) (And.intro (AM.len_slice ul_29) (And.intro (@lk_3) (And.intro (@AM.op_binOp) (And.intro (@AM.op_indexAddr) (And.intro (@AM.op_len) (@AM.op_load)))))))))))))


def farL (L : List (List UInt8)) (a b : Int) : Int := if (0 ≤ a ∧ a < L.flatten.length) ∧ 0 ≤ b ∧ b < L.flatten.length then farN (L.getD 0 []).length a.toNat b.toNat else -1
theorem apart_w {x y : Int} {h : AHeap} (hx : 0 ≤ x ∧ x ≤ 4000000) (hy : 0 ≤ y ∧ y ≤ 4000000) {Q : VQ} (hq : Q (.int .i64 (max (x - y) (y - x))) h) : W 41 [.int .i64 x, .int .i64 y] h Q := by
  refine AM.enter hp (fn := Tryd.f41) (rs := [.tmp 4]) (nt := 12) (by kernel_rfl) Tryd.func41 rfl rfl rfl (by kernel_rfl) ?_
  (first | (simp (maxSteps := 1000000) (disch := first | omega | (simp only [AM.DB, List.length_set, List.length_map]; first | done | omega)) only [AM.RB, Nat.reduceAdd, Nat.reduceMul, Nat.reduceEqDiff, reduceCtorEq, b41_G19, AM.wrap_i64]) | skip); (repeat' ((first | refine AM.drawW_fine hp (by kernel_rfl) (by kernel_rfl) ?_ | refine AM.opW_tied (by kernel_rfl) ?_ | refine AM.opW_untied (by kernel_rfl) ?_ | refine AM.build_w ?_); simp (maxSteps := 1000000) (disch := first | omega | (simp only [AM.DB, List.length_set, List.length_map]; first | done | omega)) only [AM.RB, Nat.reduceAdd, Nat.reduceMul, Nat.reduceEqDiff, reduceCtorEq, b41_G19, AM.wrap_i64]))
  exact hq
theorem tdiv_nat (n C : Nat) : (n : Int).tdiv C = ((n / C : Nat) : Int) := by rw [Int.tdiv_eq_ediv_of_nonneg (by omega)]; rfl
theorem tmod_nat (n C : Nat) : (n : Int).tmod C = ((n % C : Nat) : Int) := by rw [Int.tmod_eq_emod_of_nonneg (by omega)]; rfl
theorem wrap_nat {n : Nat} (h : n ≤ 4000000000) : IntKind.i64.wrap (n : Int) = n := AM.wrap_i64 (by omega) (by omega)
set_option maxHeartbeats 1000000 in
theorem far_w {h : AHeap} {p : Nat} {kv : Value} {tl : List Value} {L : List (List UInt8)} (m : Mp h p kv L.length (L.getD 0 []).length L.flatten tl) (f : Fit L) (a b : Int) {Q : VQ} (hq : Q (.int .i64 (farL L a b)) h) : W 24 [pv p, .int .i64 a, .int .i64 b] h Q := by
  have hg := m.1
  have hpl := AM.get_some_lt hg
  have hK := f.k1024
  have hC := f.cols
  unfold farL at hq
  refine AM.enter hp (fn := Tryd.f24) (rs := [.tmp 6]) (nt := 44) (by kernel_rfl) Tryd.func24 rfl rfl rfl (by kernel_rfl) ?_
  (first | (simp (maxSteps := 1000000) (disch := first | omega | (simp only [AM.DB, List.length_set, List.length_map]; first | done | omega)) only [AM.RB, Nat.reduceAdd, Nat.reduceMul, Nat.reduceEqDiff, reduceCtorEq, b24_G19]) | skip); (repeat' ((first | refine AM.drawW_loose (id := 3) hp (by kernel_rfl) ?_ | refine AM.opW_tied (by kernel_rfl) ?_ | refine AM.opW_untied (by kernel_rfl) ?_ | refine AM.build_w ?_); simp (maxSteps := 1000000) (disch := first | omega | (simp only [AM.DB, List.length_set, List.length_map]; first | done | omega)) only [AM.RB, Nat.reduceAdd, Nat.reduceMul, Nat.reduceEqDiff, reduceCtorEq, b24_G19]))
  refine is_w m f.rows a _ ?_
  by_cases ha : 0 ≤ a ∧ a < L.flatten.length
  · (first | (simp (maxSteps := 1000000) (disch := first | omega | (simp only [AM.DB, List.length_set, List.length_map]; first | done | omega)) only [AM.RB, Nat.reduceAdd, Nat.reduceMul, Nat.reduceEqDiff, reduceCtorEq, b24_G19, decide_eq_true ha]) | skip); (repeat' ((first | refine AM.drawW_loose (id := 3) hp (by kernel_rfl) ?_ | refine AM.opW_tied (by kernel_rfl) ?_ | refine AM.opW_untied (by kernel_rfl) ?_ | refine AM.build_w ?_); simp (maxSteps := 1000000) (disch := first | omega | (simp only [AM.DB, List.length_set, List.length_map]; first | done | omega)) only [AM.RB, Nat.reduceAdd, Nat.reduceMul, Nat.reduceEqDiff, reduceCtorEq, b24_G19, decide_eq_true ha]))
    refine is_w m f.rows b _ ?_
    by_cases hb : 0 ≤ b ∧ b < L.flatten.length
    · rw [if_pos ⟨ha, hb⟩] at hq
      obtain ⟨na, rfl⟩ := Int.eq_ofNat_of_zero_le ha.1
      obtain ⟨nb, rfl⟩ := Int.eq_ofNat_of_zero_le hb.1
      have hC' : ((L.getD 0 []).length : Int) ≠ 0 := by omega
      have e1 := tdiv_nat na (L.getD 0 []).length
      have e2 := tdiv_nat nb (L.getD 0 []).length
      have e3 := tmod_nat na (L.getD 0 []).length
      have e4 := tmod_nat nb (L.getD 0 []).length
      have b1 : na / (L.getD 0 []).length ≤ 1024 := Nat.le_trans (Nat.div_le_self _ _) (by omega)
      have b2 : nb / (L.getD 0 []).length ≤ 1024 := Nat.le_trans (Nat.div_le_self _ _) (by omega)
      have b3 : na % (L.getD 0 []).length ≤ 1024 := Nat.le_trans (Nat.mod_le _ _) (by omega)
      have b4 : nb % (L.getD 0 []).length ≤ 1024 := Nat.le_trans (Nat.mod_le _ _) (by omega)
      rw [Int.toNat_natCast, Int.toNat_natCast] at hq
      unfold farN at hq
      generalize na / (L.getD 0 []).length = x1 at *
      generalize nb / (L.getD 0 []).length = x2 at *
      generalize na % (L.getD 0 []).length = x3 at *
      generalize nb % (L.getD 0 []).length = x4 at *
      have w1 := wrap_nat (n := x1) (by omega)
      have w2 := wrap_nat (n := x2) (by omega)
      (first | (simp (maxSteps := 1000000) (disch := first | omega | (simp only [AM.DB, List.length_set, List.length_map]; first | done | omega)) only [AM.RB, Nat.reduceAdd, Nat.reduceMul, Nat.reduceEqDiff, reduceCtorEq, b24_G19, decide_eq_true hb, hg, e1, e2, w1, w2]) | skip); (repeat' ((first | refine AM.drawW_loose (id := 3) hp (by kernel_rfl) ?_ | refine AM.opW_tied (by kernel_rfl) ?_ | refine AM.opW_untied (by kernel_rfl) ?_ | refine AM.build_w ?_); simp (maxSteps := 1000000) (disch := first | omega | (simp only [AM.DB, List.length_set, List.length_map]; first | done | omega)) only [AM.RB, Nat.reduceAdd, Nat.reduceMul, Nat.reduceEqDiff, reduceCtorEq, b24_G19, decide_eq_true hb, hg, e1, e2, w1, w2]))
      refine apart_w ⟨by omega, by omega⟩ ⟨by omega, by omega⟩ ?_
      (first | (simp (maxSteps := 1000000) (disch := first | omega | (simp only [AM.DB, List.length_set, List.length_map]; first | done | omega)) only [AM.RB, Nat.reduceAdd, Nat.reduceMul, Nat.reduceEqDiff, reduceCtorEq, b24_G19, hg, e3, e4]) | skip); (repeat' ((first | refine AM.drawW_loose (id := 3) hp (by kernel_rfl) ?_ | refine AM.opW_tied (by kernel_rfl) ?_ | refine AM.opW_untied (by kernel_rfl) ?_ | refine AM.build_w ?_); simp (maxSteps := 1000000) (disch := first | omega | (simp only [AM.DB, List.length_set, List.length_map]; first | done | omega)) only [AM.RB, Nat.reduceAdd, Nat.reduceMul, Nat.reduceEqDiff, reduceCtorEq, b24_G19, hg, e3, e4]))
      refine apart_w ⟨by omega, by omega⟩ ⟨by omega, by omega⟩ ?_
      (first | (simp (maxSteps := 1000000) (disch := first | omega | (simp only [AM.DB, List.length_set, List.length_map]; first | done | omega)) only [AM.RB, Nat.reduceAdd, Nat.reduceMul, Nat.reduceEqDiff, reduceCtorEq, b24_G19, AM.wrap_i64]) | skip); (repeat' ((first | refine AM.drawW_loose (id := 3) hp (by kernel_rfl) ?_ | refine AM.opW_tied (by kernel_rfl) ?_ | refine AM.opW_untied (by kernel_rfl) ?_ | refine AM.build_w ?_); simp (maxSteps := 1000000) (disch := first | omega | (simp only [AM.DB, List.length_set, List.length_map]; first | done | omega)) only [AM.RB, Nat.reduceAdd, Nat.reduceMul, Nat.reduceEqDiff, reduceCtorEq, b24_G19, AM.wrap_i64]))
      refine ⟨AM.looseOk_by [(17, [0, 13]), (23, [0, 13])] (by kernel_rfl) ?_, ?_⟩
      · simp (maxSteps := 1000000) (disch := first | omega | (simp only [AM.DB, List.length_set, List.length_map]; first | done | omega)) only [AM.RB, Nat.reduceAdd, Nat.reduceMul, Nat.reduceEqDiff, reduceCtorEq, b24_G19]
        (repeat' apply And.intro) <;> (first | (refine AM.stable_len _ _ _ _ _ _ (fun _ => ?_); (simp (maxSteps := 1000000) (disch := first | omega | (simp only [AM.DB, List.length_set, List.length_map]; first | done | omega)) only [AM.RB, Nat.reduceAdd, Nat.reduceMul, Nat.reduceEqDiff, reduceCtorEq, b24_G19, hg])) | (refine AM.stable_load _ _ _ _ _ _ ?_; (first | (simp (maxSteps := 1000000) (disch := first | omega | (simp only [AM.DB, List.length_set, List.length_map]; first | done | omega)) only [AM.RB, Nat.reduceAdd, Nat.reduceMul, Nat.reduceEqDiff, reduceCtorEq, b24_G19, hg]) | skip); (first | (refine AM.stabL_int (by omega) ?_; (simp (maxSteps := 1000000) (disch := first | omega | (simp only [AM.DB, List.length_set, List.length_map]; first | done | omega)) only [AM.RB, Nat.reduceAdd, Nat.reduceMul, Nat.reduceEqDiff, reduceCtorEq, b24_G19, hg])) | (refine AM.stabL_ptr (by omega) (by omega) ?_; (simp (maxSteps := 1000000) (disch := first | omega | (simp only [AM.DB, List.length_set, List.length_map]; first | done | omega)) only [AM.RB, Nat.reduceAdd, Nat.reduceMul, Nat.reduceEqDiff, reduceCtorEq, b24_G19, hg])) | (refine AM.stabL_string (by omega) ?_; (simp (maxSteps := 1000000) (disch := first | omega | (simp only [AM.DB, List.length_set, List.length_map]; first | done | omega)) only [AM.RB, Nat.reduceAdd, Nat.reduceMul, Nat.reduceEqDiff, reduceCtorEq, b24_G19, hg])) | (refine AM.stabL_bool (by omega) ?_; (simp (maxSteps := 1000000) (disch := first | omega | (simp only [AM.DB, List.length_set, List.length_map]; first | done | omega)) only [AM.RB, Nat.reduceAdd, Nat.reduceMul, Nat.reduceEqDiff, reduceCtorEq, b24_G19, hg])))))
      exact hq
    · rw [if_neg (fun q => hb q.2)] at hq
      (first | (simp (maxSteps := 1000000) (disch := first | omega | (simp only [AM.DB, List.length_set, List.length_map]; first | done | omega)) only [AM.RB, Nat.reduceAdd, Nat.reduceMul, Nat.reduceEqDiff, reduceCtorEq, b24_G19, decide_eq_false hb]) | skip); (repeat' ((first | refine AM.drawW_loose (id := 3) hp (by kernel_rfl) ?_ | refine AM.opW_tied (by kernel_rfl) ?_ | refine AM.opW_untied (by kernel_rfl) ?_ | refine AM.build_w ?_); simp (maxSteps := 1000000) (disch := first | omega | (simp only [AM.DB, List.length_set, List.length_map]; first | done | omega)) only [AM.RB, Nat.reduceAdd, Nat.reduceMul, Nat.reduceEqDiff, reduceCtorEq, b24_G19, decide_eq_false hb]))
      exact hq
  · rw [if_neg (fun q => ha q.1)] at hq
    (first | (simp (maxSteps := 1000000) (disch := first | omega | (simp only [AM.DB, List.length_set, List.length_map]; first | done | omega)) only [AM.RB, Nat.reduceAdd, Nat.reduceMul, Nat.reduceEqDiff, reduceCtorEq, b24_G19, decide_eq_false ha]) | skip); (repeat' ((first | refine AM.drawW_loose (id := 3) hp (by kernel_rfl) ?_ | refine AM.opW_tied (by kernel_rfl) ?_ | refine AM.opW_untied (by kernel_rfl) ?_ | refine AM.build_w ?_); simp (maxSteps := 1000000) (disch := first | omega | (simp only [AM.DB, List.length_set, List.length_map]; first | done | omega)) only [AM.RB, Nat.reduceAdd, Nat.reduceMul, Nat.reduceEqDiff, reduceCtorEq, b24_G19, decide_eq_false ha]))
    exact hq

theorem refFar_w {h : AHeap} {p : Nat} {lv : Value} {L : List (List UInt8)} {l : List UInt8} (r : Rp h p lv L) (G : Good l L) (a b : Int) {Q : VQ} (hq : Q (.int .i64 (farL L a b)) h) : W 25 [pv p, .int .i64 a, .int .i64 b] h Q := by
  have hK := G.fit.k1024
  have hC := G.cols
  have g32 := G.r32
  have gc32 := G.c32
  have hz : ∀ i : Int, decide (((rkind L i).toNat : Int) = 0) = !decide (0 ≤ i ∧ i < L.flatten.length) := fun i => by
    have h1 := G.free i
    unfold freeP at h1
    rw [← G.kind] at h1
    have d1 := u8_lit (rkind L i) 0 (by omega)
    rw [show decide (((rkind L i).toNat : Int) = 0) = decide (rkind L i = 0) from d1]
    by_cases hi : 0 ≤ i ∧ i < L.flatten.length
    · rw [decide_eq_true hi]
      cases h35 : decide (rkind L i = 35)
      · rw [h35, decide_eq_true hi] at h1
        simpa using h1
      · have : rkind L i = 35 := of_decide_eq_true h35
        rw [this]; rfl
    · rw [decide_eq_false hi]
      have : rkind L i = 0 := by
        unfold rkind; rw [if_neg]
        rw [G.len] at hi; exact hi
      rw [this]; rfl
  unfold farL at hq
  refine AM.enter hp (fn := Tryd.f25) (rs := [.tmp 6]) (nt := 48) (by kernel_rfl) Tryd.func25 rfl rfl rfl (by kernel_rfl) ?_
  (first | (simp (maxSteps := 1000000) (disch := first | omega | (simp only [AM.DB, List.length_set, List.length_map]; first | done | omega)) only [AM.RB, Nat.reduceAdd, Nat.reduceMul, Nat.reduceEqDiff, reduceCtorEq, b25_G19]) | skip); (repeat' ((first | refine AM.drawW_fine hp (by kernel_rfl) (by kernel_rfl) ?_ | refine AM.opW_tied (by kernel_rfl) ?_ | refine AM.opW_untied (by kernel_rfl) ?_ | refine AM.build_w ?_); simp (maxSteps := 1000000) (disch := first | omega | (simp only [AM.DB, List.length_set, List.length_map]; first | done | omega)) only [AM.RB, Nat.reduceAdd, Nat.reduceMul, Nat.reduceEqDiff, reduceCtorEq, b25_G19]))
  refine refKind_w r G.rows (by omega) G.all a ?_
  by_cases ha : 0 ≤ a ∧ a < L.flatten.length
  · have za := hz a
    rw [decide_eq_true ha] at za
    (first | (simp (maxSteps := 1000000) (disch := first | omega | (simp only [AM.DB, List.length_set, List.length_map]; first | done | omega)) only [AM.RB, Nat.reduceAdd, Nat.reduceMul, Nat.reduceEqDiff, reduceCtorEq, b25_G19, za]) | skip); (repeat' ((first | refine AM.drawW_fine hp (by kernel_rfl) (by kernel_rfl) ?_ | refine AM.opW_tied (by kernel_rfl) ?_ | refine AM.opW_untied (by kernel_rfl) ?_ | refine AM.build_w ?_); simp (maxSteps := 1000000) (disch := first | omega | (simp only [AM.DB, List.length_set, List.length_map]; first | done | omega)) only [AM.RB, Nat.reduceAdd, Nat.reduceMul, Nat.reduceEqDiff, reduceCtorEq, b25_G19, za]))
    refine refKind_w r G.rows (by omega) G.all b ?_
    by_cases hb : 0 ≤ b ∧ b < L.flatten.length
    · have zb := hz b
      rw [decide_eq_true hb] at zb
      rw [if_pos ⟨ha, hb⟩] at hq
      obtain ⟨na, rfl⟩ := Int.eq_ofNat_of_zero_le ha.1
      obtain ⟨nb, rfl⟩ := Int.eq_ofNat_of_zero_le hb.1
      have hC' : ((L.getD 0 []).length : Int) ≠ 0 := by omega
      have e1 := tdiv_nat na (L.getD 0 []).length
      have e2 := tdiv_nat nb (L.getD 0 []).length
      have e3 := tmod_nat na (L.getD 0 []).length
      have e4 := tmod_nat nb (L.getD 0 []).length
      have b1 : na / (L.getD 0 []).length ≤ 1024 := Nat.le_trans (Nat.div_le_self _ _) (by omega)
      have b2 : nb / (L.getD 0 []).length ≤ 1024 := Nat.le_trans (Nat.div_le_self _ _) (by omega)
      have b3 : na % (L.getD 0 []).length ≤ 1024 := Nat.le_trans (Nat.mod_le _ _) (by omega)
      have b4 : nb % (L.getD 0 []).length ≤ 1024 := Nat.le_trans (Nat.mod_le _ _) (by omega)
      rw [Int.toNat_natCast, Int.toNat_natCast] at hq
      unfold farN at hq
      generalize na / (L.getD 0 []).length = x1 at *
      generalize nb / (L.getD 0 []).length = x2 at *
      generalize na % (L.getD 0 []).length = x3 at *
      generalize nb % (L.getD 0 []).length = x4 at *
      have w1 := wrap_nat (n := x1) (by omega)
      have w2 := wrap_nat (n := x2) (by omega)
      (first | (simp (maxSteps := 1000000) (disch := first | omega | (simp only [AM.DB, List.length_set, List.length_map]; first | done | omega)) only [AM.RB, Nat.reduceAdd, Nat.reduceMul, Nat.reduceEqDiff, reduceCtorEq, b25_G19, zb]) | skip); (repeat' ((first | refine AM.drawW_fine hp (by kernel_rfl) (by kernel_rfl) ?_ | refine AM.opW_tied (by kernel_rfl) ?_ | refine AM.opW_untied (by kernel_rfl) ?_ | refine AM.build_w ?_); simp (maxSteps := 1000000) (disch := first | omega | (simp only [AM.DB, List.length_set, List.length_map]; first | done | omega)) only [AM.RB, Nat.reduceAdd, Nat.reduceMul, Nat.reduceEqDiff, reduceCtorEq, b25_G19, zb]))
      refine refCols_w r G.rows ?_
      (first | (simp (maxSteps := 1000000) (disch := first | omega | (simp only [AM.DB, List.length_set, List.length_map]; first | done | omega)) only [AM.RB, Nat.reduceAdd, Nat.reduceMul, Nat.reduceEqDiff, reduceCtorEq, b25_G19, e1, w1]) | skip); (repeat' ((first | refine AM.drawW_fine hp (by kernel_rfl) (by kernel_rfl) ?_ | refine AM.opW_tied (by kernel_rfl) ?_ | refine AM.opW_untied (by kernel_rfl) ?_ | refine AM.build_w ?_); simp (maxSteps := 1000000) (disch := first | omega | (simp only [AM.DB, List.length_set, List.length_map]; first | done | omega)) only [AM.RB, Nat.reduceAdd, Nat.reduceMul, Nat.reduceEqDiff, reduceCtorEq, b25_G19, e1, w1]))
      refine refCols_w r G.rows ?_
      (first | (simp (maxSteps := 1000000) (disch := first | omega | (simp only [AM.DB, List.length_set, List.length_map]; first | done | omega)) only [AM.RB, Nat.reduceAdd, Nat.reduceMul, Nat.reduceEqDiff, reduceCtorEq, b25_G19, e2, w2, AM.wrap_i64]) | skip); (repeat' ((first | refine AM.drawW_fine hp (by kernel_rfl) (by kernel_rfl) ?_ | refine AM.opW_tied (by kernel_rfl) ?_ | refine AM.opW_untied (by kernel_rfl) ?_ | refine AM.build_w ?_); simp (maxSteps := 1000000) (disch := first | omega | (simp only [AM.DB, List.length_set, List.length_map]; first | done | omega)) only [AM.RB, Nat.reduceAdd, Nat.reduceMul, Nat.reduceEqDiff, reduceCtorEq, b25_G19, e2, w2, AM.wrap_i64]))
      refine refCols_w r G.rows ?_
      (first | (simp (maxSteps := 1000000) (disch := first | omega | (simp only [AM.DB, List.length_set, List.length_map]; first | done | omega)) only [AM.RB, Nat.reduceAdd, Nat.reduceMul, Nat.reduceEqDiff, reduceCtorEq, b25_G19, e3]) | skip); (repeat' ((first | refine AM.drawW_fine hp (by kernel_rfl) (by kernel_rfl) ?_ | refine AM.opW_tied (by kernel_rfl) ?_ | refine AM.opW_untied (by kernel_rfl) ?_ | refine AM.build_w ?_); simp (maxSteps := 1000000) (disch := first | omega | (simp only [AM.DB, List.length_set, List.length_map]; first | done | omega)) only [AM.RB, Nat.reduceAdd, Nat.reduceMul, Nat.reduceEqDiff, reduceCtorEq, b25_G19, e3]))
      refine refCols_w r G.rows ?_
      (first | (simp (maxSteps := 1000000) (disch := first | omega | (simp only [AM.DB, List.length_set, List.length_map]; first | done | omega)) only [AM.RB, Nat.reduceAdd, Nat.reduceMul, Nat.reduceEqDiff, reduceCtorEq, b25_G19, e4, AM.wrap_i64]) | skip); (repeat' ((first | refine AM.drawW_fine hp (by kernel_rfl) (by kernel_rfl) ?_ | refine AM.opW_tied (by kernel_rfl) ?_ | refine AM.opW_untied (by kernel_rfl) ?_ | refine AM.build_w ?_); simp (maxSteps := 1000000) (disch := first | omega | (simp only [AM.DB, List.length_set, List.length_map]; first | done | omega)) only [AM.RB, Nat.reduceAdd, Nat.reduceMul, Nat.reduceEqDiff, reduceCtorEq, b25_G19, e4, AM.wrap_i64]))
      have key : ∀ u v : Int, u = max ((x1 : Int) - x2) ((x2 : Int) - x1) → v = max ((x3 : Int) - x4) ((x4 : Int) - x3) → Q (.int .i64 (u + v)) h := fun u v hu hv => by rw [hu, hv]; exact hq
      by_cases c1 : (x1 : Int) - x2 < 0
      · by_cases c2 : (x3 : Int) - x4 < 0
        · (first | (simp (maxSteps := 1000000) (disch := first | omega | (simp only [AM.DB, List.length_set, List.length_map]; first | done | omega)) only [AM.RB, Nat.reduceAdd, Nat.reduceMul, Nat.reduceEqDiff, reduceCtorEq, b25_G19, decide_eq_true c1, decide_eq_true c2, AM.wrap_i64]) | skip); (repeat' ((first | refine AM.drawW_fine hp (by kernel_rfl) (by kernel_rfl) ?_ | refine AM.opW_tied (by kernel_rfl) ?_ | refine AM.opW_untied (by kernel_rfl) ?_ | refine AM.build_w ?_); simp (maxSteps := 1000000) (disch := first | omega | (simp only [AM.DB, List.length_set, List.length_map]; first | done | omega)) only [AM.RB, Nat.reduceAdd, Nat.reduceMul, Nat.reduceEqDiff, reduceCtorEq, b25_G19, decide_eq_true c1, decide_eq_true c2, AM.wrap_i64]))
          exact key _ _ (by omega) (by omega)
        · (first | (simp (maxSteps := 1000000) (disch := first | omega | (simp only [AM.DB, List.length_set, List.length_map]; first | done | omega)) only [AM.RB, Nat.reduceAdd, Nat.reduceMul, Nat.reduceEqDiff, reduceCtorEq, b25_G19, decide_eq_true c1, decide_eq_false c2, AM.wrap_i64]) | skip); (repeat' ((first | refine AM.drawW_fine hp (by kernel_rfl) (by kernel_rfl) ?_ | refine AM.opW_tied (by kernel_rfl) ?_ | refine AM.opW_untied (by kernel_rfl) ?_ | refine AM.build_w ?_); simp (maxSteps := 1000000) (disch := first | omega | (simp only [AM.DB, List.length_set, List.length_map]; first | done | omega)) only [AM.RB, Nat.reduceAdd, Nat.reduceMul, Nat.reduceEqDiff, reduceCtorEq, b25_G19, decide_eq_true c1, decide_eq_false c2, AM.wrap_i64]))
          exact key _ _ (by omega) (by omega)
      · by_cases c2 : (x3 : Int) - x4 < 0
        · (first | (simp (maxSteps := 1000000) (disch := first | omega | (simp only [AM.DB, List.length_set, List.length_map]; first | done | omega)) only [AM.RB, Nat.reduceAdd, Nat.reduceMul, Nat.reduceEqDiff, reduceCtorEq, b25_G19, decide_eq_false c1, decide_eq_true c2, AM.wrap_i64]) | skip); (repeat' ((first | refine AM.drawW_fine hp (by kernel_rfl) (by kernel_rfl) ?_ | refine AM.opW_tied (by kernel_rfl) ?_ | refine AM.opW_untied (by kernel_rfl) ?_ | refine AM.build_w ?_); simp (maxSteps := 1000000) (disch := first | omega | (simp only [AM.DB, List.length_set, List.length_map]; first | done | omega)) only [AM.RB, Nat.reduceAdd, Nat.reduceMul, Nat.reduceEqDiff, reduceCtorEq, b25_G19, decide_eq_false c1, decide_eq_true c2, AM.wrap_i64]))
          exact key _ _ (by omega) (by omega)
        · (first | (simp (maxSteps := 1000000) (disch := first | omega | (simp only [AM.DB, List.length_set, List.length_map]; first | done | omega)) only [AM.RB, Nat.reduceAdd, Nat.reduceMul, Nat.reduceEqDiff, reduceCtorEq, b25_G19, decide_eq_false c1, decide_eq_false c2, AM.wrap_i64]) | skip); (repeat' ((first | refine AM.drawW_fine hp (by kernel_rfl) (by kernel_rfl) ?_ | refine AM.opW_tied (by kernel_rfl) ?_ | refine AM.opW_untied (by kernel_rfl) ?_ | refine AM.build_w ?_); simp (maxSteps := 1000000) (disch := first | omega | (simp only [AM.DB, List.length_set, List.length_map]; first | done | omega)) only [AM.RB, Nat.reduceAdd, Nat.reduceMul, Nat.reduceEqDiff, reduceCtorEq, b25_G19, decide_eq_false c1, decide_eq_false c2, AM.wrap_i64]))
          exact key _ _ (by omega) (by omega)
    · have zb := hz b
      rw [decide_eq_false hb] at zb
      rw [if_neg (fun q => hb q.2)] at hq
      (first | (simp (maxSteps := 1000000) (disch := first | omega | (simp only [AM.DB, List.length_set, List.length_map]; first | done | omega)) only [AM.RB, Nat.reduceAdd, Nat.reduceMul, Nat.reduceEqDiff, reduceCtorEq, b25_G19, zb]) | skip); (repeat' ((first | refine AM.drawW_fine hp (by kernel_rfl) (by kernel_rfl) ?_ | refine AM.opW_tied (by kernel_rfl) ?_ | refine AM.opW_untied (by kernel_rfl) ?_ | refine AM.build_w ?_); simp (maxSteps := 1000000) (disch := first | omega | (simp only [AM.DB, List.length_set, List.length_map]; first | done | omega)) only [AM.RB, Nat.reduceAdd, Nat.reduceMul, Nat.reduceEqDiff, reduceCtorEq, b25_G19, zb]))
      exact hq
  · have za := hz a
    rw [decide_eq_false ha] at za
    rw [if_neg (fun q => ha q.1)] at hq
    (first | (simp (maxSteps := 1000000) (disch := first | omega | (simp only [AM.DB, List.length_set, List.length_map]; first | done | omega)) only [AM.RB, Nat.reduceAdd, Nat.reduceMul, Nat.reduceEqDiff, reduceCtorEq, b25_G19, za]) | skip); (repeat' ((first | refine AM.drawW_fine hp (by kernel_rfl) (by kernel_rfl) ?_ | refine AM.opW_tied (by kernel_rfl) ?_ | refine AM.opW_untied (by kernel_rfl) ?_ | refine AM.build_w ?_); simp (maxSteps := 1000000) (disch := first | omega | (simp only [AM.DB, List.length_set, List.length_map]; first | done | omega)) only [AM.RB, Nat.reduceAdd, Nat.reduceMul, Nat.reduceEqDiff, reduceCtorEq, b25_G19, za]))
    exact hq

theorem same_w {s t : Value} {n k : Nat} {l m : List Int} {h : AHeap} (hs : Rd h 3 1 s n (l.map (.int .i64))) (ht : Rd h 3 1 t k (m.map (.int .i64))) (hn : n ≤ 4000000000) {Q : VQ} (hq : Q (.bool (decide (l = m))) h) : W 12 [s, t] h Q := by
  obtain ⟨a, ac, rfl⟩ := hs.form
  obtain ⟨b, bc, rfl⟩ := ht.form
  have hl : l.length = n := by have := hs.length; rw [List.length_map] at this; omega
  have hm : m.length = k := by have := ht.length; rw [List.length_map] at this; omega
  refine AM.enter hp (fn := Tryd.f12) (rs := [.tmp 4]) (nt := 26) (by kernel_rfl) Tryd.func12 rfl rfl rfl (by kernel_rfl) ?_
  by_cases hnk : (n : Int) = k
  · (first | (simp (maxSteps := 1000000) (disch := first | omega | (simp only [AM.DB, List.length_set, List.length_map]; first | done | omega)) only [AM.RB, Nat.reduceAdd, Nat.reduceMul, Nat.reduceEqDiff, reduceCtorEq, b12_G19, decide_eq_true hnk]) | skip); (repeat' ((first | refine AM.drawW_fine hp (by kernel_rfl) (by kernel_rfl) ?_ | refine AM.opW_tied (by kernel_rfl) ?_ | refine AM.opW_untied (by kernel_rfl) ?_ | refine AM.build_w ?_); simp (maxSteps := 1000000) (disch := first | omega | (simp only [AM.DB, List.length_set, List.length_map]; first | done | omega)) only [AM.RB, Nat.reduceAdd, Nat.reduceMul, Nat.reduceEqDiff, reduceCtorEq, b12_G19, decide_eq_true hnk]))
    refine AM.loop_w hp 26 (fun i : Nat => [(0, .slice a n ac), (1, .slice b k bc), (5, .int .i64 i)]) (fun i h' => h' = h ∧ i ≤ n ∧ l.take i = m.take i) (fun i => n - i) (by kernel_rfl) 0 ?_ ?_ ?_
    · simp (maxSteps := 1000000) (disch := first | omega | (simp only [AM.DB, List.length_set, List.length_map]; first | done | omega)) only [AM.RB, Nat.reduceAdd, Nat.reduceMul, Nat.reduceEqDiff, reduceCtorEq, b12_G19]
    · exact ⟨rfl, Nat.zero_le _, rfl⟩
    rintro i h1 ρ ⟨rfl, hi, htk⟩
    simp (maxSteps := 1000000) (disch := first | omega | (simp only [AM.DB, List.length_set, List.length_map]; first | done | omega)) only [AM.RB, Nat.reduceAdd, Nat.reduceMul, Nat.reduceEqDiff, reduceCtorEq, b12_G19]
    refine AM.condV_split (fun hlt => ?_) (fun hlt => ?_)
    · have hil : i < l.length := by omega
      have him : i < m.length := by omega
      by_cases e : l.getD i 0 = m.getD i 0
      · (first | (simp (maxSteps := 1000000) (disch := first | omega | (simp only [AM.DB, List.length_set, List.length_map]; first | done | omega)) only [AM.RB, Nat.reduceAdd, Nat.reduceMul, Nat.reduceEqDiff, reduceCtorEq, b12_G19, hs.ia el_29, ht.ia el_29, Rd.ldi hs lk_3, Rd.ldi ht lk_3, Int.toNat_natCast, decide_eq_true e, AM.wrap_i64]) | skip); (repeat' ((first | refine AM.drawW_fine hp (by kernel_rfl) (by kernel_rfl) ?_ | refine AM.opW_tied (by kernel_rfl) ?_ | refine AM.opW_untied (by kernel_rfl) ?_ | refine AM.build_w ?_); simp (maxSteps := 1000000) (disch := first | omega | (simp only [AM.DB, List.length_set, List.length_map]; first | done | omega)) only [AM.RB, Nat.reduceAdd, Nat.reduceMul, Nat.reduceEqDiff, reduceCtorEq, b12_G19, hs.ia el_29, ht.ia el_29, Rd.ldi hs lk_3, Rd.ldi ht lk_3, Int.toNat_natCast, decide_eq_true e, AM.wrap_i64]))
        refine ⟨i + 1, by omega, congrArg _ (by omega), by omega, ?_⟩
        rw [List.take_add_one, List.take_add_one, htk]
        simp only [List.getD, List.getElem?_eq_getElem hil, List.getElem?_eq_getElem him, Option.getD_some] at e ⊢
        rw [e]
      · (first | (simp (maxSteps := 1000000) (disch := first | omega | (simp only [AM.DB, List.length_set, List.length_map]; first | done | omega)) only [AM.RB, Nat.reduceAdd, Nat.reduceMul, Nat.reduceEqDiff, reduceCtorEq, b12_G19, hs.ia el_29, ht.ia el_29, Rd.ldi hs lk_3, Rd.ldi ht lk_3, Int.toNat_natCast, decide_eq_false e]) | skip); (repeat' ((first | refine AM.drawW_fine hp (by kernel_rfl) (by kernel_rfl) ?_ | refine AM.opW_tied (by kernel_rfl) ?_ | refine AM.opW_untied (by kernel_rfl) ?_ | refine AM.build_w ?_); simp (maxSteps := 1000000) (disch := first | omega | (simp only [AM.DB, List.length_set, List.length_map]; first | done | omega)) only [AM.RB, Nat.reduceAdd, Nat.reduceMul, Nat.reduceEqDiff, reduceCtorEq, b12_G19, hs.ia el_29, ht.ia el_29, Rd.ldi hs lk_3, Rd.ldi ht lk_3, Int.toNat_natCast, decide_eq_false e]))
        rw [decide_eq_false (fun q => e (by rw [q]))] at hq
        exact hq
    · have e : l = m := by
        have : i = n := by omega
        subst this
        rw [← hl, List.take_length] at htk
        rw [htk, List.take_of_length_le (by omega)]
      rw [decide_eq_true e] at hq
      (first | (simp (maxSteps := 1000000) (disch := first | omega | (simp only [AM.DB, List.length_set, List.length_map]; first | done | omega)) only [AM.RB, Nat.reduceAdd, Nat.reduceMul, Nat.reduceEqDiff, reduceCtorEq, b12_G19]) | skip); (repeat' ((first | refine AM.drawW_fine hp (by kernel_rfl) (by kernel_rfl) ?_ | refine AM.opW_tied (by kernel_rfl) ?_ | refine AM.opW_untied (by kernel_rfl) ?_ | refine AM.build_w ?_); simp (maxSteps := 1000000) (disch := first | omega | (simp only [AM.DB, List.length_set, List.length_map]; first | done | omega)) only [AM.RB, Nat.reduceAdd, Nat.reduceMul, Nat.reduceEqDiff, reduceCtorEq, b12_G19]))
      exact hq
  · (first | (simp (maxSteps := 1000000) (disch := first | omega | (simp only [AM.DB, List.length_set, List.length_map]; first | done | omega)) only [AM.RB, Nat.reduceAdd, Nat.reduceMul, Nat.reduceEqDiff, reduceCtorEq, b12_G19, decide_eq_false hnk]) | skip); (repeat' ((first | refine AM.drawW_fine hp (by kernel_rfl) (by kernel_rfl) ?_ | refine AM.opW_tied (by kernel_rfl) ?_ | refine AM.opW_untied (by kernel_rfl) ?_ | refine AM.build_w ?_); simp (maxSteps := 1000000) (disch := first | omega | (simp only [AM.DB, List.length_set, List.length_map]; first | done | omega)) only [AM.RB, Nat.reduceAdd, Nat.reduceMul, Nat.reduceEqDiff, reduceCtorEq, b12_G19, decide_eq_false hnk]))
    rw [decide_eq_false (fun q => hnk (by rw [← hl, ← hm, q]))] at hq
    exact hq

end Go.Proofs.YtdimjemgganegaaDoor
