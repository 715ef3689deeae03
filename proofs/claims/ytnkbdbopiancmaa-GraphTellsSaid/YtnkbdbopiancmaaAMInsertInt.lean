/- AM: slices.Insert at []int: its contract off the shelf is what 'InsSpec' asks. -/
import Derived.Test.YtnkbdbopiancmaaAMInsert
import Derived.Shelf.Spec.SlicesInsertGrow
import Derived.WideShapes
set_option linter.unusedSimpArgs false
set_option linter.unusedVariables false
namespace Go.AM
open Go.Proofs Go.Shelf Go.RowKit Go.Lib

theorem setRow_getI : ∀ (vs C : List Value) (o k : Nat), o + vs.length ≤ C.length → (setRow C o vs)[k]? = if o ≤ k ∧ k < o + vs.length then vs[k - o]? else C[k]?
  | [], C, o, k, _ => by simp only [setRow, List.length_nil]; rw [if_neg (by omega)]
  | v :: vs, C, o, k, h => by
    simp only [setRow]
    rw [setRow_getI vs (C.set o v) (o + 1) k (by simp at h ⊢; omega)]
    simp only [List.length_cons] at h ⊢
    by_cases h1 : o + 1 ≤ k ∧ k < o + 1 + vs.length
    · rw [if_pos h1, if_pos (by omega), show k - o = (k - (o + 1)) + 1 by omega, List.getElem?_cons_succ]
    · rw [if_neg h1, List.getElem?_set]
      by_cases h2 : o = k
      · subst h2; rw [if_pos rfl, if_pos (by omega), if_pos (by omega)]; simp
      · rw [if_neg h2, if_neg (by omega)]

theorem row_cell {w : World} {b : Nat} {C : Array Value} {e : TypeId} {fr : Nat × Nat} (hb : w.heap[b]? = some (.cells C e fr)) (k : Nat) : w.cell? ⟨b, k, none⟩ = C[k]? := cell_of_row w b k C e fr hb

theorem getElem?_pieces (cs vs : List Value) (i k : Nat) (hi : i ≤ cs.length) : (cs.take i ++ vs ++ cs.drop i)[k]? = if k < i then cs[k]? else if k < i + vs.length then vs[k - i]? else cs[k - vs.length]? := by
  have e : (cs.take i).length = i := by simp; omega
  rw [List.getElem?_append, List.getElem?_append, List.length_append, e, List.getElem?_take, List.getElem?_drop]
  by_cases h1 : k < i
  · rw [if_pos (by omega), if_pos h1, if_pos h1, if_pos h1]
  · rw [if_neg h1]
    by_cases h2 : k < i + vs.length
    · rw [if_pos h2, if_neg h1, if_pos h2]
    · rw [if_neg h2, if_neg h2, show i + (k - (i + vs.length)) = k - vs.length by omega, if_neg h1]

theorem insSpec_int {P : Program} {ρ : Ren} (L : Lays2.n21 P ρ) : InsSpec P (ρ.f 21) (ρ.t 3) 1 8 := by
  intro base n c i vb voff m vc cs vs VC ve vfr w C fr hi hm hnc hbig hc63 hcl hvl hnil hsome hvb hvfit hvs hvfr h1c h1v
  simp only [Nat.mul_one] at *
  have hcl' : cs.length = n := hcl
  have vcell : ∀ j v, vs[j]? = some v → w.cell? ⟨vb, voff + j, none⟩ = some v := by
    intro j v hv
    rw [row_cell hvb]
    rw [hvs, List.getElem?_take, List.getElem?_drop] at hv
    split at hv
    · simpa using hv
    · cases hv
  have vshape : w.shape? vb = some (ve, VC.length) := by unfold World.shape?; rw [hvb]; simp
  have vfrz : ∀ k, w.frozen? ⟨vb, k, none⟩ = false := by
    intro k
    unfold World.frozen?; rw [hvb]
    have := hvfr k
    simp only [Bool.and_eq_false_iff, decide_eq_false_iff_not]
    by_cases h1 : vfr.1 ≤ k
    · exact .inr (fun h2 => this ⟨h1, h2⟩)
    · exact .inl h1
  have gcap : ∀ c0, n + m ≤ grownCap w (n + m) c0 (ρ.t 3) ∧ grownCap w (n + m) c0 (ρ.t 3) ≤ 9223372036854775807 := fun c0 => ⟨grownCap_ge w _ _ _, grownCap_le_maxLen w _ _ _ (by unfold maxLen; omega)⟩
  cases base with
  | none =>
    obtain ⟨rfl, rfl⟩ := hnil rfl
    obtain rfl : i = 0 := by omega
    obtain rfl : cs = [] := List.eq_nil_of_length_eq_zero hcl
    refine (Any2.slices_Insert_int_end_grow L none 0 0 vb voff m vc [] vs w hm (Nat.le_refl _) (by omega) (by omega) rfl hvl (fun _ => rfl) (fun a h => by cases h) vcell h1v).mono ?_
    rintro x w' ⟨rfl, rfl⟩
    refine ⟨⟨rfl, rfl, rfl⟩, ?_⟩
    rw [if_neg (by omega)]
    refine ⟨_, (Builtin.zeroCells (Value.int .i64 0).cells (grownCap w (0 + m) 0 (ρ.t 3) - (0 + m))).toList, (gcap 0).1, (gcap 0).2, rfl, by simp [Builtin.zeroCells, Value.cells], ?_⟩
    show w.heap.push _ = _
    congr 2
    apply Array.ext'; simp
  | some p =>
    obtain ⟨b, off⟩ := p
    obtain ⟨hb, hfit, hcs, hroomC⟩ := hsome b off rfl
    have ccell : ∀ j v, cs[j]? = some v → w.cell? ⟨b, off + j, none⟩ = some v := by
      intro j v hv
      rw [row_cell hb]
      rw [hcs, List.getElem?_take, List.getElem?_drop] at hv
      split at hv
      · simpa using hv
      · cases hv
    have cget : ∀ j, j < n → cs[j]? = C.toList[off + j]? := by
      intro j hj
      rw [hcs, List.getElem?_take, if_pos hj, List.getElem?_drop]
    simp only [Option.map_some]
    by_cases hroom : n + m ≤ c
    · obtain ⟨hne, hfr⟩ := hroomC hroom
      have bfrz : ∀ k, w.frozen? ⟨b, k, none⟩ = false := by
        intro k
        unfold World.frozen?; rw [hb]
        have := hfr k
        simp only [Bool.and_eq_false_iff, decide_eq_false_iff_not]
        by_cases h1 : fr.1 ≤ k
        · exact .inr (fun h2 => this ⟨h1, h2⟩)
        · exact .inl h1
      have some_ : ∀ k, k < C.size → (w.cell? ⟨b, k, none⟩).isSome = true := by
        intro k hk; rw [row_cell hb, Array.getElem?_eq_getElem hk]; rfl
      by_cases hin : i = n
      · subst hin
        refine (Any2.slices_Insert_int_end_room L b off i c vb voff m vc vs w hm hroom hc63 hvl (fun j hj => some_ _ (by omega)) (fun j _ => bfrz _) vcell h1v).mono ?_
        rintro x w' ⟨rfl, rfl⟩
        obtain ⟨C', q1, q2, q3, q4, q5⟩ := setCells_heap vs (off + i) w C hb
        refine ⟨setCells_env _ _ _ w, ?_⟩
        rw [if_pos hroom]
        refine ⟨b, off, rfl, rfl, q4, q5, C', q1, q3, ?_⟩
        rw [q2]
        apply List.ext_getElem?
        intro k
        have hCl : C.toList.length = C.size := Array.length_toList
        rw [setRow_getI _ _ _ _ (by omega), setRow_getI _ _ _ _ (by simp [hcl, hvl]; omega)]
        have hpl : (cs.take i ++ vs ++ cs.drop i).length = i + m := by simp [hcl, hvl]
        rw [hpl]
        by_cases h1 : off ≤ k ∧ k < off + (i + m)
        · rw [if_pos h1, getElem?_pieces _ _ _ _ (by omega)]
          by_cases h2 : k - off < i
          · rw [if_pos h2, if_neg (by omega), cget _ h2]; congr 1; omega
          · rw [if_neg h2, if_pos (by omega), if_pos (by omega)]; congr 1; omega
        · rw [if_neg h1, if_neg (by omega)]
      · refine (Any2.slices_Insert_int_shift L b off n c i vb voff m vc cs vs w (by omega) hm hroom hc63 hne hcl hvl ccell (fun j hj => some_ _ (by omega)) (fun j _ => bfrz _) vcell h1c h1v ve (ρ.t 3) VC.length C.size vshape (by unfold World.shape?; rw [hb]) (by omega) (vfrz _) (vfrz _)).mono ?_
        rintro x w' ⟨rfl, rfl⟩
        have hbd : w.drew.heap[b]? = some (.cells C (ρ.t 3) fr) := hb
        obtain ⟨C1, q1, q2, q3, q4, q5⟩ := setCells_heap (cs.drop i) (off + (i + m)) w.drew C hbd
        obtain ⟨C', r1, r2, r3, r4, r5⟩ := setCells_heap vs (off + i) (w.drew.setCells b (off + (i + m)) (cs.drop i)) C1 q1
        refine ⟨SameEnv.trans (SameEnv.trans ⟨rfl, rfl, rfl⟩ (setCells_env (cs.drop i) b (off + (i + m)) w.drew)) (setCells_env vs b (off + i) _), ?_⟩
        rw [if_pos hroom]
        refine ⟨b, off, rfl, rfl, by rw [r4, q4]; rfl, fun k hk => by rw [r5 k hk, q5 k hk]; rfl, C', r1, by rw [r3, q3], ?_⟩
        rw [r2, q2]
        apply List.ext_getElem?
        intro k
        have hCl : C.toList.length = C.size := Array.length_toList
        have hdl : (cs.drop i).length = n - i := by simp [hcl]
        rw [setRow_getI _ _ _ _ (by rw [setRow_length]; omega), setRow_getI _ _ _ _ (by omega), setRow_getI _ _ _ _ (by simp [hcl, hvl]; omega)]
        have hpl : (cs.take i ++ vs ++ cs.drop i).length = n + m := by simp [hcl, hvl]; omega
        rw [hpl, hdl, hvl, List.getElem?_drop]
        by_cases h1 : off ≤ k ∧ k < off + (n + m)
        · rw [if_pos h1, getElem?_pieces _ _ _ _ (by omega)]
          by_cases h2 : k - off < i
          · rw [if_pos h2, if_neg (by omega), if_neg (by omega), cget _ (by omega)]; congr 1; omega
          · rw [if_neg h2]
            by_cases h3 : k - off < i + vs.length
            · rw [if_pos h3, if_pos (by omega)]; congr 1; omega
            · rw [if_neg h3, if_neg (by omega), if_pos (by omega)]; congr 1; omega
        · rw [if_neg h1, if_neg (by omega), if_neg (by omega)]
    · by_cases hin : i = n
      · subst hin
        refine (Any2.slices_Insert_int_end_grow L (some ⟨b, off, none⟩) i c vb voff m vc cs vs w hm hnc (by omega) hbig hcl hvl (fun h => by cases h) (fun a h j v hv => by cases h; rw [Go.WideShapes.add_plain]; exact ccell j v hv) vcell h1v).mono ?_
        rintro x w' ⟨rfl, rfl⟩
        refine ⟨⟨rfl, rfl, rfl⟩, ?_⟩
        rw [if_neg hroom]
        refine ⟨_, (Builtin.zeroCells (Value.int .i64 0).cells (grownCap w (i + m) c (ρ.t 3) - (i + m))).toList, (gcap c).1, (gcap c).2, rfl, by simp [Builtin.zeroCells, Value.cells], ?_⟩
        show w.heap.push _ = _
        congr 2
        apply Array.ext'
        rw [List.take_of_length_le (by omega), List.drop_of_length_le (by omega)]
        simp
      · refine (Any2.slices_Insert_int_grow L b off n c i vb voff m vc cs vs w (by omega) hm hnc (by omega) hbig hcl hvl ccell vcell h1c h1v).mono ?_
        rintro x w' ⟨rfl, rfl⟩
        have z1 : ∀ k, (Builtin.zeroCells (Value.int .i64 0).cells k).toList.length = k := fun k => by simp [Builtin.zeroCells, Value.cells]
        have hb0 : ((w.alloc (.cells ((cs.take i).toArray ++ Builtin.zeroCells (Value.int .i64 0).cells (n + m - i) ++ Builtin.zeroCells (Value.int .i64 0).cells (grownCap w (n + m) c (ρ.t 3) - (n + m))) (ρ.t 3))).drew).heap[w.heap.size]? = some (.cells ((cs.take i).toArray ++ Builtin.zeroCells (Value.int .i64 0).cells (n + m - i) ++ Builtin.zeroCells (Value.int .i64 0).cells (grownCap w (n + m) c (ρ.t 3) - (n + m))) (ρ.t 3) (0, 0)) := by
          show (w.heap.push _)[w.heap.size]? = _
          simp
        obtain ⟨C1, q1, q2, q3, q4, q5⟩ := setCells_heap vs i _ _ hb0
        obtain ⟨C', r1, r2, r3, r4, r5⟩ := setCells_heap (cs.drop i) (i + m) (((w.alloc (.cells ((cs.take i).toArray ++ Builtin.zeroCells (Value.int .i64 0).cells (n + m - i) ++ Builtin.zeroCells (Value.int .i64 0).cells (grownCap w (n + m) c (ρ.t 3) - (n + m))) (ρ.t 3))).drew.setCells w.heap.size i vs).drew) C1 q1
        refine ⟨SameEnv.trans (SameEnv.trans (b := ((w.alloc (.cells ((cs.take i).toArray ++ Builtin.zeroCells (Value.int .i64 0).cells (n + m - i) ++ Builtin.zeroCells (Value.int .i64 0).cells (grownCap w (n + m) c (ρ.t 3) - (n + m))) (ρ.t 3))).drew.setCells w.heap.size i vs)) (SameEnv.trans (b := (w.alloc (.cells ((cs.take i).toArray ++ Builtin.zeroCells (Value.int .i64 0).cells (n + m - i) ++ Builtin.zeroCells (Value.int .i64 0).cells (grownCap w (n + m) c (ρ.t 3) - (n + m))) (ρ.t 3))).drew) ⟨rfl, rfl, rfl⟩ (setCells_env _ _ _ _)) ⟨rfl, rfl, rfl⟩) (setCells_env _ _ _ _), ?_⟩
        rw [if_neg hroom]
        refine ⟨_, (Builtin.zeroCells (Value.int .i64 0).cells (grownCap w (n + m) c (ρ.t 3) - (n + m))).toList, (gcap c).1, (gcap c).2, rfl, z1 _, ?_⟩
        apply Array.ext_getElem?
        intro k
        rw [Array.getElem?_push]
        by_cases hk : k = w.heap.size
        · subst hk
          rw [if_pos rfl, r1]
          congr 2
          apply Array.ext'
          rw [r2, q2]
          apply List.ext_getElem?
          intro k
          simp only [Array.toList_append]
          have zl := z1 (n + m - i)
          have zl2 := z1 (grownCap w (n + m) c (ρ.t 3) - (n + m))
          have tl : (cs.take i).length = i := by simp [hcl]; omega
          have dl : (cs.drop i).length = n - i := by simp [hcl]
          rw [setRow_getI _ _ _ _ (by rw [setRow_length]; simp only [List.length_append, tl, zl, zl2, dl]; omega), setRow_getI _ _ _ _ (by simp only [List.length_append, tl, zl, zl2]; omega)]
          rw [dl, hvl]
          generalize (Builtin.zeroCells (Value.int .i64 0).cells (grownCap w (n + m) c (ρ.t 3) - (n + m))).toList = Z2 at *
          generalize (Builtin.zeroCells (Value.int .i64 0).cells (n + m - i)).toList = Z1 at *
          rw [List.getElem?_append (l₁ := cs.take i ++ vs ++ cs.drop i), List.getElem?_append (l₁ := cs.take i ++ Z1)]
          have hpl : (cs.take i ++ vs ++ cs.drop i).length = n + m := by simp [hcl, hvl]; omega
          rw [hpl, getElem?_pieces _ _ _ _ (by omega)]
          have e1 : (cs.take i ++ Z1).length = n + m := by simp only [List.length_append, tl, zl]; omega
          rw [e1, List.getElem?_append, tl, List.getElem?_take, List.getElem?_drop]
          by_cases h1 : k < i
          · rw [if_neg (by omega), if_neg (by omega), if_pos (by omega), if_pos h1, if_pos h1, if_pos (by omega), if_pos h1]
          · by_cases h2 : k < i + m
            · rw [if_neg (by omega), if_pos (by omega), if_pos (by omega), if_neg h1, if_pos (by omega)]
            · by_cases h3 : k < n + m
              · rw [if_pos (by omega), if_pos h3, if_neg h1, if_neg (by omega)]; congr 1; omega
              · rw [if_neg (by omega), if_neg (by omega), if_neg h3, if_neg h3]
        · rw [if_neg hk, r5 k hk]
          show (((w.alloc _).drew).setCells w.heap.size i vs).heap[k]? = _
          rw [q5 k hk]
          show (w.heap.push _)[k]? = _
          rw [Array.getElem?_push, if_neg hk]

end Go.AM
