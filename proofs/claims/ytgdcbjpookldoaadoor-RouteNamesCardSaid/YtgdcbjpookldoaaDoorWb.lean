/- Walks of this claim's functions, and plain laws. -/
import Derived.Test.YtgdcbjpookldoaaDoorWa
import Derived.Test.YtgdcbjpookldoaaDoorAMOps10
set_option linter.unusedSimpArgs false
set_option linter.unusedVariables false
namespace Go.Proofs.YtgdcbjpookldoaaDoor
open Go.AM

/-! ### The document's reading, byte by byte -/
inductive RefR where
  | err (a b : Int)
  | ok (L : List (List UInt8))
def refGo : List UInt8 → List (List UInt8) → List UInt8 → Bool → RefR
  | [], L, r, f => if r ≠ [] then .err (L.length + 1) (r.length + 1) else if f = true then .ok L else .err 0 0
  | c :: rest, L, r, f =>
    if 32 < L.length + 1 then .err (L.length + 1) 1
    else if c = 10 then
      (if r.length = 0 ∨ (1 < L.length + 1 ∧ r.length < (L.getD 0 []).length) then .err (L.length + 1) (r.length + 1) else refGo rest (L ++ [r]) [] f)
    else if cellB c = false ∨ 32 ≤ r.length ∨ (1 < L.length + 1 ∧ (L.getD 0 []).length ≤ r.length) then .err (L.length + 1) (r.length + 1)
    else refGo rest L (r ++ [c]) (f || !decide (c = 35))
/-- The width that a row must keep to. -/
def capL (L : List (List UInt8)) : Nat := if L.length = 0 then 32 else (L.getD 0 []).length
theorem refGo_row (L : List (List UInt8)) (T rest : List UInt8) (hL : L.length + 1 ≤ 32) (hc : capL L ≤ 32) (hT : (10 : UInt8) ∉ T) : ∀ (k i : Nat) (f : Bool), T.length - i = k → i ≤ T.length →
    refGo (T.drop i ++ rest) L (T.take i) f = match rowP T (capL L) k i with
      | some j => .err (L.length + 1) j
      | none => refGo rest L T (f || (T.drop i).any fun c => !decide (c = 35))
  | 0, i, f, hk, hi => by
    have : i = T.length := by omega
    subst this
    simp [rowP]
  | k + 1, i, f, hk, hi => by
    have hlt : i < T.length := by omega
    have hgi : T.getD i 0 = T[i] := by simp [List.getD, hlt]
    have hne : T[i] ≠ 10 := fun e => hT (by rw [← e]; exact List.getElem_mem hlt)
    have hmin : min i T.length = i := by omega
    rw [List.drop_eq_getElem_cons hlt, List.cons_append, refGo, if_neg (by omega), if_neg hne, rowP, hgi]
    have hcond : (cellB T[i] = false ∨ 32 ≤ (T.take i).length ∨ (1 < L.length + 1 ∧ (L.getD 0 []).length ≤ (T.take i).length)) ↔ (cellB T[i] = false ∨ (capL L : Int) ≤ i) := by
      rw [List.length_take, hmin]
      unfold capL at hc ⊢
      by_cases e : L.length = 0
      · rw [if_pos e]; constructor
        · rintro (q | q | q)
          · exact .inl q
          · exact .inr (by omega)
          · omega
        · rintro (q | q)
          · exact .inl q
          · exact .inr (.inl (by omega))
      · rw [if_neg e] at hc ⊢; constructor
        · rintro (q | q | q)
          · exact .inl q
          · exact .inr (by omega)
          · exact .inr (by omega)
        · rintro (q | q)
          · exact .inl q
          · exact .inr (.inr ⟨by omega, by omega⟩)
    by_cases hb : cellB T[i] = false ∨ (capL L : Int) ≤ i
    · rw [if_pos (hcond.2 hb), if_pos hb, List.length_take, hmin]; rfl
    · rw [if_neg (fun q => hb (hcond.1 q)), if_neg hb]
      have e : T.take i ++ [T[i]] = T.take (i + 1) := by rw [List.take_add_one]; simp [hlt]
      rw [e, refGo_row L T rest hL hc hT k (i + 1) _ (by omega) (by omega), List.any_cons, Bool.or_assoc]
theorem rowP_congr {T : List UInt8} {c d : Int} (h : ∀ i : Nat, i < T.length → (c ≤ i ↔ d ≤ i)) : ∀ (k i : Nat), i + k ≤ T.length → rowP T c k i = rowP T d k i
  | 0, _, _ => rfl
  | k + 1, i, hk => by
    have := h i (by omega)
    rw [rowP, rowP, rowP_congr h k (i + 1) (by omega)]
    simp only [this]
theorem rowP_none {T : List UInt8} {c : Int} : ∀ (k i : Nat), rowP T c k i = none → ∀ j : Nat, i ≤ j → j < i + k → cellB (T.getD j 0) = true ∧ (j : Int) < c
  | 0, i, _, j, h1, h2 => by omega
  | k + 1, i, h, j, h1, h2 => by
    rw [rowP] at h
    split at h
    · cases h
    · rename_i hc
      by_cases e : j = i
      · subst e
        refine ⟨?_, ?_⟩
        · cases q : cellB (T.getD j 0) with
          | true => rfl
          | false => exact absurd (.inl q) hc
        · by_cases q : c ≤ j
          · exact absurd (.inr q) hc
          · omega
      · exact rowP_none k (i + 1) h j (by omega) (by omega)

/-- One line. -/
theorem refGo_line (L : List (List UInt8)) (T rest : List UInt8) (f : Bool) (hL : L.length + 1 ≤ 32) (hc : capL L ≤ 32) (hT : (10 : UInt8) ∉ T) (hsuf : sufB (T ++ [10]) [10] = true) (hlt : lineT (T ++ [10]) = T) (C : Nat) (hC : C = if L.length = 0 then min 32 T.length else capL L) :
    refGo (T ++ 10 :: rest) L [] f = if rowE (T ++ [10]) C ≠ 0 then .err (L.length + 1) (rowE (T ++ [10]) C) else refGo rest (L ++ [T]) [] (f || T.any fun c => !decide (c = 35)) := by
  have h0 := refGo_row L T (10 :: rest) hL hc hT T.length 0 f (by omega) (by omega)
  rw [List.drop_zero, List.take_zero] at h0
  have hcg : rowP T (capL L) T.length 0 = rowP T C T.length 0 := by
    refine rowP_congr (fun i hi => ?_) _ _ (by omega)
    rw [hC]
    unfold capL
    by_cases e : L.length = 0
    · rw [if_pos e, if_pos e]; omega
    · rw [if_neg e, if_neg e]
  rw [hcg] at h0
  rw [h0]
  unfold rowE
  rw [hlt, hsuf]
  cases hr : rowP T C T.length 0 with
  | some j =>
    have := rowP_pos _ _ _ _ _ hr
    simp only
    rw [if_pos (by omega)]
  | none =>
    simp only
    rw [refGo, if_neg (by omega), if_pos rfl]
    have hcond : (T.length = 0 ∨ (1 < L.length + 1 ∧ T.length < (L.getD 0 []).length)) ↔ (true = false ∨ (T.length : Int) < C ∨ T.length = 0) := by
      rw [hC]
      unfold capL
      by_cases e : L.length = 0
      · rw [if_pos e]; constructor
        · rintro (q | q)
          · exact .inr (.inr q)
          · omega
        · rintro (q | q | q)
          · cases q
          · omega
          · exact .inl q
      · rw [if_neg e, if_neg e]; constructor
        · rintro (q | q)
          · exact .inr (.inr q)
          · exact .inr (.inl (by omega))
        · rintro (q | q | q)
          · cases q
          · exact .inr ⟨by omega, by omega⟩
          · exact .inl q
    by_cases hb : T.length = 0 ∨ (1 < L.length + 1 ∧ T.length < (L.getD 0 []).length)
    · rw [if_pos hb, if_pos (hcond.1 hb), if_pos (by omega)]
    · rw [if_neg hb, if_neg (fun q => hb (hcond.2 q)), if_neg (by simp)]
/-- The last line, if it has no end. -/
theorem refGo_last (L : List (List UInt8)) (T : List UInt8) (f : Bool) (hL : L.length + 1 ≤ 32) (hc : capL L ≤ 32) (hT : (10 : UInt8) ∉ T) (hT0 : T ≠ []) (hsuf : sufB T [10] = false) (hlt : lineT T = T) (C : Nat) (hC : C = if L.length = 0 then min 32 T.length else capL L) :
    refGo T L [] f = .err (L.length + 1) (rowE T C) := by
  have h0 := refGo_row L T [] hL hc hT T.length 0 f (by omega) (by omega)
  rw [List.drop_zero, List.take_zero, List.append_nil] at h0
  have hcg : rowP T (capL L) T.length 0 = rowP T C T.length 0 := by
    refine rowP_congr (fun i hi => ?_) _ _ (by omega)
    rw [hC]
    unfold capL
    by_cases e : L.length = 0
    · rw [if_pos e, if_pos e]; omega
    · rw [if_neg e, if_neg e]
  rw [hcg] at h0
  rw [h0]
  unfold rowE
  rw [hlt, hsuf]
  cases hr : rowP T C T.length 0 with
  | some j => rfl
  | none =>
    simp only
    rw [refGo, if_pos hT0, if_pos (.inl trivial)]

theorem sufB_snoc (T : List UInt8) : sufB (T ++ [10]) [10] = true ∧ lineT (T ++ [10]) = T := by
  have h : sufB (T ++ [10]) [10] = true := by
    unfold sufB; simp
  refine ⟨h, ?_⟩
  unfold lineT
  rw [if_pos h]; simp
theorem sufB_no {T : List UInt8} (hT : (10 : UInt8) ∉ T) : sufB T [10] = false ∧ lineT T = T := by
  have h : sufB T [10] = false := by
    cases e : sufB T [10] with
    | false => rfl
    | true =>
      unfold sufB at e
      simp only [Bool.and_eq_true, decide_eq_true_eq] at e
      exact absurd (List.mem_of_mem_drop (by rw [e.2]; simp : (10 : UInt8) ∈ T.drop (T.length - [(10 : UInt8)].length))) hT
  refine ⟨h, ?_⟩
  unfold lineT
  rw [if_neg (by rw [h]; simp)]
/-- The first line of a text. -/
theorem linesL_cons (n : Nat) (r : List UInt8) (hr : r ≠ []) (hn : r.length ≤ n) : (∃ T rest, (10 : UInt8) ∉ T ∧ r = T ++ 10 :: rest ∧ linesL n r = (T ++ [10]) :: linesL rest.length rest ∧ rest.length < r.length) ∨ ((10 : UInt8) ∉ r ∧ linesL n r = [r]) := by
  obtain ⟨m, rfl⟩ : ∃ m, n = m + 1 := ⟨n - 1, by have := List.length_pos_iff.2 hr; omega⟩
  rw [linesL, if_neg hr]
  cases hf : r.findIdx? (· == 10) with
  | none =>
    right
    refine ⟨fun q => ?_, rfl⟩
    have := List.findIdx?_eq_none_iff.1 hf 10 q
    simp at this
  | some j =>
    left
    obtain ⟨hj, h1, h2⟩ := List.findIdx?_eq_some_iff_getElem.1 hf
    have e10 : r[j] = 10 := by simpa using h1
    refine ⟨r.take j, r.drop (j + 1), fun q => ?_, ?_, ?_, ?_⟩
    · obtain ⟨i, hi, e⟩ := List.getElem_of_mem q
      simp at hi
      have := h2 i (by omega)
      rw [List.getElem_take] at e
      simp [e] at this
    · rw [← e10, ← List.drop_eq_getElem_cons hj, List.take_append_drop]
    · have e : r.take (j + 1) = r.take j ++ [10] := by rw [List.take_add_one]; simp [hj, e10]
      simp only
      rw [e, linesL_eq m _ _ (by simp; omega) (Nat.le_refl _)]
    · simp; omega


theorem colsI_one {ls : List (List UInt8)} (h0 : errI ls 0 = 0) : colsI ls 1 = (lineT (ls.getD 0 [])).length ∧ (lineT (ls.getD 0 [])).length ≤ 32 := by
  unfold errI at h0
  rw [if_neg (by omega)] at h0
  obtain ⟨_, _, _, hn⟩ := rowE_zero h0
  have h1 := rowP_none _ _ hn
  have hc : colsI ls 1 = min 32 (lineT (ls.getD 0 [])).length := by unfold colsI; rw [if_neg (by omega)]
  have : (lineT (ls.getD 0 [])).length ≤ 32 := by
    by_cases q : (lineT (ls.getD 0 [])).length ≤ 32
    · exact q
    · have := (h1 32 (by omega) (by omega)).2
      omega
  exact ⟨by omega, this⟩
abbrev freeL (T : List UInt8) : Bool := T.any fun c => !decide (c = 35)
theorem refGo_main (ls : List (List UInt8)) : ∀ (k : Nat) (r : List UInt8) (L : List (List UInt8)) (f : Bool) (i : Nat), r.length ≤ k → i = L.length → i ≤ ls.length → L = (ls.take i).map lineT → ls.drop i = linesL r.length r → okI ls i →
    (∃ j, i ≤ j ∧ j < ls.length ∧ okI ls j ∧ errI ls j ≠ 0 ∧ refGo r L [] f = .err ((j : Int) + 1) (errI ls j)) ∨
    (okI ls ls.length ∧ refGo r L [] f = if (f || (ls.drop i).any fun x => freeL (lineT x)) = true then .ok (ls.map lineT) else .err 0 0)
  | k, [], L, f, i, _, hi, hils, hL, hd, ok => by
    right
    have e : ls.drop i = [] := by rw [hd]; rfl
    have : i = ls.length := by
      have := congrArg List.length e
      simp at this; omega
    subst this
    refine ⟨ok, ?_⟩
    rw [e, refGo, if_neg (by simp)]
    rw [hL, List.take_length]; simp
  | 0, c :: r, _, _, _, h, _, _, _, _, _ => by simp at h
  | k + 1, c :: r, L, f, i, hk, hi, hils, hL, hd, ok => by
    have hlen : (ls.drop i).length = ls.length - i := by simp
    have hilt : i < ls.length := by
      rcases linesL_cons (c :: r).length (c :: r) (by simp) (Nat.le_refl _) with ⟨T, rest, _, _, e, _⟩ | ⟨_, e⟩
      · rw [hd, e] at hlen; simp at hlen; omega
      · rw [hd, e] at hlen; simp at hlen; omega
    by_cases hov : 32 < L.length + 1
    · left
      refine ⟨i, Nat.le_refl _, hilt, ok, ?_, ?_⟩
      · unfold errI; rw [if_pos (by omega)]; omega
      · unfold errI; rw [if_pos (by omega), refGo, if_pos hov, hi]
    · have hcap : capL L ≤ 32 ∧ (L.length ≠ 0 → capL L = colsI ls 1) := by
        unfold capL
        by_cases e : L.length = 0
        · rw [if_pos e]; exact ⟨Nat.le_refl _, fun q => absurd e q⟩
        · rw [if_neg e]
          have hg : L.getD 0 [] = lineT (ls.getD 0 []) := by
            rw [hL]
            have h0 : 0 < ls.length := by omega
            simp [List.getD, show 0 < i by omega, h0]
          obtain ⟨h1, h2⟩ := colsI_one (ok 0 (by omega))
          rw [hg]
          exact ⟨h2, fun _ => h1.symm⟩
      have hCi : ∀ x, ls.getD i [] = x → colsI ls 1 = if L.length = 0 then min 32 (lineT x).length else capL L := fun x hx => by
        by_cases e : L.length = 0
        · rw [if_pos e]
          have : i = 0 := by omega
          subst this
          unfold colsI; rw [if_neg (by omega), hx]
        · rw [if_neg e]; exact (hcap.2 e).symm
      have herr : ∀ x, ls.getD i [] = x → errI ls i = rowE x (colsI ls 1) := fun x hx => by
        unfold errI; rw [if_neg (by omega), hx]
      rcases linesL_cons (c :: r).length (c :: r) (by simp) (Nat.le_refl _) with ⟨T, rest, hT, er, e, hlt⟩ | ⟨hT, e⟩
      · rw [e] at hd
        have hgi : ls.getD i [] = T ++ [10] := by
          have := congrArg (fun l => l[0]?) hd
          simp at this
          simp [List.getD, this]
        obtain ⟨s1, s2⟩ := sufB_snoc T
        have hC := hCi _ hgi
        rw [s2] at hC
        have key := refGo_line L T rest f (by omega) hcap.1 hT s1 s2 (colsI ls 1) hC
        have he := herr _ hgi
        rw [er, key]
        by_cases h0 : rowE (T ++ [10]) (colsI ls 1) ≠ 0
        · left
          rw [if_pos h0]
          exact ⟨i, Nat.le_refl _, hilt, ok, by rw [he]; exact h0, by rw [he, hi]⟩
        · rw [if_neg h0]
          have h0' : errI ls i = 0 := by rw [he]; omega
          have htk : ls.take (i + 1) = ls.take i ++ [T ++ [10]] := by
            rw [List.take_add_one]
            have : ls[i]? = some (T ++ [10]) := by
              have := congrArg (fun l => l[0]?) hd
              simpa using this
            rw [this]; rfl
          have hd' : ls.drop (i + 1) = linesL rest.length rest := by
            have := congrArg List.tail hd
            simpa using this
          rcases refGo_main ls k rest (L ++ [T]) (f || freeL T) (i + 1) (by simp only [List.length_cons] at hk hlt; omega) (by simp [hi]) (by omega) (by rw [htk, List.map_append, hL]; simp [s2]) hd' (okI_succ ok h0') with ⟨j, j1, j2, j3, j4, j5⟩ | ⟨o1, o2⟩
          · exact .inl ⟨j, by omega, j2, j3, j4, j5⟩
          · right
            refine ⟨o1, ?_⟩
            rw [o2, hd', hd, List.any_cons, s2, Bool.or_assoc]
      · rw [e] at hd
        have hgi : ls.getD i [] = c :: r := by
          have := congrArg (fun l => l[0]?) hd
          simp at this
          simp [List.getD, this]
        obtain ⟨s1, s2⟩ := sufB_no hT
        have hC := hCi _ hgi
        rw [s2] at hC
        have key := refGo_last L (c :: r) f (by omega) hcap.1 hT (by simp) s1 s2 (colsI ls 1) hC
        have he := herr _ hgi
        left
        refine ⟨i, Nat.le_refl _, hilt, ok, fun q => ?_, by rw [key, he, hi]⟩
        rw [he] at q
        have := (rowE_zero q).1
        rw [s1] at this; cases this

end Go.Proofs.YtgdcbjpookldoaaDoor

namespace Go.Proofs.YtgdcbjpookldoaaDoor
open Go.AM
set_option maxRecDepth 8000
/-! ### The document's map in memory -/
def Rp (h : AHeap) (p : Nat) (lv : Value) (L : List (List UInt8)) : Prop :=
  h.get p = some (.cells [lv] 92 false) ∧ Ow h 9 1 lv L.length (L.map strV) ∧ h.low ≤ p ∧ ¬ idOf lv p
theorem Rp.fr {h h' : AHeap} {p : Nat} {lv : Value} {L : List (List UInt8)} {S : Nat → Prop} (m : Rp h p lv L) (fr : Fr S h h') (h1 : ¬ S p) (h2 : ∀ id, idOf lv id → ¬ S id) : Rp h' p lv L :=
  ⟨fr.get m.1 h1, m.2.1.fr fr h2, by rw [fr.low]; exact m.2.2.1, m.2.2.2⟩
theorem Rp.fr0 {h h' : AHeap} {p : Nat} {lv : Value} {L : List (List UInt8)} (m : Rp h p lv L) (fr : Fr none' h h') : Rp h' p lv L := m.fr fr (fun q => q) (fun _ _ q => q)
/-- What the document finds at a number. -/
def rkind (L : List (List UInt8)) (i : Int) : UInt8 := if 0 ≤ i ∧ i < (L.length * (L.getD 0 []).length : Nat) then (L.getD (i.toNat / (L.getD 0 []).length) []).getD (i.toNat % (L.getD 0 []).length) 0 else 0
end Go.Proofs.YtgdcbjpookldoaaDoor

namespace Go.Proofs.YtgdcbjpookldoaaDoor
open Go.AM
set_option maxRecDepth 8000
end Go.Proofs.YtgdcbjpookldoaaDoor

namespace Go.Proofs.YtgdcbjpookldoaaDoor
open Go.AM

/-! ### The verdict over a text -/
def verd (l : List UInt8) : RefR := if l = [] then .err 1 1 else refGo l [] [] false

theorem linesL_flat : ∀ (n : Nat) (l : List UInt8), l.length ≤ n → (linesL n l).flatten = l
  | 0, [], _ => rfl
  | 0, _ :: _, h => by simp at h
  | n + 1, l, h => by
    rw [linesL]
    split
    · rename_i e; rw [e]; rfl
    · split
      · rename_i i hi
        rw [List.flatten_cons, linesL_flat n _ (by simp; omega), List.take_append_drop]
      · simp
theorem row_facts {ls : List (List UInt8)} (ok : okI ls ls.length) {x : List UInt8} (hx : x ∈ ls) : (lineT x).length = colsI ls 1 ∧ 0 < colsI ls 1 ∧ (∀ c ∈ lineT x, cellB c = true) ∧ x = lineT x ++ [10] := by
  obtain ⟨i, hi, e⟩ := List.getElem_of_mem hx
  have hg : ls.getD i [] = x := by simp [List.getD, hi, e]
  have h0 := ok i hi
  unfold errI at h0
  split at h0
  · omega
  rw [hg] at h0
  obtain ⟨s1, s2, s3, s4⟩ := rowE_zero h0
  have hp' := rowP_none _ _ s4
  have hlen : (lineT x).length = colsI ls 1 := by
    by_cases q : (lineT x).length ≤ colsI ls 1
    · omega
    · have := (hp' (colsI ls 1) (by omega) (by omega)).2
      omega
  refine ⟨hlen, by omega, fun c hc => ?_, ?_⟩
  · obtain ⟨j, hj, rfl⟩ := List.getElem_of_mem hc
    have := (hp' j (by omega) (by omega)).1
    simpa [List.getD, hj] using this
  · unfold sufB at s1
    simp only [Bool.and_eq_true, decide_eq_true_eq] at s1
    have s1' : sufB x [10] = true := by unfold sufB; simp only [Bool.and_eq_true, decide_eq_true_eq]; exact s1
    unfold lineT
    rw [if_pos s1']
    have := List.take_append_drop (x.length - [(10 : UInt8)].length) x
    rw [s1.2] at this
    exact this.symm
theorem kindsI_flat {ls : List (List UInt8)} (ok : okI ls ls.length) : ∀ i, i ≤ ls.length → kindsI ls i = ((ls.take i).map lineT).flatten
  | 0, _ => by simp [kindsI]
  | i + 1, h => by
    have hx : ls[i] ∈ ls := List.getElem_mem (by omega)
    obtain ⟨h1, _, _, h4⟩ := row_facts ok hx
    have hg : ls.getD i [] = ls[i] := by simp [List.getD, show i < ls.length by omega]
    rw [kindsI, kindsI_flat ok i (by omega), List.take_add_one, List.map_append, List.flatten_append, hg]
    congr 1
    have : ls[i]? = some ls[i] := List.getElem?_eq_getElem (by omega)
    rw [this]
    simp only [Option.toList_some, List.map_cons, List.map_nil, List.flatten_cons, List.flatten_nil, List.append_nil]
    rw [← h1]
    generalize lineT ls[i] = T at *
    rw [h4, List.take_append_of_le_length (Nat.le_refl _), List.take_length]
theorem flat_drop {C : Nat} : ∀ (L : List (List UInt8)), (∀ T ∈ L, T.length = C) → ∀ k, k < L.length → (L.flatten.drop (k * C)).take C = L.getD k []
  | [], _, k, h => by simp at h
  | T :: L, hT, 0, _ => by
    have := hT T (by simp)
    rw [Nat.zero_mul, List.drop_zero, List.flatten_cons, ← this, List.take_append_of_le_length (Nat.le_refl _), List.take_length]; rfl
  | T :: L, hT, k + 1, h => by
    have := hT T (by simp)
    rw [List.flatten_cons, Nat.add_mul, Nat.one_mul, Nat.add_comm, ← List.drop_drop, ← this, List.drop_left, this, flat_drop L (fun T h => hT T (by simp [h])) k (by simpa using h)]; rfl
theorem flat_len {C : Nat} : ∀ (L : List (List UInt8)), (∀ T ∈ L, T.length = C) → L.flatten.length = L.length * C
  | [], _ => by simp
  | T :: L, h => by rw [List.flatten_cons, List.length_append, h T (by simp), flat_len L fun T q => h T (by simp [q]), List.length_cons, Nat.add_mul]; omega
theorem flat_get {C : Nat} {L : List (List UInt8)} (h : ∀ T ∈ L, T.length = C) (hC : 0 < C) {n : Nat} (hn : n < L.length * C) : L.flatten.getD n 0 = (L.getD (n / C) []).getD (n % C) 0 := by
  have hq : n / C < L.length := by rw [Nat.div_lt_iff_lt_mul hC]; exact hn
  rw [← flat_drop L h _ hq]
  have hm := Nat.mod_lt n hC
  have he : n / C * C + n % C = n := by rw [Nat.mul_comm]; exact Nat.div_add_mod n C
  rw [List.getD, List.getD, List.getElem?_take, if_pos hm, List.getElem?_drop, he]
theorem allP_mem (K : List UInt8) : ∀ n, (allP K n = []) ↔ ∀ i, i < n → freeP K i = false
  | 0 => by simp [allP]
  | n + 1 => by
    rw [allP, List.append_eq_nil_iff, allP_mem K n]
    constructor
    · rintro ⟨h1, h2⟩ i hi
      by_cases e : i = n
      · subst e
        cases q : freeP K i with
        | false => rfl
        | true => rw [if_pos q] at h2; cases h2
      · exact h1 i (by omega)
    · intro h
      refine ⟨fun i hi => h i (by omega), ?_⟩
      rw [if_neg (by rw [h n (by omega)]; simp)]
theorem allP_any (K : List UInt8) : (allP K K.length ≠ []) ↔ freeL K = true := by
  rw [Ne, allP_mem]
  constructor
  · intro h
    cases q : freeL K with
    | true => rfl
    | false =>
      refine absurd (fun i hi => ?_) h
      have := List.any_eq_false.1 q K[i] (List.getElem_mem hi)
      unfold freeP kindP
      rw [if_pos (by omega), Int.toNat_natCast, show K.getD i 0 = K[i] from by simp [List.getD, hi], decide_eq_true (by omega), Bool.true_and]
      simpa using this
  · intro q h
    obtain ⟨c, hc, h35⟩ := List.any_eq_true.1 q
    obtain ⟨i, hi, rfl⟩ := List.getElem_of_mem hc
    have := h i hi
    unfold freeP kindP at this
    rw [if_pos (by omega), Int.toNat_natCast, show K.getD i 0 = K[i] from by simp [List.getD, hi], h35, decide_eq_true (by omega)] at this
    cases this
theorem any_flat (L : List (List UInt8)) : freeL L.flatten = L.any freeL := by
  induction L with
  | nil => rfl
  | cons T L ih => rw [List.flatten_cons, List.any_cons, ← ih]; unfold freeL; rw [List.any_append]
/-- What a good text's rows are. -/
structure Good (l : List UInt8) (L : List (List UInt8)) : Prop where
  rows : 0 < L.length
  cols : 0 < (L.getD 0 []).length
  r32 : L.length ≤ 32
  c32 : (L.getD 0 []).length ≤ 32
  all : ∀ T ∈ L, T.length = (L.getD 0 []).length
  cell : ∀ c ∈ L.flatten, cellB c = true
  text : textP L.flatten (L.getD 0 []).length L.length = l
  some : allP L.flatten L.flatten.length ≠ []
theorem Good.len {l : List UInt8} {L : List (List UInt8)} (g : Good l L) : L.flatten.length = L.length * (L.getD 0 []).length := flat_len L g.all
theorem Good.kind {l : List UInt8} {L : List (List UInt8)} (g : Good l L) (i : Int) : rkind L i = kindP L.flatten i := by
  unfold rkind kindP
  by_cases h0 : 0 ≤ i
  · rw [if_pos h0]
    by_cases h1 : i < (L.length * (L.getD 0 []).length : Nat)
    · rw [if_pos ⟨h0, h1⟩, flat_get g.all g.cols (by omega)]
    · rw [if_neg (fun q => h1 q.2), List.getD, List.getElem?_eq_none (by rw [g.len]; omega)]; rfl
  · rw [if_neg (fun q => h0 q.1), if_neg h0]
theorem Good.free {l : List UInt8} {L : List (List UInt8)} (g : Good l L) (i : Int) : (!decide (rkind L i = 0) && !decide (rkind L i = 35)) = freeP L.flatten i := by
  rw [g.kind]
  unfold freeP
  by_cases hi : 0 ≤ i ∧ i < L.flatten.length
  · rw [decide_eq_true hi]
    have : kindP L.flatten i ≠ 0 := fun e => by
      have hc : cellB (kindP L.flatten i) = true := by
        unfold kindP
        rw [if_pos hi.1, show L.flatten.getD i.toNat 0 = L.flatten[i.toNat] from by simp only [List.getD, List.getElem?_eq_getElem (show i.toNat < L.flatten.length by omega), Option.getD_some]]
        exact g.cell _ (List.getElem_mem _)
      rw [e] at hc
      revert hc; decide
    rw [decide_eq_false this]; rfl
  · rw [decide_eq_false hi]
    have : kindP L.flatten i = 0 := by
      unfold kindP
      split
      · rw [List.getD, List.getElem?_eq_none (by omega)]; rfl
      · rfl
    rw [decide_eq_true this]; rfl
theorem good_of {ls : List (List UInt8)} (ok : okI ls ls.length) (h0 : ls ≠ []) (hf : (ls.any fun x => freeL (lineT x)) = true) : Good ls.flatten (ls.map lineT) ∧ colsI ls 1 = ((ls.map lineT).getD 0 []).length ∧ kindsI ls ls.length = (ls.map lineT).flatten := by
  have hpos := List.length_pos_iff.2 h0
  have hx0 : ls[0] ∈ ls := List.getElem_mem hpos
  have hg0 : (ls.map lineT).getD 0 [] = lineT ls[0] := by simp [List.getD, hpos]
  obtain ⟨a1, a2, a3, a4⟩ := row_facts ok hx0
  have hall : ∀ T ∈ ls.map lineT, T.length = colsI ls 1 := by
    intro T hT
    obtain ⟨x, hx, rfl⟩ := List.mem_map.1 hT
    exact (row_facts ok hx).1
  have hk := kindsI_flat ok ls.length (Nat.le_refl _)
  rw [List.take_length] at hk
  rw [hg0, a1]
  refine ⟨⟨by rw [List.length_map]; exact hpos, by rw [hg0, a1]; exact a2, by rw [List.length_map]; exact okI_le ok, by rw [hg0, a1]; exact colsI_le _ _, by rw [hg0, a1]; exact hall, ?_, ?_, ?_⟩, rfl, hk⟩
  · intro c hc
    obtain ⟨T, hT, hcT⟩ := List.mem_flatten.1 hc
    obtain ⟨x, hx, rfl⟩ := List.mem_map.1 hT
    exact (row_facts ok hx).2.2.1 c hcT
  · rw [hg0, a1, List.length_map]
    have : ∀ k, k ≤ ls.length → textP (ls.map lineT).flatten (colsI ls 1) k = (ls.take k).flatten := by
      intro k
      induction k with
      | zero => intro _; rfl
      | succ k ih =>
        intro hk'
        have hx : ls[k] ∈ ls := List.getElem_mem (by omega)
        have hq : ls[k]? = some ls[k] := List.getElem?_eq_getElem (by omega)
        rw [textP, ih (by omega), flat_drop _ hall k (by rw [List.length_map]; omega), List.take_add_one, List.flatten_append, hq]
        congr 1
        have hg : (ls.map lineT).getD k [] = lineT ls[k] := by simp [List.getD, hq]
        rw [hg, ← (row_facts ok hx).2.2.2]; simp
    rw [this _ (Nat.le_refl _), List.take_length]
  · rw [allP_any, any_flat, List.any_map]
    exact hf
theorem linesL_ne {l : List UInt8} (h : l ≠ []) : linesL l.length l ≠ [] := by
  rcases linesL_cons l.length l h (Nat.le_refl _) with ⟨T, rest, _, _, e, _⟩ | ⟨_, e⟩ <;> rw [e] <;> simp
theorem verd_ne {l : List UInt8} (h : l ≠ []) : (∃ j, j < (linesL l.length l).length ∧ okI (linesL l.length l) j ∧ errI (linesL l.length l) j ≠ 0 ∧ verd l = .err ((j : Int) + 1) (errI (linesL l.length l) j)) ∨
    (okI (linesL l.length l) (linesL l.length l).length ∧ verd l = if ((linesL l.length l).any fun x => freeL (lineT x)) = true then .ok ((linesL l.length l).map lineT) else .err 0 0) := by
  have := refGo_main (linesL l.length l) l.length l [] false 0 (Nat.le_refl _) rfl (Nat.zero_le _) (by simp) (by simp) (fun k hk => by omega)
  unfold verd
  rw [if_neg h]
  rcases this with ⟨j, _, j2, j3, j4, j5⟩ | ⟨o1, o2⟩
  · exact .inl ⟨j, j2, j3, j4, j5⟩
  · right; refine ⟨o1, ?_⟩
    rw [o2]; simp
theorem verd_good {l : List UInt8} {L : List (List UInt8)} (h : verd l = .ok L) : Good l L := by
  have hne : l ≠ [] := fun e => by unfold verd at h; rw [if_pos e] at h; cases h
  rcases verd_ne hne with ⟨j, _, _, _, e⟩ | ⟨ok, e⟩
  · rw [e] at h; cases h
  · rw [e] at h
    split at h
    · rename_i hf
      cases h
      have := (good_of ok (linesL_ne hne) hf).1
      rw [linesL_flat _ _ (Nat.le_refl _)] at this
      exact this
    · cases h
/-- The text's map, as the program reads it. -/
theorem parseV_w (l : List UInt8) (hl : l.length ≤ 9223372036854775807) {h : AHeap} (hlow : h.low ≤ h.next) {Q : VQ}
    (hbad : ∀ a b, verd l = .err a b → ∀ h', Fr none' h h' → Q (.tuple #[.pointer none, .int .i64 a, .int .i64 b, .int .i64 10]) h')
    (hok : ∀ L, verd l = .ok L → ∀ p kv h', Mp h' p kv L.length (L.getD 0 []).length L.flatten tl0 → Fr none' h h' → h.next ≤ p → (∀ id, idOf kv id → h.next ≤ id) → Q (.tuple #[pv p, .int .i64 0, .int .i64 0, .int .i64 0]) h') :
    W 14 [strV l] h Q := by
  refine parse_w l hl hlow (fun e h' fr => hbad 1 1 (by unfold verd; rw [if_pos e]) h' fr) (fun i hi ok he h' fr => ?_) (fun hne ok ha h' fr => ?_) (fun hne ok ha p kv h' m fr hp' hid => ?_)
  · have hne : l ≠ [] := fun e => by rw [e] at hi; simp [linesL] at hi
    rcases verd_ne hne with ⟨j, j1, j2, j3, e⟩ | ⟨ok', _⟩
    · have : j = i := by
        rcases Nat.lt_trichotomy j i with q | q | q
        · exact absurd (ok j q) j3
        · exact q
        · exact absurd (j2 i q) he
      subst this
      exact hbad _ _ e h' fr
    · exact absurd (ok' i hi) he
  · rcases verd_ne hne with ⟨j, j1, _, j3, e⟩ | ⟨_, e⟩
    · exact absurd (ok j j1) j3
    · refine hbad 0 0 ?_ h' fr
      rw [e, if_neg]
      intro q
      refine (allP_any _).2 ?_ ha
      rw [kindsI_flat ok _ (Nat.le_refl _), List.take_length, any_flat, List.any_map]
      exact q
  · rcases verd_ne hne with ⟨j, j1, _, j3, e⟩ | ⟨_, e⟩
    · exact absurd (ok j j1) j3
    · have hf : ((linesL l.length l).any fun x => freeL (lineT x)) = true := by
        rw [allP_any, kindsI_flat ok _ (Nat.le_refl _), List.take_length, any_flat, List.any_map] at ha
        exact ha
      rw [if_pos hf] at e
      obtain ⟨_, g2, g3⟩ := good_of ok (linesL_ne hne) hf
      refine hok _ e p kv h' ?_ fr hp' hid
      rw [List.length_map, ← g2, ← g3]
      exact m
/-! ### The free cells in order -/
theorem freeP_in {K : List UInt8} {i : Int} (h : freeP K i = true) : 0 ≤ i ∧ i < K.length := by
  unfold freeP at h
  rw [Bool.and_eq_true, decide_eq_true_eq] at h
  exact h.1
end Go.Proofs.YtgdcbjpookldoaaDoor

namespace Go.Proofs.YtgdcbjpookldoaaDoor
open Go.AM
set_option maxRecDepth 8000
theorem b86_G13 : type_of% (And.intro (@List.map_toArray.{0,0}) (And.intro (@AM.boxK_agg) (And.intro (@AM.boxK_bool) (And.intro (@AM.boxK_func) (And.intro (@AM.boxK_int) (And.intro (@AM.boxK_map) (And.intro (@AM.boxK_pointer) (And.intro (@AM.boxK_slice) (And.intro (@AM.boxK_string) (And.intro (@AM.op_box) (@AM.op_makeFunc))))))))))) := And.intro (@List.map_toArray.{0,0}) (And.intro (@AM.boxK_agg) (And.intro (@AM.boxK_bool) (And.intro (@AM.boxK_func) (And.intro (@AM.boxK_int) (And.intro (@AM.boxK_map) (And.intro (@AM.boxK_pointer) (And.intro (@AM.boxK_slice) (And.intro (@AM.boxK_string) (And.intro (@AM.op_box) (@AM.op_makeFunc))))))))))
theorem b101_G13 : type_of% (And.intro (@AM.alK_some) (And.intro (@al_123) (And.intro (@AM.bin_add) (And.intro (@AM.bin_geq) (And.intro (@AM.bin_lss) (And.intro (@AM.bin_mul) (And.intro (@AM.bin_quo) (And.intro (@AM.bin_rem) (And.intro (@AM.fa_ptr) (And.intro (@fd_123_2) (And.intro (@fd_123_3) (And.intro (@fd_84_0) (And.intro (@fd_84_1) (And.intro (@AM.ldO_agg) (And.intro (@AM.ldO_one) (And.intro (@AM.ld_ptr) (And.intro (@lk_123) (And.intro (@lk_141) (And.intro (@lk_23) (And.intro (@lk_3) (And.intro (@AM.op_alloc) (And.intro (@AM.op_binOp) (And.intro (@AM.op_call) (And.intro (@AM.op_fieldAddr) (And.intro (@AM.op_index) (And.intro (@AM.op_load) (And.intro (@AM.op_nilCheck) (And.intro (@AM.op_store) (And.intro (@AM.op_unOp) (And.intro (@AM.stO_agg) (And.intro (@AM.stO_bool) (And.intro (@AM.stO_int) (And.intro (@AM.stO_map) (And.intro (@AM.stO_pointer) (And.intro (@AM.stO_slice) (And.intro (@AM.stO_string) (And.intro (@AM.st_ptr) (And.intro (@sz_123) (And.intro (@AM.un_neg) (@AM.un_not)))))))))))))))))))))))))))))))))))))))) := And.intro (@AM.alK_some) (And.intro (@al_123) (And.intro (@AM.bin_add) (And.intro (@AM.bin_geq) (And.intro (@AM.bin_lss) (And.intro (@AM.bin_mul) (And.intro (@AM.bin_quo) (And.intro (@AM.bin_rem) (And.intro (@AM.fa_ptr) (And.intro (@fd_123_2) (And.intro (@fd_123_3) (And.intro (@fd_84_0) (And.intro (@fd_84_1) (And.intro (@AM.ldO_agg) (And.intro (@AM.ldO_one) (And.intro (@AM.ld_ptr) (And.intro (@lk_123) (And.intro (@lk_141) (And.intro (@lk_23) (And.intro (@lk_3) (And.intro (@AM.op_alloc) (And.intro (@AM.op_binOp) (And.intro (@AM.op_call) (And.intro (@AM.op_fieldAddr) (And.intro (@AM.op_index) (And.intro (@AM.op_load) (And.intro (@AM.op_nilCheck) (And.intro (@AM.op_store) (And.intro (@AM.op_unOp) (And.intro (@AM.stO_agg) (And.intro (@AM.stO_bool) (And.intro (@AM.stO_int) (And.intro (@AM.stO_map) (And.intro (@AM.stO_pointer) (And.intro (@AM.stO_slice) (And.intro (@AM.stO_string) (And.intro (@AM.st_ptr) (And.intro (@sz_123) (And.intro (@AM.un_neg) (@AM.un_not)))))))))))))))))))))))))))))))))))))))


/-! ### The sides of a cell -/
abbrev Wy := Int × Int × Int × Int
def wayV : List Wy := [(94, 118, -1, 0), (60, 62, 0, -1), (62, 60, 0, 1), (118, 94, 1, 0)]
abbrev encW (q : Wy) : List Value := [.int .u8 q.1, .int .u8 q.2.1, .int .i64 q.2.2.1, .int .i64 q.2.2.2]
def waysC : List Value := wayV.flatMap encW
/-- The row and the column that a way leads to. -/
def rowTo (C a : Nat) (q : Wy) : Int := (a / C : Nat) + q.2.2.1
def colTo (C a : Nat) (q : Wy) : Int := (a % C : Nat) + q.2.2.2
def inB (R C a : Nat) (q : Wy) : Bool := decide (0 ≤ rowTo C a q) && decide (rowTo C a q < R) && decide (0 ≤ colTo C a q) && decide (colTo C a q < C)
def cellTo (C a : Nat) (q : Wy) : Int := rowTo C a q * C + colTo C a q
def sidesF (R C a : Nat) (l : List Wy) : List Wy := l.filter (inB R C a)
def sideXs (R C a : Nat) : List (List Value) := (sidesF R C a wayV).map fun q => [.int .i64 (cellTo C a q), .agg (encW q).toArray]
abbrev dW : Wy := (0, 0, 0, 0)
theorem ways_at {i : Nat} (hi : i < 4) : (-1 ≤ (wayV.getD i dW).2.2.1 ∧ (wayV.getD i dW).2.2.1 ≤ 1) ∧ -1 ≤ (wayV.getD i dW).2.2.2 ∧ (wayV.getD i dW).2.2.2 ≤ 1 := by
  match i, hi with
  | 0, _ | 1, _ | 2, _ | 3, _ => decide
theorem sidesF_succ (R C a : Nat) {i : Nat} (hi : i < 4) : sidesF R C a (wayV.take (i + 1)) = sidesF R C a (wayV.take i) ++ if inB R C a (wayV.getD i dW) = true then [wayV.getD i dW] else [] := by
  have : wayV.take (i + 1) = wayV.take i ++ [wayV.getD i dW] := by
    match i, hi with
    | 0, _ | 1, _ | 2, _ | 3, _ => rfl
  rw [this]; unfold sidesF
  rw [List.filter_append, List.filter_cons]; simp
theorem sidesF_get (R C a : Nat) {i : Nat} (hi : i < 4) (hb : inB R C a (wayV.getD i dW) = true) : (sidesF R C a wayV)[(sidesF R C a (wayV.take i)).length]? = some (wayV.getD i dW) := by
  have h1 := sidesF_succ R C a hi
  rw [if_pos hb] at h1
  have h2 : sidesF R C a wayV = sidesF R C a (wayV.take (i + 1)) ++ sidesF R C a (wayV.drop (i + 1)) := by
    unfold sidesF; rw [← List.filter_append, List.take_append_drop]
  rw [h2, h1]; simp
theorem ways_ix0 : aIndex Tryd.prog 141 (.agg waysC.toArray) (.int .i64 (0 : Nat)) = some (.agg (encW (wayV.getD 0 dW)).toArray) := by kernel_rfl
theorem ways_ix1 : aIndex Tryd.prog 141 (.agg waysC.toArray) (.int .i64 (1 : Nat)) = some (.agg (encW (wayV.getD 1 dW)).toArray) := by kernel_rfl
theorem ways_ix2 : aIndex Tryd.prog 141 (.agg waysC.toArray) (.int .i64 (2 : Nat)) = some (.agg (encW (wayV.getD 2 dW)).toArray) := by kernel_rfl
theorem ways_ix3 : aIndex Tryd.prog 141 (.agg waysC.toArray) (.int .i64 (3 : Nat)) = some (.agg (encW (wayV.getD 3 dW)).toArray) := by kernel_rfl
theorem ways_ix (i : Nat) (hi : i < 4) : aIndex Tryd.prog 141 (.agg waysC.toArray) (.int .i64 i) = some (.agg (encW (wayV.getD i dW)).toArray) := by
  match i, hi with
  | 0, _ => exact ways_ix0
  | 1, _ => exact ways_ix1
  | 2, _ => exact ways_ix2
  | 3, _ => exact ways_ix3
theorem ways_ld : ldO (some (.cells waysC 123 false)) 0 (some 16) = some (.agg waysC.toArray) := by kernel_rfl

theorem sidesC_w {a : Nat} {p : Nat} {h : AHeap} {Q : VQ} (hq : ∀ h', h'.get h.next = some (.cells [pv p] 23 false) → h'.get (h.next + 1) = some (.cells [.int .i64 a] 3 false) → Fr none' h h' → h'.next = h.next + 2 → Q (.func (.func 101) #[] #[pv (h.next + 1), pv h.next]) h') : W 86 [pv p, .int .i64 a] h Q := by
  refine AM.enter hp (fn := Tryd.f86) (rs := [.tmp 4]) (nt := 6) (by kernel_rfl) Tryd.func86 rfl rfl rfl (by kernel_rfl) ?_
  simp (maxSteps := 1000000) (disch := first | omega | (simp only [AM.DB, List.length_set, List.length_map]; first | done | omega)) only [AM.RB, Nat.reduceAdd, Nat.reduceMul, Nat.reduceEqDiff, reduceCtorEq, b86_G13]
  refine hq _ ?_ ?_ (((Fr.refl _ _).alloc _).alloc _) rfl
  all_goals simp (maxSteps := 1000000) (disch := first | omega | (simp only [AM.DB, List.length_set, List.length_map]; first | done | omega)) only [AM.RB, Nat.reduceAdd, Nat.reduceMul, Nat.reduceEqDiff, reduceCtorEq, b86_G13]

theorem sides1_w {wa wm p a R C : Nat} {kv : Value} {K : List UInt8} {tl : List Value} {h : AHeap} {e1 e2 : TypeId} {o1 o2 : Bool} (hw : h.get GW = some (.cells waysC 123 false)) (g1 : h.get wa = some (.cells [.int .i64 a] e1 o1)) (g2 : h.get wm = some (.cells [pv p] e2 o2))
    (m : Mp h p kv R C K tl) (hb : R ≤ 32 ∧ C ≤ 32) (hC : 0 < C) (ha : a < R * C) :
    IterOk Tryd.prog prims (.func (.func 101) #[] #[pv wa, pv wm]) (fun id => id = GW ∨ id = wa ∨ id = wm ∨ id = p) (sideXs R C a) h := by
  intro y J E h0 hnx hR hlow hJ hE hy hJ0
  have hw' : h0.get GW = some (.cells waysC 123 false) := by rw [hR GW (AM.get_some_lt hw) (.inl rfl)]; exact hw
  have g1' : h0.get wa = some (.cells [.int .i64 a] e1 o1) := by rw [hR wa (AM.get_some_lt g1) (.inr (.inl rfl))]; exact g1
  have g2' : h0.get wm = some (.cells [pv p] e2 o2) := by rw [hR wm (AM.get_some_lt g2) (.inr (.inr (.inl rfl)))]; exact g2
  have gp' : h0.get p = some (.cells (.int .i64 (R : Nat) :: .int .i64 (C : Nat) :: kv :: tl) 84 false) := by rw [hR p (AM.get_some_lt m.1) (.inr (.inr (.inr rfl)))]; exact m.1
  have haC : a < 1024 := Nat.lt_of_lt_of_le ha (Nat.le_trans (Nat.mul_le_mul hb.1 hb.2) (by decide))
  have hdiv : a / C ≤ 1024 := Nat.le_trans (Nat.div_le_self _ _) (by omega)
  have hmod : a % C < C := Nat.mod_lt _ hC
  have et : IntKind.i64.wrap ((a : Int).tdiv C) = ((a / C : Nat) : Int) := by
    have e : (a : Int).tdiv C = ((a / C : Nat) : Int) := by rw [Int.tdiv_eq_ediv_of_nonneg (by omega)]; rfl
    have hw : ∀ d : Nat, d ≤ 1024 → IntKind.i64.wrap (d : Int) = d := fun d hd => AM.wrap_i64 (by omega) (by omega)
    rw [e]; exact hw _ hdiv
  have em : (a : Int).tmod C = ((a % C : Nat) : Int) := by rw [Int.tmod_eq_emod_of_nonneg (by omega)]; rfl
  refine AM.enter hp (fn := Tryd.f101) (rs := []) (nt := 65) (by kernel_rfl) Tryd.func101 rfl rfl rfl (by kernel_rfl) ?_
  (repeat' (first | (simp (maxSteps := 1000000) (disch := first | omega | (simp only [AM.DB, List.length_set, List.length_map]; first | done | omega)) only [AM.RB, Nat.reduceAdd, Nat.reduceMul, Nat.reduceEqDiff, reduceCtorEq, b101_G13, hw', ways_ld]) | refine AM.drawW_fine hp (by kernel_rfl) (by kernel_rfl) (by kernel_rfl) ?_ | refine AM.opW_tied (by kernel_rfl) ?_ | refine AM.opW_untied (by kernel_rfl) ?_))
  refine AM.loop_w hp 65 (fun i : Nat => [(0, y), (1, pv wa), (2, pv wm), (8, .agg waysC.toArray), (9, .int .i64 i)])
    (fun i h' => i ≤ 4 ∧ (∀ id, (id = GW ∨ id = wa ∨ id = wm ∨ id = p) → h'.get id = h0.get id) ∧ h0.next ≤ h'.next ∧ h'.low = h0.low ∧ ∃ A, J (sidesF R C a (wayV.take i)).length A h' ∧ (∀ id, A id → h0.next ≤ id ∧ id < h'.next)) (fun i => 4 - i) (by kernel_rfl) 0 ?_ ?_ ?_
  · simp (maxSteps := 1000000) (disch := first | omega | (simp only [AM.DB, List.length_set, List.length_map]; first | done | omega)) only [AM.RB, Nat.reduceAdd, Nat.reduceMul, Nat.reduceEqDiff, reduceCtorEq, b101_G13]
  · exact ⟨Nat.zero_le _, fun _ _ => rfl, Nat.le_refl _, rfl, _, hJ0, fun _ q => q.elim⟩
  rintro i h2 ρ ⟨hi, hk, hnx2, hlow2, A, hJi, hA⟩
  have k1 : h2.get wa = some (.cells [.int .i64 a] e1 o1) := by rw [hk wa (.inr (.inl rfl))]; exact g1'
  have k2 : h2.get wm = some (.cells [pv p] e2 o2) := by rw [hk wm (.inr (.inr (.inl rfl)))]; exact g2'
  have kp : h2.get p = some (.cells (.int .i64 (R : Nat) :: .int .i64 (C : Nat) :: kv :: tl) 84 false) := by rw [hk p (.inr (.inr (.inr rfl)))]; exact gp'
  simp (maxSteps := 1000000) (disch := first | omega | (simp only [AM.DB, List.length_set, List.length_map]; first | done | omega)) only [AM.RB, Nat.reduceAdd, Nat.reduceMul, Nat.reduceEqDiff, reduceCtorEq, b101_G13]
  refine AM.condV_split (fun hlt => ?_) (fun hlt => ?_)
  · have hi4 : i < 4 := by omega
    have hix := ways_ix i hi4
    obtain ⟨hdr, hdc⟩ := ways_at hi4
    obtain ⟨⟨ch, ag, dr, dc⟩, hq⟩ : ∃ q, wayV.getD i dW = q := ⟨_, rfl⟩
    have hsu := sidesF_succ R C a hi4
    have hge := sidesF_get R C a hi4
    rw [hq] at hix hsu hge hdr hdc
    simp only at hdr hdc
    (repeat' (first | (simp (maxSteps := 1000000) (disch := first | omega | (simp only [AM.DB, List.length_set, List.length_map]; first | done | omega)) only [AM.RB, Nat.reduceAdd, Nat.reduceMul, Nat.reduceEqDiff, reduceCtorEq, b101_G13, hix, encW]) | refine AM.drawW_fine hp (by kernel_rfl) (by kernel_rfl) (by kernel_rfl) ?_ | refine AM.opW_tied (by kernel_rfl) ?_ | refine AM.opW_untied (by kernel_rfl) ?_))
    generalize hE_ : AHeap.put (AHeap.alloc h2 _) _ _ = h3; obtain ⟨g3, fr3, n3, l3⟩ := AM.box_get hE_ (by omega); clear hE_
    have k13 := k1.fr0 fr3
    have k23 := k2.fr0 fr3
    have kp3 := kp.fr0 fr3
    have hC' : (C : Int) ≠ 0 := by omega
    have er : rowTo C a (ch, ag, dr, dc) = (a / C : Nat) + dr := rfl
    have ec : colTo C a (ch, ag, dr, dc) = (a % C : Nat) + dc := rfl
    generalize hdv : a / C = dv at *
    generalize hmd : a % C = md at *
    (repeat' (first | (simp (maxSteps := 1000000) (disch := first | omega | (simp only [AM.DB, List.length_set, List.length_map]; first | done | omega)) only [AM.RB, Nat.reduceAdd, Nat.reduceMul, Nat.reduceEqDiff, reduceCtorEq, b101_G13, k13, k23, kp3, g3, et, em, AM.wrap_i64]) | refine AM.drawW_fine hp (by kernel_rfl) (by kernel_rfl) (by kernel_rfl) ?_ | refine AM.opW_tied (by kernel_rfl) ?_ | refine AM.opW_untied (by kernel_rfl) ?_))
    generalize hrr : (dv : Int) + dr = rr at *
    generalize hcc : (md : Int) + dc = cc at *
    have hin : inB R C a (ch, ag, dr, dc) = (decide (0 ≤ rr) && decide (rr < R) && decide (0 ≤ cc) && decide (cc < C)) := by unfold inB; rw [er, ec]
    have hk3 : ∀ id, (id = GW ∨ id = wa ∨ id = wm ∨ id = p) → h3.get id = h0.get id := fun id q => by
      rw [fr3.old id ?_ (fun q => q)]
      · exact hk id q
      · rcases q with rfl | rfl | rfl | rfl
        · have h := hk GW (.inl rfl); rw [hw'] at h; exact AM.get_some_lt h
        · exact AM.get_some_lt k1
        · exact AM.get_some_lt k2
        · exact AM.get_some_lt kp
    have hJ3 := hJ _ _ _ _ _ hJi (fr3.weak) (fun _ q => q) (fun _ q => .inl q)
    have hA3 : ∀ id, A id → h0.next ≤ id ∧ id < h3.next := fun id q => ⟨(hA id q).1, by have := (hA id q).2; omega⟩
    have hno : inB R C a (ch, ag, dr, dc) = false → J (sidesF R C a (List.take (i + 1) wayV)).length A h3 := fun hf => by
      rw [hsu, hf]; simpa using hJ3
    by_cases c1 : rr < 0
    · have hf := hno (by rw [hin, decide_eq_false (by omega)]; rfl)
      (repeat' (first | (simp (maxSteps := 1000000) (disch := first | omega | (simp only [AM.DB, List.length_set, List.length_map]; first | done | omega)) only [AM.RB, Nat.reduceAdd, Nat.reduceMul, Nat.reduceEqDiff, reduceCtorEq, b101_G13, k23, kp3, AM.wrap_i64, decide_eq_true c1]) | refine AM.drawW_fine hp (by kernel_rfl) (by kernel_rfl) (by kernel_rfl) ?_ | refine AM.opW_tied (by kernel_rfl) ?_ | refine AM.opW_untied (by kernel_rfl) ?_))
      exact ⟨i + 1, by omega, congrArg _ (by omega), by omega, hk3, by omega, by omega, A, hf, hA3⟩
    by_cases c2 : (R : Int) ≤ rr
    · have hf := hno (by rw [hin, decide_eq_false (show ¬ rr < R by omega)]; simp)
      (repeat' (first | (simp (maxSteps := 1000000) (disch := first | omega | (simp only [AM.DB, List.length_set, List.length_map]; first | done | omega)) only [AM.RB, Nat.reduceAdd, Nat.reduceMul, Nat.reduceEqDiff, reduceCtorEq, b101_G13, k23, kp3, AM.wrap_i64, decide_eq_false c1, decide_eq_true c2]) | refine AM.drawW_fine hp (by kernel_rfl) (by kernel_rfl) (by kernel_rfl) ?_ | refine AM.opW_tied (by kernel_rfl) ?_ | refine AM.opW_untied (by kernel_rfl) ?_))
      exact ⟨i + 1, by omega, congrArg _ (by omega), by omega, hk3, by omega, by omega, A, hf, hA3⟩
    by_cases c3 : cc < 0
    · have hf := hno (by rw [hin, decide_eq_false (show ¬ 0 ≤ cc by omega)]; simp)
      (repeat' (first | (simp (maxSteps := 1000000) (disch := first | omega | (simp only [AM.DB, List.length_set, List.length_map]; first | done | omega)) only [AM.RB, Nat.reduceAdd, Nat.reduceMul, Nat.reduceEqDiff, reduceCtorEq, b101_G13, k23, kp3, AM.wrap_i64, decide_eq_false c1, decide_eq_false c2, decide_eq_true c3]) | refine AM.drawW_fine hp (by kernel_rfl) (by kernel_rfl) (by kernel_rfl) ?_ | refine AM.opW_tied (by kernel_rfl) ?_ | refine AM.opW_untied (by kernel_rfl) ?_))
      exact ⟨i + 1, by omega, congrArg _ (by omega), by omega, hk3, by omega, by omega, A, hf, hA3⟩
    by_cases c4 : (C : Int) ≤ cc
    · have hf := hno (by rw [hin, decide_eq_false (show ¬ cc < C by omega)]; simp)
      (repeat' (first | (simp (maxSteps := 1000000) (disch := first | omega | (simp only [AM.DB, List.length_set, List.length_map]; first | done | omega)) only [AM.RB, Nat.reduceAdd, Nat.reduceMul, Nat.reduceEqDiff, reduceCtorEq, b101_G13, k23, kp3, AM.wrap_i64, decide_eq_false c1, decide_eq_false c2, decide_eq_false c3, decide_eq_true c4]) | refine AM.drawW_fine hp (by kernel_rfl) (by kernel_rfl) (by kernel_rfl) ?_ | refine AM.opW_tied (by kernel_rfl) ?_ | refine AM.opW_untied (by kernel_rfl) ?_))
      exact ⟨i + 1, by omega, congrArg _ (by omega), by omega, hk3, by omega, by omega, A, hf, hA3⟩
    have ht : inB R C a (ch, ag, dr, dc) = true := by rw [hin, decide_eq_true (show 0 ≤ rr by omega), decide_eq_true (show rr < R by omega), decide_eq_true (show 0 ≤ cc by omega), decide_eq_true (show cc < C by omega)]; rfl
    have hm0 : 0 ≤ rr * C := Int.mul_nonneg (by omega) (by omega)
    have hm1 : rr * C ≤ 32 * 32 := Int.mul_le_mul (by omega) (by omega) (by omega) (by omega)
    have ect : cellTo C a (ch, ag, dr, dc) = rr * C + cc := by unfold cellTo; rw [er, ec]
    (repeat' (first | (simp (maxSteps := 1000000) (disch := first | omega | (simp only [AM.DB, List.length_set, List.length_map]; first | done | omega)) only [AM.RB, Nat.reduceAdd, Nat.reduceMul, Nat.reduceEqDiff, reduceCtorEq, b101_G13, k23, kp3, g3, AM.wrap_i64, decide_eq_false c1, decide_eq_false c2, decide_eq_false c3, decide_eq_false c4]) | refine AM.drawW_fine hp (by kernel_rfl) (by kernel_rfl) (by kernel_rfl) ?_ | refine AM.opW_tied (by kernel_rfl) ?_ | refine AM.opW_untied (by kernel_rfl) ?_))
    have hx := hge ht
    refine AM.CallW.mono (hy (sidesF R C a (wayV.take i)).length [.int .i64 (rr * C + cc), .agg (encW (ch, ag, dr, dc)).toArray] A h3 (by unfold sideXs; rw [List.getElem?_map, hx, Option.map_some, ect]) hJ3 hA3 (by omega) (by omega) hk3) ?_
    rintro vb h4 ⟨b, rfl, q1, q2, q3, q4⟩
    have hk4 : ∀ id, (id = GW ∨ id = wa ∨ id = wm ∨ id = p) → h4.get id = h0.get id := fun id q => by
      rw [q3 id ?_ (.inr q)]
      · exact hk3 id q
      · rcases q with rfl | rfl | rfl | rfl
        · have h := hk3 GW (.inl rfl); rw [hw'] at h; exact AM.get_some_lt h
        · exact AM.get_some_lt k13
        · exact AM.get_some_lt k23
        · exact AM.get_some_lt kp3
    have hA4 : ∀ id, A id → h0.next ≤ id ∧ id < h4.next := fun id q => ⟨(hA id q).1, by have := (hA3 id q).2; omega⟩
    cases b with
    | true =>
      (repeat' (first | (simp (maxSteps := 1000000) (disch := first | omega | (simp only [AM.DB, List.length_set, List.length_map]; first | done | omega)) only [AM.RB, Nat.reduceAdd, Nat.reduceMul, Nat.reduceEqDiff, reduceCtorEq, b101_G13, AM.wrap_i64]) | refine AM.drawW_fine hp (by kernel_rfl) (by kernel_rfl) (by kernel_rfl) ?_ | refine AM.opW_tied (by kernel_rfl) ?_ | refine AM.opW_untied (by kernel_rfl) ?_))
      refine ⟨i + 1, by omega, congrArg _ (by omega), by omega, hk4, by omega, by omega, A, ?_, hA4⟩
      rw [hsu, if_pos ht, List.length_append]; simpa using q4
    | false =>
      (repeat' (first | (simp (maxSteps := 1000000) (disch := first | omega | (simp only [AM.DB, List.length_set, List.length_map]; first | done | omega)) only [AM.RB, Nat.reduceAdd, Nat.reduceMul, Nat.reduceEqDiff, reduceCtorEq, b101_G13, AM.wrap_i64]) | refine AM.drawW_fine hp (by kernel_rfl) (by kernel_rfl) (by kernel_rfl) ?_ | refine AM.opW_tied (by kernel_rfl) ?_ | refine AM.opW_untied (by kernel_rfl) ?_))
      exact ⟨A, hA4, by omega, by omega, .inr (by simpa using q4)⟩
  · have e : i = 4 := by omega
    subst e
    (repeat' (first | (simp (maxSteps := 1000000) (disch := first | omega | (simp only [AM.DB, List.length_set, List.length_map]; first | done | omega)) only [AM.RB, Nat.reduceAdd, Nat.reduceMul, Nat.reduceEqDiff, reduceCtorEq, b101_G13]) | refine AM.drawW_fine hp (by kernel_rfl) (by kernel_rfl) (by kernel_rfl) ?_ | refine AM.opW_tied (by kernel_rfl) ?_ | refine AM.opW_untied (by kernel_rfl) ?_))
    refine ⟨A, hA, hnx2, hlow2, .inl ?_⟩
    unfold sideXs
    rw [List.length_map]
    exact hJi

end Go.Proofs.YtgdcbjpookldoaaDoor

namespace Go.Proofs.YtgdcbjpookldoaaDoor
open Go.AM

def upd {α : Type} (X : Nat → α) (k : Nat) (v : α) : Nat → α := fun j => if j = k then v else X j
/-! ### The tables in memory -/
structure Bk (h : AHeap) (n nid bid : Nat) (X : Nat → Value) (L : Nat → List Int) : Prop where
  g1 : h.get nid = some (.cells ((List.range n).map X) 22 false)
  g2 : h.get bid = some (.cells ((List.range n).map fun j => X (n + j)) 22 false)
  ow : ∀ j, j < 2 * n → Ow h 3 1 (X j) (L j).length ((L j).map (.int .i64))
  dj : ∀ i j, i < 2 * n → j < 2 * n → i ≠ j → ∀ id, idOf (X i) id → ¬ idOf (X j) id
  ne : ∀ j, j < 2 * n → ∀ id, idOf (X j) id → id ≠ nid ∧ id ≠ bid
  nb : nid ≠ bid
  low : h.low ≤ nid ∧ h.low ≤ bid
theorem Bk.same {h h' : AHeap} {n nid bid : Nat} {X : Nat → Value} {L : Nat → List Int} (b : Bk h n nid bid X L) (hh : ∀ id, (id = nid ∨ id = bid ∨ ∃ j, j < 2 * n ∧ idOf (X j) id) → h'.get id = h.get id) (hl : h'.low = h.low) : Bk h' n nid bid X L :=
  ⟨by rw [hh _ (.inl rfl)]; exact b.g1, by rw [hh _ (.inr (.inl rfl))]; exact b.g2, fun j hj => (b.ow j hj).same (fun id q => hh id (.inr (.inr ⟨j, hj, q⟩))) hl, b.dj, b.ne, b.nb, by rw [hl]; exact b.low⟩
theorem range_set {α : Type} (X : Nat → α) (n k : Nat) (v : α) : ((List.range n).map X).set k v = (List.range n).map (upd X k v) := by
  apply List.ext_getElem?
  intro j
  rw [List.getElem?_set, List.getElem?_map, List.getElem?_map]
  unfold upd
  by_cases hj : j < n
  · rw [List.getElem?_range hj]
    by_cases e : k = j
    · subst e; simp [hj]
    · have : j ≠ k := fun q => e q.symm
      rw [if_neg e]
      simp [this]
  · have : (List.range n)[j]? = none := by simp; omega
    rw [this]
    by_cases e : k = j
    · subst e; simp; omega
    · simp [e]
/-- One element more, at one place. -/
theorem Bk.app {h h1 h2 h3 : AHeap} {n nid bid : Nat} {X : Nat → Value} {L : Nat → List Int} (b : Bk h n nid bid X L) {k : Nat} (hk : k < 2 * n) {v : Value} {x : Int} (fr1 : Fr none' h h1)
    (ow2 : Ow h2 3 1 v ((L k).length + 1) ((L k).map (.int .i64) ++ [.int .i64 x])) (fr2 : Fr (idOf (X k)) h1 h2) (hid : ∀ id, idOf v id → idOf (X k) id ∨ h1.next ≤ id)
    (w : Nat) (hw : w = if k < n then nid else bid) (g3 : h3.get w = some (.cells (((List.range n).map fun j => X (if k < n then j else n + j)).set (if k < n then k else k - n) v) 22 false)) (fr3 : Fr (fun id => id = w) h2 h3) : Bk h3 n nid bid (upd X k v) (upd L k (L k ++ [x])) := by
  have ltn := AM.get_some_lt b.g1
  have ltb := AM.get_some_lt b.g2
  have lt1 := fr1.next
  have lt2 := fr2.next
  have hlt : ∀ j, j < 2 * n → ∀ id, idOf (X j) id → id < h.next := fun j hj id q => (b.ow j hj).lt q
  have hv : ∀ j, j < 2 * n → j ≠ k → ∀ id, idOf v id → ¬ idOf (X j) id := fun j hj e id q q2 => by
    rcases hid id q with q | q
    · exact b.dj k j hk hj (fun q => e q.symm) id q q2
    · have := hlt j hj id q2; omega
  have hne : ∀ id, idOf v id → id ≠ nid ∧ id ≠ bid := fun id q => by
    rcases hid id q with q | q
    · exact b.ne k hk id q
    · omega
  have hn2 : h2.get nid = h.get nid := by rw [fr2.old nid (by omega) (fun q => (b.ne k hk nid q).1 rfl), fr1.old nid ltn (fun q => q)]
  have hb2 : h2.get bid = h.get bid := by rw [fr2.old bid (by omega) (fun q => (b.ne k hk bid q).2 rfl), fr1.old bid ltb (fun q => q)]
  have hwn : w = nid ∨ w = bid := by rw [hw]; split <;> simp
  refine ⟨?_, ?_, fun j hj => ?_, fun i j hi hj e id => ?_, fun j hj id => ?_, b.nb, by rw [fr3.low, fr2.low, fr1.low]; exact b.low⟩
  · by_cases c : k < n
    · rw [if_pos c] at hw
      subst hw
      rw [g3, if_pos c]
      simp only [c, if_true]
      rw [range_set]
    · rw [if_neg c] at hw
      have hup : (List.range n).map (upd X k v) = (List.range n).map X := List.map_congr_left fun j hj => by
        have := List.mem_range.1 hj
        unfold upd; rw [if_neg (by omega)]
      rw [hup, fr3.old nid (by omega) (by rw [hw]; exact b.nb), hn2]; exact b.g1
  · by_cases c : k < n
    · rw [if_pos c] at hw
      have hup : ((List.range n).map fun j => upd X k v (n + j)) = (List.range n).map fun j => X (n + j) := List.map_congr_left fun j hj => by
        unfold upd; rw [if_neg (by omega)]
      rw [hup, fr3.old bid (by omega) (by rw [hw]; exact fun q => b.nb q.symm), hb2]; exact b.g2
    · rw [if_neg c] at hw
      subst hw
      rw [g3, if_neg c]
      simp only [c, if_false]
      rw [range_set]
      congr 2
      apply List.map_congr_left
      intro j hj
      unfold upd
      by_cases e : j = k - n
      · rw [if_pos e, if_pos (by omega)]
      · rw [if_neg e, if_neg (by omega)]
  · unfold upd
    by_cases e : j = k
    · rw [if_pos e, if_pos e]
      have := ow2.fr fr3 fun id q e2 => by
        have := hne id q
        rcases hwn with q2 | q2 <;> omega
      simpa using this
    · rw [if_neg e, if_neg e]
      refine ((b.ow j hj).fr ((fr1.weak (S := idOf (X k))).then fr2 fun _ _ q => q) ?_).fr fr3 ?_
      · exact fun id q q2 => b.dj j k hj hk e id q q2
      · intro id q e2
        have := b.ne j hj id q
        rcases hwn with q2 | q2 <;> omega
  · unfold upd
    intro q1 q2
    split at q1
    · split at q2
      · omega
      · rename_i e1 e2
        exact hv j hj e2 id q1 q2
    · split at q2
      · rename_i e1 e2
        exact hv i hi e1 id q2 q1
      · exact b.dj i j hi hj e id q1 q2
  · unfold upd
    split
    · exact hne id
    · exact b.ne j hj id

end Go.Proofs.YtgdcbjpookldoaaDoor

namespace Go.Proofs.YtgdcbjpookldoaaDoor
open Go.AM
set_option maxRecDepth 8000
theorem b87_G14 : type_of% (And.intro (@AM.bin_eql) (And.intro (@AM.boxK_agg) (And.intro (@AM.boxK_bool) (And.intro (@AM.boxK_func) (And.intro (@AM.boxK_int) (And.intro (@AM.boxK_map) (And.intro (@AM.boxK_pointer) (And.intro (@AM.boxK_slice) (And.intro (@AM.boxK_string) (And.intro (@AM.fa_ptr) (And.intro (@fd_123_0) (And.intro (@AM.ldO_agg) (And.intro (@AM.ldO_one) (And.intro (@AM.ld_ptr) (And.intro (@lk_5) (And.intro (@AM.op_binOp) (And.intro (@AM.op_box) (And.intro (@AM.op_fieldAddr) (@AM.op_load))))))))))))))))))) := And.intro (@AM.bin_eql) (And.intro (@AM.boxK_agg) (And.intro (@AM.boxK_bool) (And.intro (@AM.boxK_func) (And.intro (@AM.boxK_int) (And.intro (@AM.boxK_map) (And.intro (@AM.boxK_pointer) (And.intro (@AM.boxK_slice) (And.intro (@AM.boxK_string) (And.intro (@AM.fa_ptr) (And.intro (@fd_123_0) (And.intro (@AM.ldO_agg) (And.intro (@AM.ldO_one) (And.intro (@AM.ld_ptr) (And.intro (@lk_5) (And.intro (@AM.op_binOp) (And.intro (@AM.op_box) (And.intro (@AM.op_fieldAddr) (@AM.op_load))))))))))))))))))


/-! ### Which edges there are -/
def leavesP (c : UInt8) (q : Wy) : Bool := decide ((c.toNat : Int) = 46) || decide ((c.toNat : Int) = q.1)
theorem leaves_w (c : UInt8) (q : Wy) {h : AHeap} {Q : VQ} (hq : ∀ h', Fr none' h h' → Q (.bool (leavesP c q)) h') : W 87 [bV c, .agg (encW q).toArray] h Q := by
  obtain ⟨ch, ag, dr, dc⟩ := q
  refine AM.enter hp (fn := Tryd.f87) (rs := [.tmp 4]) (nt := 13) (by kernel_rfl) Tryd.func87 rfl rfl rfl (by kernel_rfl) ?_
  (first | (simp (maxSteps := 1000000) (disch := first | omega | (simp only [AM.DB, List.length_set, List.length_map]; first | done | omega)) only [AM.RB, Nat.reduceAdd, Nat.reduceMul, Nat.reduceEqDiff, reduceCtorEq, b87_G14, encW]) | skip)
  generalize hE_ : AHeap.alloc h _ = h1; obtain ⟨g1, fr1, n1, l1⟩ := AM.new_get hE_; clear hE_
  unfold leavesP at hq
  cases hd : decide ((c.toNat : Int) = 46)
  · (first | (simp (maxSteps := 1000000) (disch := first | omega | (simp only [AM.DB, List.length_set, List.length_map]; first | done | omega)) only [AM.RB, Nat.reduceAdd, Nat.reduceMul, Nat.reduceEqDiff, reduceCtorEq, b87_G14, g1, hd]) | skip)
    rw [hd, Bool.false_or] at hq
    exact hq _ fr1
  · (first | (simp (maxSteps := 1000000) (disch := first | omega | (simp only [AM.DB, List.length_set, List.length_map]; first | done | omega)) only [AM.RB, Nat.reduceAdd, Nat.reduceMul, Nat.reduceEqDiff, reduceCtorEq, b87_G14, g1, hd]) | skip)
    rw [hd, Bool.true_or] at hq
    exact hq _ fr1

/-- Does an edge go that way? -/
def goesP (K : List UInt8) (C a : Nat) (q : Wy) : Bool := leavesP (K.getD a 0) q && !decide (((K.getD (cellTo C a q).toNat 0).toNat : Int) = 35) && !decide (((K.getD (cellTo C a q).toNat 0).toNat : Int) = q.2.1)
abbrev Ed := Nat × Nat
def edgesW (K : List UInt8) (C a : Nat) (l : List Wy) : List Ed := (l.filter (goesP K C a)).map fun q => (a, (cellTo C a q).toNat)
def edgesTo (K : List UInt8) (R C : Nat) : Nat → List Ed
  | 0 => []
  | a + 1 => edgesTo K R C a ++ edgesW K C a (sidesF R C a wayV)
def fromE (E : List Ed) (j : Nat) : List Int := (E.filter fun e => decide (e.1 = j)).map fun e => (e.2 : Int)
def intoE (E : List Ed) (j : Nat) : List Int := (E.filter fun e => decide (e.2 = j)).map fun e => (e.1 : Int)
/-- Both tables, one behind the other. -/
def bothE (E : List Ed) (n j : Nat) : List Int := if j < n then fromE E j else intoE E (j - n)
theorem bothE_snoc (E : List Ed) (n a b : Nat) (ha : a < n) : bothE (E ++ [(a, b)]) n = upd (upd (bothE E n) a (bothE E n a ++ [(b : Int)])) (n + b) (bothE E n (n + b) ++ [(a : Int)]) := by
  funext j
  unfold upd bothE
  by_cases hj : j < n
  · simp only [hj, if_true, show ¬ j = n + b by omega, if_false, ha]
    unfold fromE
    by_cases e : j = a
    · subst e
      rw [if_pos rfl, List.filter_append, List.map_append]; simp
    · rw [if_neg e, List.filter_append, List.map_append]
      have : a ≠ j := fun q => e q.symm
      simp [this]
  · simp only [hj, if_false, show ¬ n + b < n by omega, show ¬ j = a by omega]
    unfold intoE
    by_cases e : j = n + b
    · subst e
      rw [if_pos rfl, List.filter_append, List.map_append]
      simp [Nat.add_sub_cancel_left]
    · rw [if_neg e, List.filter_append, List.map_append]
      have : b ≠ j - n := by omega
      simp [this]
theorem fromE_len (E : List Ed) (j : Nat) : (fromE E j).length ≤ E.length := by unfold fromE; rw [List.length_map]; exact List.length_filter_le _ _
theorem intoE_len (E : List Ed) (j : Nat) : (intoE E j).length ≤ E.length := by unfold intoE; rw [List.length_map]; exact List.length_filter_le _ _
theorem bothE_len (E : List Ed) (n j : Nat) : (bothE E n j).length ≤ E.length := by unfold bothE; split; exact fromE_len _ _; exact intoE_len _ _
end Go.Proofs.YtgdcbjpookldoaaDoor

namespace Go.Proofs.YtgdcbjpookldoaaDoor
open Go.AM
set_option maxRecDepth 8000
theorem b69_G15 : type_of% (And.intro (@AM.alK_some) (And.intro (@al_123) (And.intro (@al_3) (And.intro (@al_5) (And.intro (@AM.bin_add) (And.intro (@AM.bin_lss) (And.intro (@AM.bin_neq) (And.intro (@AM.boxK_agg) (And.intro (@AM.boxK_bool) (And.intro (@AM.boxK_func) (And.intro (@AM.boxK_int) (And.intro (@AM.boxK_map) (And.intro (@AM.boxK_pointer) (And.intro (@AM.boxK_slice) (And.intro (@AM.boxK_string) (And.intro (AM.bsW_int bs_22) (And.intro (AM.bsW_nil bs_22) (And.intro (AM.bsW_slice bs_22) (And.intro (AM.bsW_string bs_22) (And.intro (@AM.fa_ptr) (And.intro (@fd_123_1) (And.intro (@fd_84_2) (And.intro (@fd_84_4) (And.intro (@fd_84_5) (And.intro (@AM.iaO_ok) (And.intro (AM.ia_slice el_52) (And.intro (AM.ia_slice el_82) (And.intro (@AM.ldO_agg) (And.intro (@AM.ldO_one) (And.intro (@AM.ld_ptr) (And.intro (AM.len_slice ul_52) (And.intro (@lk_123) (And.intro (@lk_22) (And.intro (@lk_23) (And.intro (@lk_3) (And.intro (@lk_5) (And.intro (@lk_52) (And.intro (@lk_82) (And.intro (AM.mkW_int mk_82) (And.intro (@AM.op_alloc) (And.intro (@AM.op_append) (And.intro (@AM.op_binOp) (And.intro (@AM.op_box) (And.intro (@AM.op_buildSlice) (And.intro (@AM.op_call) (And.intro (@AM.op_fieldAddr) (And.intro (@AM.op_indexAddr) (And.intro (@AM.op_len) (And.intro (@AM.op_load) (And.intro (@AM.op_makeSlice) (And.intro (@AM.op_nilCheck) (And.intro (@AM.op_store) (And.intro (@AM.stO_agg) (And.intro (@AM.stO_bool) (And.intro (@AM.stO_int) (And.intro (@AM.stO_map) (And.intro (@AM.stO_pointer) (And.intro (@AM.stO_slice) (And.intro (@AM.stO_string) (And.intro (@AM.st_ptr) (And.intro (@sz_123) (And.intro (@sz_22) (And.intro (@sz_3) (And.intro (@sz_5) (@sz_82))))))))))))))))))))))))))))))))))))))))))))))))))))))))))))))))) := And.intro (@AM.alK_some) (And.intro (@al_123) (And.intro (@al_3) (And.intro (@al_5) (And.intro (@AM.bin_add) (And.intro (@AM.bin_lss) (And.intro (@AM.bin_neq) (And.intro (@AM.boxK_agg) (And.intro (@AM.boxK_bool) (And.intro (@AM.boxK_func) (And.intro (@AM.boxK_int) (And.intro (@AM.boxK_map) (And.intro (@AM.boxK_pointer) (And.intro (@AM.boxK_slice) (And.intro (@AM.boxK_string) (And.intro (AM.bsW_int bs_22) (And.intro (AM.bsW_nil bs_22) (And.intro (AM.bsW_slice bs_22) (And.intro (AM.bsW_string bs_22) (And.intro (@AM.fa_ptr) (And.intro (@fd_123_1) (And.intro (@fd_84_2) (And.intro (@fd_84_4) (And.intro (@fd_84_5) (And.intro (@AM.iaO_ok) (And.intro (AM.ia_slice el_52) (And.intro (AM.ia_slice el_82) (And.intro (@AM.ldO_agg) (And.intro (@AM.ldO_one) (And.intro (@AM.ld_ptr) (And.intro (AM.len_slice ul_52) (And.intro (@lk_123) (And.intro (@lk_22) (And.intro (@lk_23) (And.intro (@lk_3) (And.intro (@lk_5) (And.intro (@lk_52) (And.intro (@lk_82) (And.intro (AM.mkW_int mk_82) (And.intro (@AM.op_alloc) (And.intro (@AM.op_append) (And.intro (@AM.op_binOp) (And.intro (@AM.op_box) (And.intro (@AM.op_buildSlice) (And.intro (@AM.op_call) (And.intro (@AM.op_fieldAddr) (And.intro (@AM.op_indexAddr) (And.intro (@AM.op_len) (And.intro (@AM.op_load) (And.intro (@AM.op_makeSlice) (And.intro (@AM.op_nilCheck) (And.intro (@AM.op_store) (And.intro (@AM.stO_agg) (And.intro (@AM.stO_bool) (And.intro (@AM.stO_int) (And.intro (@AM.stO_map) (And.intro (@AM.stO_pointer) (And.intro (@AM.stO_slice) (And.intro (@AM.stO_string) (And.intro (@AM.st_ptr) (And.intro (@sz_123) (And.intro (@sz_22) (And.intro (@sz_3) (And.intro (@sz_5) (@sz_82))))))))))))))))))))))))))))))))))))))))))))))))))))))))))))))))


abbrev tlD (d s : Int) (a b : Value) : List Value := [.int .u32 d, .int .i32 s, .int .u32 0, a, b]

/-- The tables, half made. -/
def TK (h : AHeap) (p : Nat) (kv : Value) (R C : Nat) (K : List UInt8) (E : List Ed) (D S : Nat → Prop) (h' : AHeap) : Prop := ∃ X, h'.get h.next = some (.cells [pv p] 23 false) ∧
  Mp h' p kv R C K (tlD 0 1 (.slice (some ⟨h.next + 1, 0, none⟩) K.length K.length) (.slice (some ⟨h.next + 2, 0, none⟩) K.length K.length)) ∧ Bk h' K.length (h.next + 1) (h.next + 2) X (bothE E K.length) ∧ Fr (fun id => id = p) h h' ∧
  S h.next ∧ S p ∧ (∀ id, idOf kv id → S id) ∧ S (h.next + 1) ∧ S (h.next + 2) ∧ ∀ j, j < 2 * K.length → ∀ id, idOf (X j) id → S id ∧ h.next + 3 ≤ id ∧ ¬ D id
theorem TK.keep {h : AHeap} {p : Nat} {kv : Value} {R C : Nat} {K : List UInt8} {E : List Ed} {D S : Nat → Prop} {h1 h2 : AHeap} (t : TK h p kv R C K E D S h1) (hS : ∀ id, S id → h2.get id = h1.get id) (hB : ∀ id, id < h.next → h2.get id = h1.get id) (hn : h1.next ≤ h2.next) (hl : h2.low = h1.low) : TK h p kv R C K E D S h2 := by
  obtain ⟨X, t1, t2, t3, t4, s1, s2, s3, s4, s5, s6⟩ := t
  refine ⟨X, by rw [hS _ s1]; exact t1, ⟨by rw [hS _ s2]; exact t2.1, t2.2.1.same (fun id q => hS id (s3 id q)) hl, t2.2.2.1, by rw [hl]; exact t2.2.2.2.1, t2.2.2.2.2⟩, t3.same ?_ hl, ⟨Nat.le_trans t4.next hn, hl.trans t4.low, fun id q1 q2 => by rw [hB id q1]; exact t4.old id q1 q2⟩, s1, s2, s3, s4, s5, s6⟩
  rintro id (rfl | rfl | ⟨j, hj, q⟩)
  · exact hS _ s4
  · exact hS _ s5
  · exact hS _ (s6 j hj id q).1
theorem TK.mono {h : AHeap} {p : Nat} {kv : Value} {R C : Nat} {K : List UInt8} {E : List Ed} {D S T : Nat → Prop} {h1 : AHeap} (t : TK h p kv R C K E D S h1) (hT : ∀ id, S id → T id) : TK h p kv R C K E D T h1 := by
  obtain ⟨X, t1, t2, t3, t4, s1, s2, s3, s4, s5, s6⟩ := t
  exact ⟨X, t1, t2, t3, t4, hT _ s1, hT _ s2, fun id q => hT _ (s3 id q), hT _ s4, hT _ s5, fun j hj id q => ⟨hT _ (s6 j hj id q).1, (s6 j hj id q).2⟩⟩
theorem TK.lt {h : AHeap} {p : Nat} {kv : Value} {R C : Nat} {K : List UInt8} {E : List Ed} {D S : Nat → Prop} {h1 : AHeap} (t : TK h p kv R C K E D S h1) : TK h p kv R C K E D (fun id => S id ∧ id < h1.next) h1 := by
  obtain ⟨X, t1, t2, t3, t4, s1, s2, s3, s4, s5, s6⟩ := t
  exact ⟨X, t1, t2, t3, t4, ⟨s1, AM.get_some_lt t1⟩, ⟨s2, AM.get_some_lt t2.1⟩, fun id q => ⟨s3 id q, t2.2.1.lt q⟩, ⟨s4, AM.get_some_lt t3.g1⟩, ⟨s5, AM.get_some_lt t3.g2⟩, fun j hj id q => ⟨⟨(s6 j hj id q).1, (t3.ow j hj).lt q⟩, (s6 j hj id q).2⟩⟩
theorem TK.avoid {h : AHeap} {p : Nat} {kv : Value} {R C : Nat} {K : List UInt8} {E : List Ed} {D D' S : Nat → Prop} {h1 : AHeap} (t : TK h p kv R C K E D S h1) (hD : ∀ id, S id → ¬ D' id) : TK h p kv R C K E D' S h1 := by
  obtain ⟨X, t1, t2, t3, t4, s1, s2, s3, s4, s5, s6⟩ := t
  exact ⟨X, t1, t2, t3, t4, s1, s2, s3, s4, s5, fun j hj id q => ⟨(s6 j hj id q).1, (s6 j hj id q).2.1, hD _ (s6 j hj id q).1⟩⟩
theorem TK.any {h : AHeap} {p : Nat} {kv : Value} {R C : Nat} {K : List UInt8} {E : List Ed} {D S : Nat → Prop} {h1 : AHeap} (t : TK h p kv R C K E D S h1) : TK h p kv R C K E none' S h1 := t.avoid fun _ _ q => q
theorem edgesTo_len (K : List UInt8) (R C : Nat) : ∀ a, (edgesTo K R C a).length ≤ 4 * a
  | 0 => Nat.le_refl _
  | a + 1 => by
    have ih := edgesTo_len K R C a
    rw [edgesTo, List.length_append]
    have : (edgesW K C a (sidesF R C a wayV)).length ≤ 4 := by
      unfold edgesW sidesF
      rw [List.length_map]
      exact Nat.le_trans (List.length_filter_le _ _) (List.length_filter_le _ _)
    omega
theorem cellTo_lt {R C a : Nat} {q : Wy} (hC : 0 < C) (h : inB R C a q = true) : ∃ b : Nat, cellTo C a q = b ∧ b < R * C := by
  unfold inB at h
  simp only [Bool.and_eq_true, decide_eq_true_eq] at h
  obtain ⟨⟨⟨h1, h2⟩, h3⟩, h4⟩ := h
  obtain ⟨r, hr⟩ := Int.eq_ofNat_of_zero_le h1
  obtain ⟨c, hc⟩ := Int.eq_ofNat_of_zero_le h3
  refine ⟨r * C + c, by unfold cellTo; rw [hr, hc]; simp, ?_⟩
  have : (r + 1) * C ≤ R * C := Nat.mul_le_mul_right C (by omega)
  rw [Nat.add_mul, Nat.one_mul] at this
  omega
theorem edgesW_succ (K : List UInt8) (C a : Nat) (l : List Wy) {i : Nat} {q : Wy} (hq : l[i]? = some q) : edgesW K C a (l.take (i + 1)) = edgesW K C a (l.take i) ++ if goesP K C a q = true then [(a, (cellTo C a q).toNat)] else [] := by
  unfold edgesW
  rw [List.take_add_one, hq, List.filter_append, List.map_append]
  congr 1
  show List.map _ (List.filter _ [q]) = _
  rw [List.filter_cons]; split <;> simp [*]

set_option maxHeartbeats 4000000 in
theorem tables_w {h : AHeap} {p : Nat} {kv : Value} {R C : Nat} {K : List UInt8} (hw : h.get GW = some (.cells waysC 123 false)) (hgl : GW < h.low) (m : Mp h p kv R C K (tlD 0 1 (.slice none 0 0) (.slice none 0 0)))
    (hR : 0 < R) (hC : 0 < C) (hK : K.length = R * C) (hb : R ≤ 32 ∧ C ≤ 32) (hl : h.low ≤ h.next) {Q : VQ}
    (hq : ∀ nid bid X h', Mp h' p kv R C K (tlD 0 1 (.slice (some ⟨nid, 0, none⟩) K.length K.length) (.slice (some ⟨bid, 0, none⟩) K.length K.length)) → Bk h' K.length nid bid X (bothE (edgesTo K R C K.length) K.length) → Fr (fun id => id = p) h h' →
      h.next ≤ nid → h.next ≤ bid → (∀ j, j < 2 * K.length → ∀ id, idOf (X j) id → h.next ≤ id) → Q (.tuple #[]) h') : W 69 [pv p] h Q := by
  have hg := m.1
  have hpl := AM.get_some_lt hg
  have hKb : K.length ≤ 1024 := by rw [hK]; exact Nat.le_trans (Nat.mul_le_mul hb.1 hb.2) (by decide)
  obtain ⟨ka, kc, rfl⟩ := m.2.1.form
  have hml := m.2.2.2.1
  refine AM.enter hp (fn := Tryd.f69) (rs := []) (nt := 97) (by kernel_rfl) Tryd.func69 rfl rfl rfl (by kernel_rfl) ?_
  (repeat' (first | (simp (maxSteps := 1000000) (disch := first | omega | (simp only [AM.DB, List.length_set, List.length_map]; first | done | omega)) only [AM.RB, Nat.reduceAdd, Nat.reduceMul, Nat.reduceEqDiff, reduceCtorEq, b69_G15]) | refine AM.drawW_loose (id := 1) hp (by kernel_rfl) (by kernel_rfl) ?_ | refine AM.drawW_fine (id := 8) hp (by kernel_rfl) (by kernel_rfl) (by kernel_rfl) ?_ | refine AM.drawW_loose (id := 9) hp (by kernel_rfl) (by kernel_rfl) ?_ | refine AM.drawW_loose (id := 10) hp (by kernel_rfl) (by kernel_rfl) ?_ | refine AM.opW_tied (by kernel_rfl) ?_ | refine AM.opW_untied (by kernel_rfl) ?_))
  generalize hE_ : AHeap.alloc h _ = h1; obtain ⟨g1, fr1, n1, l1⟩ := AM.new_get hE_; clear hE_
  have hg1 := hg.fr0 fr1
  (repeat' (first | (simp (maxSteps := 1000000) (disch := first | omega | (simp only [AM.DB, List.length_set, List.length_map]; first | done | omega)) only [AM.RB, Nat.reduceAdd, Nat.reduceMul, Nat.reduceEqDiff, reduceCtorEq, b69_G15, g1, hg1, hg]) | refine AM.drawW_loose (id := 1) hp (by kernel_rfl) (by kernel_rfl) ?_ | refine AM.drawW_fine (id := 8) hp (by kernel_rfl) (by kernel_rfl) (by kernel_rfl) ?_ | refine AM.drawW_loose (id := 9) hp (by kernel_rfl) (by kernel_rfl) ?_ | refine AM.drawW_loose (id := 10) hp (by kernel_rfl) (by kernel_rfl) ?_ | refine AM.opW_tied (by kernel_rfl) ?_ | refine AM.opW_untied (by kernel_rfl) ?_))
  refine ⟨AM.looseOk_by [(1, [0, 17]), (12, [0, 17])] (by kernel_rfl) ?_, ?_⟩
  · simp (maxSteps := 1000000) (disch := first | omega | (simp only [AM.DB, List.length_set, List.length_map]; first | done | omega)) only [AM.RB, Nat.reduceAdd, Nat.reduceMul, Nat.reduceEqDiff, reduceCtorEq, b69_G15]
    (repeat' apply And.intro) <;> (first | (refine AM.stable_len _ _ _ _ _ _ (fun _ => ?_); (simp (maxSteps := 1000000) (disch := first | omega | (simp only [AM.DB, List.length_set, List.length_map]; first | done | omega)) only [AM.RB, Nat.reduceAdd, Nat.reduceMul, Nat.reduceEqDiff, reduceCtorEq, b69_G15, g1, hg1, hg])) | (refine AM.stable_load _ _ _ _ _ _ ?_; (first | (simp (maxSteps := 1000000) (disch := first | omega | (simp only [AM.DB, List.length_set, List.length_map]; first | done | omega)) only [AM.RB, Nat.reduceAdd, Nat.reduceMul, Nat.reduceEqDiff, reduceCtorEq, b69_G15, g1, hg1, hg]) | skip); (first | (refine AM.stabL_int (by omega) ?_; (simp (maxSteps := 1000000) (disch := first | omega | (simp only [AM.DB, List.length_set, List.length_map]; first | done | omega)) only [AM.RB, Nat.reduceAdd, Nat.reduceMul, Nat.reduceEqDiff, reduceCtorEq, b69_G15, g1, hg1, hg])) | (refine AM.stabL_ptr (by omega) (by omega) ?_; (simp (maxSteps := 1000000) (disch := first | omega | (simp only [AM.DB, List.length_set, List.length_map]; first | done | omega)) only [AM.RB, Nat.reduceAdd, Nat.reduceMul, Nat.reduceEqDiff, reduceCtorEq, b69_G15, g1, hg1, hg])) | (refine AM.stabL_string (by omega) ?_; (simp (maxSteps := 1000000) (disch := first | omega | (simp only [AM.DB, List.length_set, List.length_map]; first | done | omega)) only [AM.RB, Nat.reduceAdd, Nat.reduceMul, Nat.reduceEqDiff, reduceCtorEq, b69_G15, g1, hg1, hg])) | (refine AM.stabL_bool (by omega) ?_; (simp (maxSteps := 1000000) (disch := first | omega | (simp only [AM.DB, List.length_set, List.length_map]; first | done | omega)) only [AM.RB, Nat.reduceAdd, Nat.reduceMul, Nat.reduceEqDiff, reduceCtorEq, b69_G15, g1, hg1, hg])))))
  simp only [AM.repeated_one]
  generalize hE_ : AHeap.put _ p _ = h2
  have hx0 : List.replicate K.length (Value.slice none 0 0) = (List.range K.length).map fun _ => Value.slice none 0 0 := by
    apply List.ext_getElem <;> simp
  have n2 : h2.next = h.next + 3 := by rw [← hE_]; simp only [AM.nx_put, AM.nx_alloc]; omega
  have l2 : h2.low = h.low := by rw [← hE_]; simp only [AM.lw_put, AM.lw_alloc]; omega
  have e1 : h1.next = h.next + 1 := n1
  have f0 : h2.get h.next = some (.cells [pv p] 23 false) := by rw [← hE_]; simp (maxSteps := 1000000) (disch := first | omega | (simp only [AM.DB, List.length_set, List.length_map]; first | done | omega)) only [AM.RB, Nat.reduceAdd, Nat.reduceMul, Nat.reduceEqDiff, reduceCtorEq, b69_G15, g1]
  have fn : h2.get (h.next + 1) = some (.cells ((List.range K.length).map fun _ => Value.slice none 0 0) 22 false) := by rw [← hE_, ← e1, hx0]; simp (maxSteps := 1000000) (disch := first | omega | (simp only [AM.DB, List.length_set, List.length_map]; first | done | omega)) only [AM.RB, Nat.reduceAdd, Nat.reduceMul, Nat.reduceEqDiff, reduceCtorEq, b69_G15]
  have fb : h2.get (h.next + 2) = some (.cells ((List.range K.length).map fun _ => Value.slice none 0 0) 22 false) := by rw [← hE_, hx0, show h.next + 2 = h1.next + 1 by omega]; simp (maxSteps := 1000000) (disch := first | omega | (simp only [AM.DB, List.length_set, List.length_map]; first | done | omega)) only [AM.RB, Nat.reduceAdd, Nat.reduceMul, Nat.reduceEqDiff, reduceCtorEq, b69_G15]
  have fp : h2.get p = some (.cells (.int .i64 (R : Nat) :: .int .i64 (C : Nat) :: .slice ka K.length kc :: tlD 0 1 (.slice (some ⟨h.next + 1, 0, none⟩) K.length K.length) (.slice (some ⟨h.next + 2, 0, none⟩) K.length K.length)) 84 false) := by rw [← hE_, show h.next + 2 = h1.next + 1 by omega, ← e1]; simp (maxSteps := 1000000) (disch := first | omega | (simp only [AM.DB, List.length_set, List.length_map]; first | done | omega)) only [AM.RB, Nat.reduceAdd, Nat.reduceMul, Nat.reduceEqDiff, reduceCtorEq, b69_G15]
  have fr2 : Fr (fun id => id = p) h h2 := by
    rw [← hE_]
    have fr1' : Fr (fun id => id = p) h h1 := fr1.weak
    exact (((fr1'.alloc _).alloc _).put _ (.inr rfl)).put _ (.inr rfl)
  have m2 : Mp h2 p (.slice ka K.length kc) R C K (tlD 0 1 (.slice (some ⟨h.next + 1, 0, none⟩) K.length K.length) (.slice (some ⟨h.next + 2, 0, none⟩) K.length K.length)) :=
    ⟨fp, m.2.1.fr fr2 (fun id q e => m.2.2.2.2 (e ▸ q)), rfl, by omega, m.2.2.2.2⟩
  have tk : TK h p (.slice ka K.length kc) R C K (edgesTo K R C 0) none' (fun _ => True) h2 :=
    ⟨fun _ => .slice none 0 0, f0, m2, ⟨fn, fb, fun j _ => by unfold bothE; split <;> exact Ow.nil _ _ _, fun _ _ _ _ _ _ q => q.elim, fun _ _ _ q => q.elim, by omega, by omega⟩, fr2, trivial, trivial, fun _ _ => trivial, trivial, trivial, fun _ _ _ q => q.elim⟩
  have hw2 : h2.get GW = some (.cells waysC 123 false) := fr2.get hw (fun e => by omega)
  clear hE_ f0 fn fb fp m2 hx0
  refine AM.loop_w hp 97 (fun a : Nat => [(1, pv h.next), (27, .slice ka K.length kc), (28, .int .i64 K.length), (29, .int .i64 a)])
    (fun a h' => a ≤ K.length ∧ TK h p (.slice ka K.length kc) R C K (edgesTo K R C a) none' (fun _ => True) h') (fun a => K.length - a) (by kernel_rfl) 0 ?_ ?_ ?_
  · simp (maxSteps := 1000000) (disch := first | omega | (simp only [AM.DB, List.length_set, List.length_map]; first | done | omega)) only [AM.RB, Nat.reduceAdd, Nat.reduceMul, Nat.reduceEqDiff, reduceCtorEq, b69_G15]
  · exact ⟨Nat.zero_le _, tk⟩
  rintro a h3 ρ ⟨ha, t3⟩
  simp (maxSteps := 1000000) (disch := first | omega | (simp only [AM.DB, List.length_set, List.length_map]; first | done | omega)) only [AM.RB, Nat.reduceAdd, Nat.reduceMul, Nat.reduceEqDiff, reduceCtorEq, b69_G15]
  refine AM.condV_split (fun hlt => ?_) (fun hlt => ?_)
  · have hlt' : a < K.length := by omega
    obtain ⟨X3, b0, m3, bk3, fr3, _⟩ := id t3
    have hwl3 := fr3.get hw (fun e => by omega)
    have lt3 := AM.get_some_lt bk3.g2
    have lw3 := fr3.low
    have ka3 := m3.2.1.rd
    (repeat' (first | (simp (maxSteps := 1000000) (disch := first | omega | (simp only [AM.DB, List.length_set, List.length_map]; first | done | omega)) only [AM.RB, Nat.reduceAdd, Nat.reduceMul, Nat.reduceEqDiff, reduceCtorEq, b69_G15, ka3.ia el_52, Rd.ldb ka3 lk_5, Int.toNat_natCast]) | refine AM.drawW_loose (id := 1) hp (by kernel_rfl) (by kernel_rfl) ?_ | refine AM.drawW_fine (id := 8) hp (by kernel_rfl) (by kernel_rfl) (by kernel_rfl) ?_ | refine AM.drawW_loose (id := 9) hp (by kernel_rfl) (by kernel_rfl) ?_ | refine AM.drawW_loose (id := 10) hp (by kernel_rfl) (by kernel_rfl) ?_ | refine AM.opW_tied (by kernel_rfl) ?_ | refine AM.opW_untied (by kernel_rfl) ?_))
    generalize hE_ : AHeap.put _ (h3.next + 1) _ = h4
    have n4 : h4.next = h3.next + 2 := by rw [← hE_]; simp only [AM.nx_put, AM.nx_alloc]
    have l4 : h4.low = h3.low := by rw [← hE_]; simp only [AM.lw_put, AM.lw_alloc]
    have ga4 : h4.get h3.next = some (.cells [.int .i64 a] 3 false) := by rw [← hE_]; simp (maxSteps := 1000000) (disch := first | omega | (simp only [AM.DB, List.length_set, List.length_map]; first | done | omega)) only [AM.RB, Nat.reduceAdd, Nat.reduceMul, Nat.reduceEqDiff, reduceCtorEq, b69_G15]
    have gb4 : h4.get (h3.next + 1) = some (.cells [bV (K.getD a 0)] 5 false) := by rw [← hE_]; simp (maxSteps := 1000000) (disch := first | omega | (simp only [AM.DB, List.length_set, List.length_map]; first | done | omega)) only [AM.RB, Nat.reduceAdd, Nat.reduceMul, Nat.reduceEqDiff, reduceCtorEq, b69_G15]
    have fr4 : Fr none' h3 h4 := by
      rw [← hE_]
      exact ((((Fr.refl _ _).alloc _).alloc _).put _ (.inl (Nat.le_refl _))).put _ (.inl (Nat.le_succ _))
    clear hE_
    have b04 := b0.fr0 fr4
    (repeat' (first | (simp (maxSteps := 1000000) (disch := first | omega | (simp only [AM.DB, List.length_set, List.length_map]; first | done | omega)) only [AM.RB, Nat.reduceAdd, Nat.reduceMul, Nat.reduceEqDiff, reduceCtorEq, b69_G15, b0, b04, ga4]) | refine AM.drawW_loose (id := 1) hp (by kernel_rfl) (by kernel_rfl) ?_ | refine AM.drawW_fine (id := 8) hp (by kernel_rfl) (by kernel_rfl) (by kernel_rfl) ?_ | refine AM.drawW_loose (id := 9) hp (by kernel_rfl) (by kernel_rfl) ?_ | refine AM.drawW_loose (id := 10) hp (by kernel_rfl) (by kernel_rfl) ?_ | refine AM.opW_tied (by kernel_rfl) ?_ | refine AM.opW_untied (by kernel_rfl) ?_))
    refine sidesC_w fun h5 gm5 gc5 fr5 n5 => ?_
    have fr35 := fr4.trans fr5
    have nx3 := fr3.next
    have lw5 := fr35.low
    have hwl5 := hwl3.fr0 fr35
    have m5 := m3.fr0 fr35
    have ga5 := ga4.fr0 fr5
    have gb5 := gb4.fr0 fr5
    have hl5 : h5.low ≤ h5.next := by omega
    have hxs : (sideXs R C a).length = (sidesF R C a wayV).length := by unfold sideXs; rw [List.length_map]
    have t5 : TK h p (.slice ka K.length kc) R C K (edgesTo K R C a) (fun id => h3.next ≤ id ∧ id < h3.next + 4) (fun id => id < h5.next) h5 :=
      ((t3.lt.avoid fun id q e => by have := q.2; omega).keep (fun id q => fr35.old id q.2 (fun q => q)) (fun id q => fr35.old id (by omega) (fun q => q)) fr35.next fr35.low).mono fun id q => Nat.lt_of_lt_of_le q.2 fr35.next
    (repeat' (first | (simp (maxSteps := 1000000) (disch := first | omega | (simp only [AM.DB, List.length_set, List.length_map]; first | done | omega)) only [AM.RB, Nat.reduceAdd, Nat.reduceMul, Nat.reduceEqDiff, reduceCtorEq, b69_G15]) | refine AM.drawW_loose (id := 1) hp (by kernel_rfl) (by kernel_rfl) ?_ | refine AM.drawW_fine (id := 8) hp (by kernel_rfl) (by kernel_rfl) (by kernel_rfl) ?_ | refine AM.drawW_loose (id := 9) hp (by kernel_rfl) (by kernel_rfl) ?_ | refine AM.drawW_loose (id := 10) hp (by kernel_rfl) (by kernel_rfl) ?_ | refine AM.opW_tied (by kernel_rfl) ?_ | refine AM.opW_untied (by kernel_rfl) ?_))
    refine AM.range_iter2 hp (R := fun id => id = GW ∨ id = h4.next + 1 ∨ id = h4.next ∨ id = p) (xs := sideXs R C a) (AM.entersV_of Tryd.func101 rfl) (by kernel_rfl) (by kernel_rfl) ?_ ?_ hl5 ?_
      (fun i => AM.JK h5.next (fun S h' => TK h p (.slice ka K.length kc) R C K (edgesTo K R C a ++ edgesW K C a ((sidesF R C a wayV).take i)) (fun id => h3.next ≤ id ∧ id < h3.next + 4) S h' ∧ h'.get h3.next = some (.cells [.int .i64 a] 3 false) ∧ h'.get (h3.next + 1) = some (.cells [bV (K.getD a 0)] 5 false) ∧ S h3.next ∧ S (h3.next + 1))) (fun _ _ _ => False) ?_ (fun _ => AM.Stab.no)
      (fun i x e A h' => ∃ bx, AM.Sh e 97 [(1, pv h.next), (2, pv h3.next), (3, pv (h3.next + 1)), (4, x.getD 0 undef), (5, pv bx)] ∧ AM.JK h5.next (fun S h' => (TK h p (.slice ka K.length kc) R C K (edgesTo K R C a ++ edgesW K C a ((sidesF R C a wayV).take i)) (fun id => h3.next ≤ id ∧ id < h3.next + 4) S h' ∧ h'.get h3.next = some (.cells [.int .i64 a] 3 false) ∧ h'.get (h3.next + 1) = some (.cells [bV (K.getD a 0)] 5 false) ∧ S h3.next ∧ S (h3.next + 1)) ∧ S bx ∧ ∀ c, x[1]? = some (.agg c) → h'.get bx = some (.cells c.toList 123 false)) A h') ?_ ?_ ?_ ?_ ?_ ?_
    · intro x hx
      unfold sideXs at hx
      obtain ⟨q, _, rfl⟩ := List.mem_map.1 hx; rfl
    · rintro id (rfl | rfl | rfl | rfl)
      · exact AM.get_some_lt hwl5
      · omega
      · omega
      · exact AM.get_some_lt m5.1
    · exact sides1_w hwl5 gc5 gm5 m5 hb hC (by rw [← hK]; omega)
    · exact fun i => AM.JK.stab fun S x y hB ⟨hk, k1, k2, s1, s2⟩ hS hBl hn' hl' => ⟨hk.keep hS (fun id q => hBl id (by omega)) hn' hl', by rw [hS _ s1]; exact k1, by rw [hS _ s2]; exact k2, s1, s2⟩
    · exact fun i x e => AM.Stab.ex fun bx => AM.Stab.and (AM.JK.stab fun S x y hB ⟨⟨hk, k1, k2, s1, s2⟩, sb, hg⟩ hS hBl hn' hl' => ⟨⟨hk.keep hS (fun id q => hBl id (by omega)) hn' hl', by rw [hS _ s1]; exact k1, by rw [hS _ s2]; exact k2, s1, s2⟩, sb, fun c hx => by rw [hS bx sb]; exact hg c hx⟩)
    · rintro i x A h6 hx ⟨hB, hA, S, ⟨t6, k1, k2, s1, s2⟩, hS⟩ hA1 hL6 hlow6 hR6
      unfold sideXs at hx
      rw [List.getElem?_map] at hx
      obtain ⟨⟨ch, ag, dr, dc⟩, hq', rfl⟩ := Option.map_eq_some_iff.1 hx
      (repeat' (first | (simp (maxSteps := 1000000) (disch := first | omega | (simp only [AM.DB, List.length_set, List.length_map]; first | done | omega)) only [AM.RB, Nat.reduceAdd, Nat.reduceMul, Nat.reduceEqDiff, reduceCtorEq, b69_G15, encW]) | refine AM.drawW_loose (id := 1) hp (by kernel_rfl) (by kernel_rfl) ?_ | refine AM.drawW_fine (id := 8) hp (by kernel_rfl) (by kernel_rfl) (by kernel_rfl) ?_ | refine AM.drawW_loose (id := 9) hp (by kernel_rfl) (by kernel_rfl) ?_ | refine AM.drawW_loose (id := 10) hp (by kernel_rfl) (by kernel_rfl) ?_ | refine AM.opW_tied (by kernel_rfl) ?_ | refine AM.opW_untied (by kernel_rfl) ?_))
      generalize hE_ : AHeap.put (AHeap.alloc h6 _) _ _ = h7; obtain ⟨g7, fr7, n7, l7⟩ := AM.box_get hE_ (by omega); clear hE_
      have lt6 := AM.get_some_lt k1
      have fr6 := t6
      refine ⟨by omega, fun id q1 _ => fr7.old id q1 (fun q => q), h6.next, rfl, by omega, hA, fun id => (S id ∧ id < h6.next) ∨ id = h6.next, ⟨⟨(t6.lt.keep (fun id q => fr7.old id q.2 (fun q => q)) (fun id q => fr7.old id (by omega) (fun q => q)) fr7.next fr7.low).mono (fun id q => .inl q), k1.fr0 fr7, k2.fr0 fr7, .inl ⟨s1, AM.get_some_lt k1⟩, .inl ⟨s2, AM.get_some_lt k2⟩⟩, .inr rfl, ?_⟩, ?_⟩
      · rintro c hcx
        cases hcx; exact g7
      · rintro id (q | rfl)
        · exact ⟨by omega, (hS id q.1).2⟩
        · exact ⟨by omega, fun q => by have := (hA1 _ q).2; omega⟩
    · intro o
      refine ⟨Nat.le_succ _, fun id e => by omega, fun id => id < h5.next, ⟨?_, ?_, ?_, by omega, by omega⟩, fun id q => ⟨by simp only [AM.nx_alloc]; omega, by omega⟩⟩
      · unfold edgesW
        rw [List.take_zero, List.filter_nil, List.map_nil, List.append_nil]
        exact t5.keep (fun id q => AM.get_alloc_ne (by omega)) (fun id q => AM.get_alloc_ne (by omega)) (Nat.le_succ _) rfl
      · rw [AM.get_alloc_ne (by omega)]; exact ga5
      · rw [AM.get_alloc_ne (by omega)]; exact gb5
    · rintro i x e A h6 hx ⟨bx, he, hB, hA, S, ⟨⟨t6, k1, k2, s1, s2⟩, sbx, hbx⟩, hS⟩ hA1 hL6 hlow6 hR6
      obtain ⟨ρ, rfl⟩ := he.open'
      unfold sideXs at hx
      rw [List.getElem?_map] at hx
      obtain ⟨q, hq', rfl⟩ := Option.map_eq_some_iff.1 hx
      replace hbx := hbx _ rfl
      have hin : inB R C a q = true := by
        have := List.mem_of_getElem? hq'
        unfold sidesF at this
        exact (List.mem_filter.1 this).2
      obtain ⟨b, hcb, hbl⟩ := cellTo_lt hC hin
      have hes := edgesW_succ K C a (sidesF R C a wayV) hq'
      have hgo : goesP K C a q = (leavesP (K.getD a 0) q && !decide (((K.getD b 0).toNat : Int) = 35) && !decide (((K.getD b 0).toNat : Int) = q.2.1)) := by unfold goesP; rw [hcb, Int.toNat_natCast]
      rw [hcb, Int.toNat_natCast] at hes
      obtain ⟨X, u0, u1, u2, u3, v0, v1, v2, v3, v4, v5⟩ := id t6
      rw [hcb]
      obtain ⟨ch, ag, dr, dc⟩ := q
      replace hbx : h6.get bx = some (.cells (encW (ch, ag, dr, dc)) 123 false) := hbx
      have hgp := u1.1
      have ltp := AM.get_some_lt hgp
      have ltn := AM.get_some_lt u2.g1
      have ltb := AM.get_some_lt u2.g2
      have lw6 := u3.low
      (repeat' (first | (simp (maxSteps := 1000000) (disch := first | omega | (simp only [AM.DB, List.length_set, List.length_map]; first | done | omega)) only [AM.RB, Nat.reduceAdd, Nat.reduceMul, Nat.reduceEqDiff, reduceCtorEq, b69_G15, u0, k2, hbx, encW]) | refine AM.drawW_loose (id := 1) hp (by kernel_rfl) (by kernel_rfl) ?_ | refine AM.drawW_fine (id := 8) hp (by kernel_rfl) (by kernel_rfl) (by kernel_rfl) ?_ | refine AM.drawW_loose (id := 9) hp (by kernel_rfl) (by kernel_rfl) ?_ | refine AM.drawW_loose (id := 10) hp (by kernel_rfl) (by kernel_rfl) ?_ | refine AM.opW_tied (by kernel_rfl) ?_ | refine AM.opW_untied (by kernel_rfl) ?_))
      refine leaves_w (K.getD a 0) (ch, ag, dr, dc) fun h7 fr7 => ?_
      have n7 := fr7.next
      have l7 := fr7.low
      have u07 := u0.fr0 fr7
      have k17 := k1.fr0 fr7
      have k27 := k2.fr0 fr7
      have hbx7 := hbx.fr0 fr7
      have hgp7 := hgp.fr0 fr7
      have ka7 := (u1.2.1.fr0 fr7).rd
      have hfin : goesP K C a (ch, ag, dr, dc) = false → h6.next ≤ h7.next ∧ h7.low = h6.low ∧ (∀ id, id < h6.next → (A id ∨ id = GW ∨ id = h4.next + 1 ∨ id = h4.next ∨ id = p) → h7.get id = h6.get id) ∧
          AM.JK h5.next (fun S h' => TK h p (.slice ka K.length kc) R C K (edgesTo K R C a ++ edgesW K C a ((sidesF R C a wayV).take (i + 1))) (fun id => h3.next ≤ id ∧ id < h3.next + 4) S h' ∧ h'.get h3.next = some (.cells [.int .i64 a] 3 false) ∧ h'.get (h3.next + 1) = some (.cells [bV (K.getD a 0)] 5 false) ∧ S h3.next ∧ S (h3.next + 1)) A h7 := fun hf => by
        rw [hes, hf]
        refine ⟨by omega, by omega, fun id q1 _ => fr7.old id q1 (fun q => q), by omega, hA, fun id => S id ∧ id < h6.next, ⟨?_, k17, k27, ⟨s1, AM.get_some_lt k1⟩, ⟨s2, AM.get_some_lt k2⟩⟩, fun id q => ⟨by omega, (hS id q.1).2⟩⟩
        rw [if_neg (by simp), List.append_nil]
        exact t6.lt.keep (fun id q => fr7.old id q.2 (fun q => q)) (fun id q => fr7.old id (by omega) (fun q => q)) fr7.next fr7.low
      cases hle : leavesP (K.getD a 0) (ch, ag, dr, dc)
      · (repeat' (first | (simp (maxSteps := 1000000) (disch := first | omega | (simp only [AM.DB, List.length_set, List.length_map]; first | done | omega)) only [AM.RB, Nat.reduceAdd, Nat.reduceMul, Nat.reduceEqDiff, reduceCtorEq, b69_G15, u07, k27, hbx7, encW]) | refine AM.drawW_loose (id := 1) hp (by kernel_rfl) (by kernel_rfl) ?_ | refine AM.drawW_fine (id := 8) hp (by kernel_rfl) (by kernel_rfl) (by kernel_rfl) ?_ | refine AM.drawW_loose (id := 9) hp (by kernel_rfl) (by kernel_rfl) ?_ | refine AM.drawW_loose (id := 10) hp (by kernel_rfl) (by kernel_rfl) ?_ | refine AM.opW_tied (by kernel_rfl) ?_ | refine AM.opW_untied (by kernel_rfl) ?_))
        exact hfin (by rw [hgo, hle]; rfl)
      obtain ⟨p35, h35⟩ : ∃ x, decide (((K.getD b 0).toNat : Int) = 35) = x := ⟨_, rfl⟩
      obtain ⟨pag, hag⟩ : ∃ x, decide (((K.getD b 0).toNat : Int) = ag) = x := ⟨_, rfl⟩
      rw [hle, h35, show decide (((K.getD b 0).toNat : Int) = (ch, ag, dr, dc).2.1) = pag from hag] at hgo
      cases p35
      case true =>
        (repeat' (first | (simp (maxSteps := 1000000) (disch := first | omega | (simp only [AM.DB, List.length_set, List.length_map]; first | done | omega)) only [AM.RB, Nat.reduceAdd, Nat.reduceMul, Nat.reduceEqDiff, reduceCtorEq, b69_G15, u07, k27, hbx7, hgp7, ka7.ia el_52, Rd.ldb ka7 lk_5, Int.toNat_natCast, h35]) | refine AM.drawW_loose (id := 1) hp (by kernel_rfl) (by kernel_rfl) ?_ | refine AM.drawW_fine (id := 8) hp (by kernel_rfl) (by kernel_rfl) (by kernel_rfl) ?_ | refine AM.drawW_loose (id := 9) hp (by kernel_rfl) (by kernel_rfl) ?_ | refine AM.drawW_loose (id := 10) hp (by kernel_rfl) (by kernel_rfl) ?_ | refine AM.opW_tied (by kernel_rfl) ?_ | refine AM.opW_untied (by kernel_rfl) ?_))
        exact hfin (by rw [hgo]; rfl)
      cases pag
      case true =>
        (repeat' (first | (simp (maxSteps := 1000000) (disch := first | omega | (simp only [AM.DB, List.length_set, List.length_map]; first | done | omega)) only [AM.RB, Nat.reduceAdd, Nat.reduceMul, Nat.reduceEqDiff, reduceCtorEq, b69_G15, u07, k27, hbx7, hgp7, ka7.ia el_52, Rd.ldb ka7 lk_5, Int.toNat_natCast, h35, encW, hag]) | refine AM.drawW_loose (id := 1) hp (by kernel_rfl) (by kernel_rfl) ?_ | refine AM.drawW_fine (id := 8) hp (by kernel_rfl) (by kernel_rfl) (by kernel_rfl) ?_ | refine AM.drawW_loose (id := 9) hp (by kernel_rfl) (by kernel_rfl) ?_ | refine AM.drawW_loose (id := 10) hp (by kernel_rfl) (by kernel_rfl) ?_ | refine AM.opW_tied (by kernel_rfl) ?_ | refine AM.opW_untied (by kernel_rfl) ?_))
        exact hfin (by rw [hgo]; rfl)
      have hgt : goesP K C a (ch, ag, dr, dc) = true := by rw [hgo]; rfl
      rw [if_pos hgt] at hes
      have bk7 := u2.same (fun id q => fr7.old id (by rcases q with rfl | rfl | ⟨j, hj, q⟩; omega; omega; exact (u2.ow j hj).lt q) (fun q => q)) fr7.low
      have hnx := bk7.g1
      have hxa : ((List.range K.length).map X)[a]? = some (X a) := by rw [List.getElem?_map, List.getElem?_range hlt']; rfl
      (repeat' (first | (simp (maxSteps := 1000000) (disch := first | omega | (simp only [AM.DB, List.length_set, List.length_map]; first | done | omega)) only [AM.RB, Nat.reduceAdd, Nat.reduceMul, Nat.reduceEqDiff, reduceCtorEq, b69_G15, u07, k27, hbx7, hgp7, ka7.ia el_52, Rd.ldb ka7 lk_5, Int.toNat_natCast, h35, encW, hag, k17, hnx, hxa, Nat.mul_one, Nat.zero_add]) | refine AM.drawW_loose (id := 1) hp (by kernel_rfl) (by kernel_rfl) ?_ | refine AM.drawW_fine (id := 8) hp (by kernel_rfl) (by kernel_rfl) (by kernel_rfl) ?_ | refine AM.drawW_loose (id := 9) hp (by kernel_rfl) (by kernel_rfl) ?_ | refine AM.drawW_loose (id := 10) hp (by kernel_rfl) (by kernel_rfl) ?_ | refine AM.opW_tied (by kernel_rfl) ?_ | refine AM.opW_untied (by kernel_rfl) ?_))
      have hEl : ∀ j, (bothE (edgesTo K R C a ++ edgesW K C a ((sidesF R C a wayV).take i)) K.length j).length ≤ 4 * 1024 + 4 := fun j => by
        refine Nat.le_trans (bothE_len _ _ _) ?_
        rw [List.length_append]
        have h1 := edgesTo_len K R C a
        have h2 : (edgesW K C a ((sidesF R C a wayV).take i)).length ≤ 4 := by
          unfold edgesW sidesF
          rw [List.length_map]
          refine Nat.le_trans (List.length_filter_le _ _) ?_
          rw [List.length_take]
          exact Nat.le_trans (Nat.min_le_right _ _) (List.length_filter_le _ _)
        omega
      generalize hE : edgesTo K R C a ++ edgesW K C a ((sidesF R C a wayV).take i) = E at *
      generalize hE_ : AHeap.alloc h7 _ = h8; obtain ⟨g8, fr8, n8, l8⟩ := AM.new_get hE_; clear hE_
      have hEa := hEl a
      refine AM.appends_w ap_22 ap_22 ((bk7.ow a (by omega)).fr0 fr8) (AM.Rd.whole (n := 1) (c := [.int .i64 b]) g8 rfl) rfl (by omega) (AM.fits (by omega) (by omega)) (AM.fits' (by omega)) fun va h9 ow9 fr9 hid9 => ?_
      have va5 := v5 a (by omega)
      have hnx9 := fr9.get (hnx.fr0 fr8) (fun q => by have := (va5 _ q).2.1; omega)
      have u09 := fr9.get (u07.fr0 fr8) (fun q => by have := (va5 _ q).2.1; omega)
      have hgp9 := fr9.get (hgp7.fr0 fr8) (fun q => by have := (va5 _ q).2.1; omega)
      have k19 := fr9.get (k17.fr0 fr8) (fun q => (va5 _ q).2.2 ⟨Nat.le_refl _, by omega⟩)
      have u08 := u07.fr0 fr8
      have hgp8 := hgp7.fr0 fr8
      have k18 := k17.fr0 fr8
      have l9 := fr9.low
      have n9 := fr9.next
      obtain ⟨vaa, vac, rfl⟩ := ow9.form
      have hln : ((List.range K.length).map X).length = K.length := by simp
      (repeat' (first | (simp (maxSteps := 1000000) (disch := first | omega | (simp only [AM.DB, List.length_set, List.length_map]; first | done | omega)) only [AM.RB, Nat.reduceAdd, Nat.reduceMul, Nat.reduceEqDiff, reduceCtorEq, b69_G15, u09, hgp9, k19, hnx9]) | refine AM.drawW_loose (id := 1) hp (by kernel_rfl) (by kernel_rfl) ?_ | refine AM.drawW_fine (id := 8) hp (by kernel_rfl) (by kernel_rfl) (by kernel_rfl) ?_ | refine AM.drawW_loose (id := 9) hp (by kernel_rfl) (by kernel_rfl) ?_ | refine AM.drawW_loose (id := 10) hp (by kernel_rfl) (by kernel_rfl) ?_ | refine AM.opW_tied (by kernel_rfl) ?_ | refine AM.opW_untied (by kernel_rfl) ?_))
      have rn7 : Rd h7 22 1 (.slice (some ⟨h.next + 1, 0, none⟩) K.length K.length) K.length ((List.range K.length).map X) := AM.Rd.whole bk7.g1 (by simp)
      have rb7 : Rd h7 22 1 (.slice (some ⟨h.next + 2, 0, none⟩) K.length K.length) K.length ((List.range K.length).map fun j => X (K.length + j)) := AM.Rd.whole bk7.g2 (by simp)
      refine ⟨AM.looseOk_by [(0, [0, 15]), (3, [0, 15]), (4, [0, 15])] (by kernel_rfl) ?_, ?_⟩
      · simp (maxSteps := 1000000) (disch := first | omega | (simp only [AM.DB, List.length_set, List.length_map]; first | done | omega)) only [AM.RB, Nat.reduceAdd, Nat.reduceMul, Nat.reduceEqDiff, reduceCtorEq, b69_G15]
        (repeat' apply And.intro) <;> (first | (refine AM.stable_len _ _ _ _ _ _ (fun _ => ?_); (simp (maxSteps := 1000000) (disch := first | omega | (simp only [AM.DB, List.length_set, List.length_map]; first | done | omega)) only [AM.RB, Nat.reduceAdd, Nat.reduceMul, Nat.reduceEqDiff, reduceCtorEq, b69_G15, u07, u08, u09, hgp7, hgp8, hgp9, k17, k18, k19])) | (refine AM.stable_load _ _ _ _ _ _ ?_; (first | (simp (maxSteps := 1000000) (disch := first | omega | (simp only [AM.DB, List.length_set, List.length_map]; first | done | omega)) only [AM.RB, Nat.reduceAdd, Nat.reduceMul, Nat.reduceEqDiff, reduceCtorEq, b69_G15, u07, u08, u09, hgp7, hgp8, hgp9, k17, k18, k19]) | skip); (first | (refine AM.stabL_int (by omega) ?_; (simp (maxSteps := 1000000) (disch := first | omega | (simp only [AM.DB, List.length_set, List.length_map]; first | done | omega)) only [AM.RB, Nat.reduceAdd, Nat.reduceMul, Nat.reduceEqDiff, reduceCtorEq, b69_G15, u07, u08, u09, hgp7, hgp8, hgp9, k17, k18, k19])) | (refine AM.stabL_ptr (by omega) (by omega) ?_; (simp (maxSteps := 1000000) (disch := first | omega | (simp only [AM.DB, List.length_set, List.length_map]; first | done | omega)) only [AM.RB, Nat.reduceAdd, Nat.reduceMul, Nat.reduceEqDiff, reduceCtorEq, b69_G15, u07, u08, u09, hgp7, hgp8, hgp9, k17, k18, k19])) | (refine AM.stabL_string (by omega) ?_; (simp (maxSteps := 1000000) (disch := first | omega | (simp only [AM.DB, List.length_set, List.length_map]; first | done | omega)) only [AM.RB, Nat.reduceAdd, Nat.reduceMul, Nat.reduceEqDiff, reduceCtorEq, b69_G15, u07, u08, u09, hgp7, hgp8, hgp9, k17, k18, k19])) | (refine AM.stabL_bool (by omega) ?_; (simp (maxSteps := 1000000) (disch := first | omega | (simp only [AM.DB, List.length_set, List.length_map]; first | done | omega)) only [AM.RB, Nat.reduceAdd, Nat.reduceMul, Nat.reduceEqDiff, reduceCtorEq, b69_G15, u07, u08, u09, hgp7, hgp8, hgp9, k17, k18, k19])) | (refine AM.stabL_rd rn7 (by omega) (by omega) ?_; (simp (maxSteps := 1000000) (disch := first | omega | (simp only [AM.DB, List.length_set, List.length_map]; first | done | omega)) only [AM.RB, Nat.reduceAdd, Nat.reduceMul, Nat.reduceEqDiff, reduceCtorEq, b69_G15, u07, u08, u09, hgp7, hgp8, hgp9, k17, k18, k19])) | (refine AM.stabL_rd rb7 (by omega) (by omega) ?_; (simp (maxSteps := 1000000) (disch := first | omega | (simp only [AM.DB, List.length_set, List.length_map]; first | done | omega)) only [AM.RB, Nat.reduceAdd, Nat.reduceMul, Nat.reduceEqDiff, reduceCtorEq, b69_G15, u07, u08, u09, hgp7, hgp8, hgp9, k17, k18, k19])) | (refine AM.stabL_elS rn7 (by omega) (by omega) ?_; (simp (maxSteps := 1000000) (disch := first | omega | (simp only [AM.DB, List.length_set, List.length_map]; first | done | omega)) only [AM.RB, Nat.reduceAdd, Nat.reduceMul, Nat.reduceEqDiff, reduceCtorEq, b69_G15, u07, u08, u09, hgp7, hgp8, hgp9, k17, k18, k19])) | (refine AM.stabL_elI rn7 (by omega) (by omega) ?_; (simp (maxSteps := 1000000) (disch := first | omega | (simp only [AM.DB, List.length_set, List.length_map]; first | done | omega)) only [AM.RB, Nat.reduceAdd, Nat.reduceMul, Nat.reduceEqDiff, reduceCtorEq, b69_G15, u07, u08, u09, hgp7, hgp8, hgp9, k17, k18, k19])) | (refine AM.stabL_elS rb7 (by omega) (by omega) ?_; (simp (maxSteps := 1000000) (disch := first | omega | (simp only [AM.DB, List.length_set, List.length_map]; first | done | omega)) only [AM.RB, Nat.reduceAdd, Nat.reduceMul, Nat.reduceEqDiff, reduceCtorEq, b69_G15, u07, u08, u09, hgp7, hgp8, hgp9, k17, k18, k19])) | (refine AM.stabL_elI rb7 (by omega) (by omega) ?_; (simp (maxSteps := 1000000) (disch := first | omega | (simp only [AM.DB, List.length_set, List.length_map]; first | done | omega)) only [AM.RB, Nat.reduceAdd, Nat.reduceMul, Nat.reduceEqDiff, reduceCtorEq, b69_G15, u07, u08, u09, hgp7, hgp8, hgp9, k17, k18, k19])))))
      generalize hE_ : AHeap.put h9 _ _ = h10; obtain ⟨g10, fr10, n10, l10⟩ := AM.put_get hE_ (by omega); clear hE_
      rw [Int.toNat_natCast] at g10
      have bk10 := bk7.app (k := a) (by omega) fr8 ow9 fr9 hid9 (h.next + 1) (by rw [if_pos hlt']) (by simp only [hlt', if_true]; exact g10) fr10
      have u010 := fr10.get u09 (fun q => by have q : h.next = h.next + 1 := q; omega)
      have hgp10 := fr10.get hgp9 (fun q => by have q : p = h.next + 1 := q; omega)
      have k110 := fr10.get k19 (fun q => by have q : h3.next = h.next + 1 := q; omega)
      have hnb10 := bk10.g2
      have hvab : K.length + b < 2 * K.length := by omega
      have hlt10 : h.next + 3 ≤ h10.next := by omega
      obtain ⟨Y, hY⟩ : ∃ Y, upd X a (.slice vaa ((bothE E K.length a).length + 1) vac) = Y := ⟨_, rfl⟩
      obtain ⟨M, hM⟩ : ∃ M, upd (bothE E K.length) a (bothE E K.length a ++ [(b : Int)]) = M := ⟨_, rfl⟩
      have hMb : M (K.length + b) = bothE E K.length (K.length + b) := by rw [← hM]; unfold upd; rw [if_neg (by omega)]
      have hYb : Y (K.length + b) = X (K.length + b) := by rw [← hY]; unfold upd; rw [if_neg (by omega)]
      rw [hY, hM] at bk10
      rw [hY] at hnb10
      have vY : ∀ j, j < 2 * K.length → ∀ id, idOf (Y j) id → h.next + 3 ≤ id ∧ (¬ (h3.next ≤ id ∧ id < h3.next + 4)) ∧ (S id ∧ id < h6.next ∨ h8.next ≤ id) := fun j hj id q => by
        rw [← hY] at q
        unfold upd at q
        split at q
        · rcases hid9 id q with q | q
          · exact ⟨(va5 id q).2.1, (va5 id q).2.2, .inl ⟨(va5 id q).1, (u2.ow a (by omega)).lt q⟩⟩
          · exact ⟨by omega, by omega, .inr q⟩
        · exact ⟨(v5 j hj id q).2.1, (v5 j hj id q).2.2, .inl ⟨(v5 j hj id q).1, (u2.ow j hj).lt q⟩⟩
      have hxb : ((List.range K.length).map fun j => Y (K.length + j))[b]? = some (Y (K.length + b)) := by rw [List.getElem?_map, List.getElem?_range (by omega)]; rfl
      have l10 := fr10.low
      have n10 := fr10.next
      clear hfin hgo h35 hag hle
      (repeat' (first | (simp (maxSteps := 1000000) (disch := first | omega | (simp only [AM.DB, List.length_set, List.length_map]; first | done | omega)) only [AM.RB, Nat.reduceAdd, Nat.reduceMul, Nat.reduceEqDiff, reduceCtorEq, b69_G15, u010, hgp10, k110, hnb10, hxb, Nat.mul_one, Nat.zero_add, Int.toNat_natCast]) | refine AM.drawW_loose (id := 1) hp (by kernel_rfl) (by kernel_rfl) ?_ | refine AM.drawW_fine (id := 8) hp (by kernel_rfl) (by kernel_rfl) (by kernel_rfl) ?_ | refine AM.drawW_loose (id := 9) hp (by kernel_rfl) (by kernel_rfl) ?_ | refine AM.drawW_loose (id := 10) hp (by kernel_rfl) (by kernel_rfl) ?_ | refine AM.opW_tied (by kernel_rfl) ?_ | refine AM.opW_untied (by kernel_rfl) ?_))
      generalize hE_ : AHeap.alloc h10 _ = h11; obtain ⟨g11, fr11, n11, l11⟩ := AM.new_get hE_; clear hE_
      have hEb := hEl (K.length + b)
      refine AM.appends_w ap_22 ap_22 ((bk10.ow (K.length + b) hvab).fr0 fr11) (AM.Rd.whole (n := 1) (c := [.int .i64 a]) g11 rfl) rfl (by omega) (AM.fits (by rw [hMb]; omega) (by omega)) (AM.fits' (by rw [hMb]; omega)) fun vb h12 ow12 fr12 hid12 => ?_
      have vb5 := vY _ hvab
      have hnb12 := fr12.get (hnb10.fr0 fr11) (fun q => by have := (vb5 _ q).1; omega)
      have u012 := fr12.get (u010.fr0 fr11) (fun q => by have := (vb5 _ q).1; omega)
      have hgp12 := fr12.get (hgp10.fr0 fr11) (fun q => by have := (vb5 _ q).1; omega)
      have k112 := fr12.get (k110.fr0 fr11) (fun q => (vb5 _ q).2.1 ⟨Nat.le_refl _, by omega⟩)
      have u011 := u010.fr0 fr11
      have hgp11 := hgp10.fr0 fr11
      have k111 := k110.fr0 fr11
      have l12 := fr12.low
      have n12 := fr12.next
      obtain ⟨vba, vbc, rfl⟩ := ow12.form
      have hlnb : ((List.range K.length).map fun j => Y (K.length + j)).length = K.length := by simp
      (repeat' (first | (simp (maxSteps := 1000000) (disch := first | omega | (simp only [AM.DB, List.length_set, List.length_map]; first | done | omega)) only [AM.RB, Nat.reduceAdd, Nat.reduceMul, Nat.reduceEqDiff, reduceCtorEq, b69_G15, u012, hgp12, k112, hnb12]) | refine AM.drawW_loose (id := 1) hp (by kernel_rfl) (by kernel_rfl) ?_ | refine AM.drawW_fine (id := 8) hp (by kernel_rfl) (by kernel_rfl) (by kernel_rfl) ?_ | refine AM.drawW_loose (id := 9) hp (by kernel_rfl) (by kernel_rfl) ?_ | refine AM.drawW_loose (id := 10) hp (by kernel_rfl) (by kernel_rfl) ?_ | refine AM.opW_tied (by kernel_rfl) ?_ | refine AM.opW_untied (by kernel_rfl) ?_))
      have rb10 : Rd h10 22 1 (.slice (some ⟨h.next + 2, 0, none⟩) K.length K.length) K.length ((List.range K.length).map fun j => Y (K.length + j)) := AM.Rd.whole hnb10 (by simp)
      refine ⟨AM.looseOk_by [(0, [0, 15]), (3, [0, 15])] (by kernel_rfl) ?_, ?_⟩
      · simp (maxSteps := 1000000) (disch := first | omega | (simp only [AM.DB, List.length_set, List.length_map]; first | done | omega)) only [AM.RB, Nat.reduceAdd, Nat.reduceMul, Nat.reduceEqDiff, reduceCtorEq, b69_G15]
        (repeat' apply And.intro) <;> (first | (refine AM.stable_len _ _ _ _ _ _ (fun _ => ?_); (simp (maxSteps := 1000000) (disch := first | omega | (simp only [AM.DB, List.length_set, List.length_map]; first | done | omega)) only [AM.RB, Nat.reduceAdd, Nat.reduceMul, Nat.reduceEqDiff, reduceCtorEq, b69_G15, u010, u011, u012, hgp10, hgp11, hgp12, k110, k111, k112])) | (refine AM.stable_load _ _ _ _ _ _ ?_; (first | (simp (maxSteps := 1000000) (disch := first | omega | (simp only [AM.DB, List.length_set, List.length_map]; first | done | omega)) only [AM.RB, Nat.reduceAdd, Nat.reduceMul, Nat.reduceEqDiff, reduceCtorEq, b69_G15, u010, u011, u012, hgp10, hgp11, hgp12, k110, k111, k112]) | skip); (first | (refine AM.stabL_int (by omega) ?_; (simp (maxSteps := 1000000) (disch := first | omega | (simp only [AM.DB, List.length_set, List.length_map]; first | done | omega)) only [AM.RB, Nat.reduceAdd, Nat.reduceMul, Nat.reduceEqDiff, reduceCtorEq, b69_G15, u010, u011, u012, hgp10, hgp11, hgp12, k110, k111, k112])) | (refine AM.stabL_ptr (by omega) (by omega) ?_; (simp (maxSteps := 1000000) (disch := first | omega | (simp only [AM.DB, List.length_set, List.length_map]; first | done | omega)) only [AM.RB, Nat.reduceAdd, Nat.reduceMul, Nat.reduceEqDiff, reduceCtorEq, b69_G15, u010, u011, u012, hgp10, hgp11, hgp12, k110, k111, k112])) | (refine AM.stabL_string (by omega) ?_; (simp (maxSteps := 1000000) (disch := first | omega | (simp only [AM.DB, List.length_set, List.length_map]; first | done | omega)) only [AM.RB, Nat.reduceAdd, Nat.reduceMul, Nat.reduceEqDiff, reduceCtorEq, b69_G15, u010, u011, u012, hgp10, hgp11, hgp12, k110, k111, k112])) | (refine AM.stabL_bool (by omega) ?_; (simp (maxSteps := 1000000) (disch := first | omega | (simp only [AM.DB, List.length_set, List.length_map]; first | done | omega)) only [AM.RB, Nat.reduceAdd, Nat.reduceMul, Nat.reduceEqDiff, reduceCtorEq, b69_G15, u010, u011, u012, hgp10, hgp11, hgp12, k110, k111, k112])) | (refine AM.stabL_rd rb10 (by omega) (by omega) ?_; (simp (maxSteps := 1000000) (disch := first | omega | (simp only [AM.DB, List.length_set, List.length_map]; first | done | omega)) only [AM.RB, Nat.reduceAdd, Nat.reduceMul, Nat.reduceEqDiff, reduceCtorEq, b69_G15, u010, u011, u012, hgp10, hgp11, hgp12, k110, k111, k112])) | (refine AM.stabL_elS rb10 (by omega) (by omega) ?_; (simp (maxSteps := 1000000) (disch := first | omega | (simp only [AM.DB, List.length_set, List.length_map]; first | done | omega)) only [AM.RB, Nat.reduceAdd, Nat.reduceMul, Nat.reduceEqDiff, reduceCtorEq, b69_G15, u010, u011, u012, hgp10, hgp11, hgp12, k110, k111, k112])) | (refine AM.stabL_elI rb10 (by omega) (by omega) ?_; (simp (maxSteps := 1000000) (disch := first | omega | (simp only [AM.DB, List.length_set, List.length_map]; first | done | omega)) only [AM.RB, Nat.reduceAdd, Nat.reduceMul, Nat.reduceEqDiff, reduceCtorEq, b69_G15, u010, u011, u012, hgp10, hgp11, hgp12, k110, k111, k112])))))
      generalize hE_ : AHeap.put h12 _ _ = h13; obtain ⟨g13, fr13, n13, l13⟩ := AM.put_get hE_ (by omega); clear hE_
      rw [Int.toNat_natCast] at g13
      have bk13 := bk10.app (k := K.length + b) hvab fr11 ow12 fr12 hid12 (h.next + 2) (by rw [if_neg (by omega)]) (by simp only [show ¬ K.length + b < K.length by omega, if_false, Nat.add_sub_cancel_left]; exact g13) fr13
      have hold : ∀ id, id < h6.next → ¬ idOf (X a) id → ¬ idOf (Y (K.length + b)) id → id ≠ h.next + 1 → id ≠ h.next + 2 → h13.get id = h6.get id := fun id q1 q2 q3 q4 q5 => by
        rw [fr13.old id (by omega) q5, fr12.old id (by omega) q3, fr11.old id (by omega) (fun q => q), fr10.old id (by omega) q4, fr9.old id (by omega) q2, fr8.old id (by omega) (fun q => q), fr7.old id q1 (fun q => q)]
      have hXa : ∀ id, id < h.next → ¬ idOf (X a) id := fun id q1 q => by have := (va5 id q).2.1; omega
      have hYb' : ∀ id, id < h.next → ¬ idOf (Y (K.length + b)) id := fun id q1 q => by have := (vb5 id q).1; omega
      have hkvl : ∀ id, idOf (.slice ka K.length kc) id → id < h.next := fun id q => m.2.1.lt q
      refine ⟨by omega, by omega, fun id q1 q2 => ?_, by omega, hA, fun id => (S id ∧ id < h6.next) ∨ (h8.next ≤ id ∧ id < h13.next), ⟨⟨upd Y (K.length + b) (.slice vba ((M (K.length + b)).length + 1) vbc), ?_, ⟨?_, ?_, rfl, ?_, u1.2.2.2.2⟩, ?_, ?_, ?_, ?_, ?_, ?_, ?_, ?_⟩, ?_, ?_, ?_, ?_⟩, ?_⟩
      · refine hold id q1 ?_ ?_ ?_ ?_
        · intro q
          rcases q2 with q2 | rfl | rfl | rfl | rfl
          · exact (hS id (va5 id q).1).2 q2
          · exact hXa _ (by omega) q
          · exact (va5 _ q).2.2 (by omega)
          · exact (va5 _ q).2.2 (by omega)
          · exact hXa _ hpl q
        · intro q
          have hv := vb5 id q
          rcases q2 with q2 | rfl | rfl | rfl | rfl
          · rcases hv.2.2 with q5 | q5
            · exact (hS id q5.1).2 q2
            · omega
          · exact hYb' _ (by omega) q
          · exact hv.2.1 (by omega)
          · exact hv.2.1 (by omega)
          · exact hYb' _ hpl q
        · rintro rfl
          rcases q2 with q2 | q2 | q2 | q2 | q2
          · exact (hS _ v3).2 q2
          all_goals omega
        · rintro rfl
          rcases q2 with q2 | q2 | q2 | q2 | q2
          · exact (hS _ v4).2 q2
          all_goals omega
      · exact fr13.get u012 (fun q => by have q : h.next = h.next + 2 := q; omega)
      · exact fr13.get hgp12 (fun q => by have q : p = h.next + 2 := q; omega)
      · refine u1.2.1.same (fun id q => hold id (by have := hkvl id q; omega) (hXa id (hkvl id q)) (hYb' id (hkvl id q)) (by have := hkvl id q; omega) (by have := hkvl id q; omega)) (by omega)
      · omega
      · rw [hes, ← List.append_assoc, hE, bothE_snoc E K.length a b hlt', hM, ← hMb]
        exact bk13
      · exact ⟨by omega, by omega, fun id q1 q2 => by rw [hold id (by omega) (hXa id q1) (hYb' id q1) (by omega) (by omega)]; exact u3.old id q1 q2⟩
      · exact .inl ⟨v0, by omega⟩
      · exact .inl ⟨v1, by omega⟩
      · exact fun id q => .inl ⟨v2 id q, by have := hkvl id q; omega⟩
      · exact .inl ⟨v3, by omega⟩
      · exact .inl ⟨v4, by omega⟩
      · intro j hj id q
        have hlt13 := (bk13.ow j hj).lt q
        unfold upd at q
        split at q
        · rcases hid12 id q with q | q
          · have hv := vb5 id q
            exact ⟨hv.2.2.elim .inl (fun q5 => .inr ⟨q5, hlt13⟩), hv.1, hv.2.1⟩
          · exact ⟨.inr ⟨by omega, hlt13⟩, by omega, by omega⟩
        · have hv := vY j hj id q
          exact ⟨hv.2.2.elim .inl (fun q5 => .inr ⟨q5, hlt13⟩), hv.1, hv.2.1⟩
      · exact fr13.get k112 (fun q => by have q : h3.next = h.next + 2 := q; omega)
      · have k210 := fr10.get (fr9.get (k27.fr0 fr8) (fun q => (va5 _ q).2.2 ⟨by omega, by omega⟩)) (fun q => by have q : h3.next + 1 = h.next + 1 := q; omega)
        exact fr13.get (fr12.get (k210.fr0 fr11) (fun q => (vb5 _ q).2.1 ⟨by omega, by omega⟩)) (fun q => by have q : h3.next + 1 = h.next + 2 := q; omega)
      · exact .inl ⟨s1, AM.get_some_lt k1⟩
      · exact .inl ⟨s2, AM.get_some_lt k2⟩
      · rintro id (q | q)
        · exact ⟨by omega, (hS id q.1).2⟩
        · exact ⟨q.2, fun e => by have := (hA1 id e).2; omega⟩
    · rintro A h6 ⟨hB, hA, S, ⟨t6, k1, k2, s1, s2⟩, hS⟩ hA1 hL6 hlow6
      rw [hxs, List.take_length] at t6
      (repeat' (first | (simp (maxSteps := 1000000) (disch := first | omega | (simp only [AM.DB, List.length_set, List.length_map]; first | done | omega)) only [AM.RB, Nat.reduceAdd, Nat.reduceMul, Nat.reduceEqDiff, reduceCtorEq, b69_G15, AM.wrap_i64]) | refine AM.drawW_loose (id := 1) hp (by kernel_rfl) (by kernel_rfl) ?_ | refine AM.drawW_fine (id := 8) hp (by kernel_rfl) (by kernel_rfl) (by kernel_rfl) ?_ | refine AM.drawW_loose (id := 9) hp (by kernel_rfl) (by kernel_rfl) ?_ | refine AM.drawW_loose (id := 10) hp (by kernel_rfl) (by kernel_rfl) ?_ | refine AM.opW_tied (by kernel_rfl) ?_ | refine AM.opW_untied (by kernel_rfl) ?_))
      refine ⟨a + 1, by omega, congrArg _ (by omega), by omega, ?_⟩
      exact t6.any.mono fun _ _ => trivial
    · intro _ _ _ q; exact q.elim
  · have e : a = K.length := by omega
    subst e
    obtain ⟨X, t1, t2, t3', t4, _, _, _, _, _, s6⟩ := t3
    (repeat' (first | (simp (maxSteps := 1000000) (disch := first | omega | (simp only [AM.DB, List.length_set, List.length_map]; first | done | omega)) only [AM.RB, Nat.reduceAdd, Nat.reduceMul, Nat.reduceEqDiff, reduceCtorEq, b69_G15]) | refine AM.drawW_loose (id := 1) hp (by kernel_rfl) (by kernel_rfl) ?_ | refine AM.drawW_fine (id := 8) hp (by kernel_rfl) (by kernel_rfl) (by kernel_rfl) ?_ | refine AM.drawW_loose (id := 9) hp (by kernel_rfl) (by kernel_rfl) ?_ | refine AM.drawW_loose (id := 10) hp (by kernel_rfl) (by kernel_rfl) ?_ | refine AM.opW_tied (by kernel_rfl) ?_ | refine AM.opW_untied (by kernel_rfl) ?_))
    exact hq _ _ X _ t2 t3' t4 (by omega) (by omega) (fun j hj id q => by have := (s6 j hj id q).2.1; omega)

end Go.Proofs.YtgdcbjpookldoaaDoor

namespace Go.Proofs.YtgdcbjpookldoaaDoor
open Go.AM
set_option maxRecDepth 8000
theorem b70_G16 : type_of% (And.intro (@Option.isNone_none.{0}) (And.intro (@Option.isNone_some.{0}) (And.intro (AM.bin_snil ul_22) (And.intro (AM.bsW_int bs_22) (And.intro (AM.bsW_nil bs_22) (And.intro (AM.bsW_slice bs_22) (And.intro (AM.bsW_string bs_22) (And.intro (@AM.op_append) (And.intro (@AM.op_binOp) (@AM.op_buildSlice)))))))))) := And.intro (@Option.isNone_none.{0}) (And.intro (@Option.isNone_some.{0}) (And.intro (AM.bin_snil ul_22) (And.intro (AM.bsW_int bs_22) (And.intro (AM.bsW_nil bs_22) (And.intro (AM.bsW_slice bs_22) (And.intro (AM.bsW_string bs_22) (And.intro (@AM.op_append) (And.intro (@AM.op_binOp) (@AM.op_buildSlice)))))))))


/-! ### Next, Back -/
theorem callW_first {g : FuncId} {x : Value} {h : AHeap} {Q : VQ} (hh : W g [x] h Q) : CallW Tryd.prog prims (.func (.func g) #[x] #[]) [] h Q := by
  obtain ⟨n, v, h', e, q⟩ := hh
  refine ⟨n, v, h', ?_, q⟩
  rw [← e]
  cases n with
  | zero => rfl
  | succ n => unfold callE; rfl
theorem do_w {p off : Nat} {h : AHeap} {c : List Value} {e : TypeId} {d s : Int} {Q : VQ} (hg : h.get p = some (.cells c e false)) (h0 : c[off]? = some (.int .u32 d)) (h1 : c[off + 1]? = some (.int .i32 s)) (hl : h.low ≤ p)
    (hdone : d ≠ 0 → Q (.tuple #[]) h)
    (hdo : d = 0 → s = 0 ∧ W 69 [pv p] (h.put p (some (.cells (setRow c (off + 1) [.int .i32 1]) e false))) fun _ h2 => ∃ c2 e2, h2.get p = some (.cells c2 e2 false) ∧ c2[off]? = some (.int .u32 0) ∧ c2[off + 1]? = some (.int .i32 1) ∧
      Q (.tuple #[]) (h2.put p (some (.cells (setRow c2 off [.int .u32 1, .int .i32 0]) e2 false)))) :
    W 68 [.pointer (some ⟨p, off, none⟩), .func (.func 69) #[pv p] #[]] h Q := by
  by_cases hd : d = 0
  · obtain ⟨hs, hw⟩ := hdo hd
    subst hd; subst hs
    obtain ⟨n, v, h2, hc, c2, e2, k1, k2, k3, hq⟩ := callW_first hw
    refine AM.callW_prim hp (p := pDo) (by unfold prims; rfl) ⟨n, ?_⟩ hq
    show pDo _ _ _ = _
    unfold pDo
    have ha : pDoArg [.pointer (some ⟨p, off, none⟩), .func (.func 69) #[pv p] #[]] h = some (.inr (.func (.func 69) #[pv p] #[], h.put p (some (.cells (setRow c (off + 1) [.int .i32 1]) e false)), p, off)) := by
      unfold pDoArg
      simp [hg, h0, h1, hl]
    simp only [List.append_nil, List.nil_append]
    rw [ha]
    simp only
    rw [hc, Option.bind_some]
    unfold pDoEnd
    simp [k1, k2, k3]
  · refine AM.callW_prim hp (p := pDo) (by unfold prims; rfl) ⟨0, ?_⟩ (hdone hd)
    show pDo _ _ _ = _
    unfold pDo
    have ha : pDoArg [.pointer (some ⟨p, off, none⟩), .func (.func 69) #[pv p] #[]] h = some (.inl (.tuple #[], h)) := by
      unfold pDoArg
      simp [hg, h0, h1, hl, hd]
    simp only [List.append_nil, List.nil_append]
    rw [ha]

theorem clone_w {s : Value} {n : Nat} {cs : List Value} {h : AHeap} (hs : Rd h 3 1 s n cs) (hc : cs.all (·.oneCell') = true) (hn : n ≤ 4000000000) (hl : h.low ≤ h.next) {Q : VQ}
    (hq : ∀ v h', Ow h' 3 1 v n cs → Fr none' h h' → (∀ id, idOf v id → h.next ≤ id) → Q v h') : W 70 [s] h Q := by
  obtain ⟨a, cap, rfl⟩ := hs.form
  refine AM.enter hp (fn := Tryd.f70) (rs := [.tmp 2]) (nt := 8) (by kernel_rfl) Tryd.func70 rfl rfl rfl (by kernel_rfl) ?_
  simp (maxSteps := 1000000) (disch := first | omega | (simp only [AM.DB, List.length_set, List.length_map]; first | done | omega)) only [AM.RB, Nat.reduceAdd, Nat.reduceMul, Nat.reduceEqDiff, reduceCtorEq, b70_G16]
  cases a with
  | none =>
    simp (maxSteps := 1000000) (disch := first | omega | (simp only [AM.DB, List.length_set, List.length_map]; first | done | omega)) only [AM.RB, Nat.reduceAdd, Nat.reduceMul, Nat.reduceEqDiff, reduceCtorEq, b70_G16, Option.isNone_none]
    rcases hs with ⟨e, rfl, rfl⟩ | ⟨id, off, cap', c, e', o, e, _⟩
    · exact hq _ _ (Ow.nil _ _ _) (Fr.refl _ _) (fun _ q => q.elim)
    · cases e
  | some a =>
    simp (maxSteps := 1000000) (disch := first | omega | (simp only [AM.DB, List.length_set, List.length_map]; first | done | omega)) only [AM.RB, Nat.reduceAdd, Nat.reduceMul, Nat.reduceEqDiff, reduceCtorEq, b70_G16, Option.isNone_some]
    have fr0 : Fr none' h (h.alloc (.cells [] 3 false)) := (Fr.refl _ _).alloc _
    have ow0 : Ow (h.alloc (.cells [] 3 false)) 3 1 (.slice (some ⟨h.next, 0, none⟩) 0 0) 0 [] := AM.Ow.whole (n := 0) (AM.get_alloc_self rfl) rfl hl
    have hl1 : (h.alloc (.cells [] 3 false)).low ≤ (h.alloc (.cells [] 3 false)).next := by simp only [AHeap.next_alloc, AHeap.low_alloc]; omega
    refine AM.appends_w ap_22 ap_22 ow0 (hs.fr0 fr0) hc hl1 (AM.fits (by omega) (by omega)) (AM.fits' (by omega)) ?_
    intro v h' how fr hid
    simp (maxSteps := 1000000) (disch := first | omega | (simp only [AM.DB, List.length_set, List.length_map]; first | done | omega)) only [AM.RB, Nat.reduceAdd, Nat.reduceMul, Nat.reduceEqDiff, reduceCtorEq, b70_G16]
    rw [Nat.zero_add] at how
    refine hq _ _ how (fr0.then fr fun id h1 h2 => ?_) (fun id q => ?_)
    · have : id = h.next := h2
      omega
    · rcases hid id q with h2 | h2
      · have : id = h.next := h2
        omega
      · have : h.next + 1 ≤ id := h2
        omega

/-- A map in memory with what it owns; its tables are made, or not yet. -/
def Mt (h : AHeap) (p : Nat) (L : List (List UInt8)) (S : Nat → Prop) : Prop := ∃ kv, (∀ id, idOf kv id → S id) ∧ S p ∧ (∀ id, S id → id < h.next) ∧
  (Mp h p kv L.length (L.getD 0 []).length L.flatten (tlD 0 0 (.slice none 0 0) (.slice none 0 0)) ∨
   ∃ nid bid X, Mp h p kv L.length (L.getD 0 []).length L.flatten (tlD 1 0 (.slice (some ⟨nid, 0, none⟩) L.flatten.length L.flatten.length) (.slice (some ⟨bid, 0, none⟩) L.flatten.length L.flatten.length)) ∧
     Bk h L.flatten.length nid bid X (bothE (edgesTo L.flatten L.length (L.getD 0 []).length L.flatten.length) L.flatten.length) ∧ S nid ∧ S bid ∧ (∀ j, j < 2 * L.flatten.length → ∀ id, idOf (X j) id → S id) ∧ nid ≠ p ∧ bid ≠ p ∧ (∀ j, j < 2 * L.flatten.length → ¬ idOf (X j) p))
theorem Mt.mp {h : AHeap} {p : Nat} {L : List (List UInt8)} {S : Nat → Prop} (m : Mt h p L S) : ∃ kv tl, Mp h p kv L.length (L.getD 0 []).length L.flatten tl := by
  obtain ⟨kv, _, _, _, m | ⟨_, _, _, m, _⟩⟩ := m
  · exact ⟨_, _, m⟩
  · exact ⟨_, _, m⟩
theorem Mp.same {h h' : AHeap} {p : Nat} {kv : Value} {R C : Nat} {K : List UInt8} {tl : List Value} (m : Mp h p kv R C K tl) (h1 : h'.get p = h.get p) (h2 : ∀ id, idOf kv id → h'.get id = h.get id) (hl : h'.low = h.low) : Mp h' p kv R C K tl :=
  ⟨by rw [h1]; exact m.1, m.2.1.same h2 hl, m.2.2.1, by rw [hl]; exact m.2.2.2.1, m.2.2.2.2⟩
theorem Mt.keep {h h' : AHeap} {p : Nat} {L : List (List UInt8)} {S : Nat → Prop} (m : Mt h p L S) (hS : ∀ id, S id → h'.get id = h.get id) (hn : h.next ≤ h'.next) (hl : h'.low = h.low) : Mt h' p L S := by
  obtain ⟨kv, s1, s2, s3, m⟩ := m
  refine ⟨kv, s1, s2, fun id q => Nat.lt_of_lt_of_le (s3 id q) hn, ?_⟩
  rcases m with m | ⟨nid, bid, X, m, b, s4, s5, s6, s7⟩
  · exact .inl (m.same (hS _ s2) (fun id q => hS id (s1 id q)) hl)
  · refine .inr ⟨nid, bid, X, m.same (hS _ s2) (fun id q => hS id (s1 id q)) hl, b.same ?_ hl, s4, s5, s6, s7⟩
    rintro id (rfl | rfl | ⟨j, hj, q⟩)
    · exact hS _ s4
    · exact hS _ s5
    · exact hS _ (s6 j hj id q)
theorem Mt.fr {h h' : AHeap} {p : Nat} {L : List (List UInt8)} {S T : Nat → Prop} (m : Mt h p L S) (fr : Fr T h h') (hT : ∀ id, S id → ¬ T id) : Mt h' p L S := by
  have s3 := m.choose_spec.2.2.1
  exact m.keep (fun id q => fr.old id (s3 id q) (hT id q)) fr.next fr.low
theorem Mt.fr0 {h h' : AHeap} {p : Nat} {L : List (List UInt8)} {S : Nat → Prop} (m : Mt h p L S) (fr : Fr none' h h') : Mt h' p L S := m.fr fr fun _ _ q => q
theorem Mt.lt {h : AHeap} {p : Nat} {L : List (List UInt8)} {S : Nat → Prop} (m : Mt h p L S) {id : Nat} (q : S id) : id < h.next := m.choose_spec.2.2.1 id q
theorem Mt.self {h : AHeap} {p : Nat} {L : List (List UInt8)} {S : Nat → Prop} (m : Mt h p L S) : S p := m.choose_spec.2.1
/-- A text's size. -/
structure Fit (L : List (List UInt8)) : Prop where
  rows : 0 < L.length
  cols : 0 < (L.getD 0 []).length
  r32 : L.length ≤ 32
  c32 : (L.getD 0 []).length ≤ 32
  len : L.flatten.length = L.length * (L.getD 0 []).length
theorem Good.fit {l : List UInt8} {L : List (List UInt8)} (g : Good l L) : Fit L := ⟨g.rows, g.cols, g.r32, g.c32, g.len⟩
abbrev edgesL (L : List (List UInt8)) : List Ed := edgesTo L.flatten L.length (L.getD 0 []).length L.flatten.length
def nextL (L : List (List UInt8)) (i : Int) : List Int := if 0 ≤ i ∧ i < L.flatten.length then fromE (edgesL L) i.toNat else []
def backL (L : List (List UInt8)) (i : Int) : List Int := if 0 ≤ i ∧ i < L.flatten.length then intoE (edgesL L) i.toNat else []
/-- The tables are there afterwards. -/
theorem once_w {h : AHeap} {p : Nat} {L : List (List UInt8)} {S : Nat → Prop} (m : Mt h p L S) (f : Fit L) (hw : h.get GW = some (.cells waysC 123 false)) (hgl : GW < h.low) (hl : h.low ≤ h.next) {Q : VQ}
    (hq : ∀ kv nid bid X h' S', Mp h' p kv L.length (L.getD 0 []).length L.flatten (tlD 1 0 (.slice (some ⟨nid, 0, none⟩) L.flatten.length L.flatten.length) (.slice (some ⟨bid, 0, none⟩) L.flatten.length L.flatten.length)) →
      Bk h' L.flatten.length nid bid X (bothE (edgesL L) L.flatten.length) → Mt h' p L S' → (∀ id, S' id → S id ∨ h.next ≤ id) → Fr (fun id => id = p) h h' → (∀ j, j < 2 * L.flatten.length → ∀ id, idOf (X j) id → S' id) → Q (.tuple #[]) h') :
    W 68 [.pointer (some ⟨p, 3, none⟩), .func (.func 69) #[pv p] #[]] h Q := by
  obtain ⟨kv, s1, s2, s3, m⟩ := id m
  rcases m with m1 | ⟨nid, bid, X, m1, b, s4, s5, s6, s7⟩
  · refine do_w (d := 0) (s := 0) m1.1 rfl rfl m1.2.2.2.1 (fun q => absurd rfl q) (fun _ => ⟨rfl, ?_⟩)
    generalize hE_ : AHeap.put h _ _ = h1
    obtain ⟨g1, fr1, n1, l1⟩ := AM.put_get hE_ (AM.get_some_lt m1.1)
    clear hE_
    have m2 : Mp h1 p kv L.length (L.getD 0 []).length L.flatten (tlD 0 1 (.slice none 0 0) (.slice none 0 0)) :=
      ⟨g1, m1.2.1.fr fr1 (fun id q e => m1.2.2.2.2 (by have e : id = p := e; rw [← e]; exact q)), rfl, by rw [l1]; exact m1.2.2.2.1, m1.2.2.2.2⟩
    have hgp : GW ≠ p := by have := m1.2.2.2.1; omega
    refine tables_w (fr1.get hw hgp) (by rw [l1]; exact hgl) m2 f.rows f.cols f.len ⟨f.r32, f.c32⟩ (by omega) fun nid bid X h2 m3 b fr2 c1 c2 c3 => ?_
    refine ⟨_, _, m3.1, rfl, rfl, ?_⟩
    generalize hE_ : AHeap.put h2 _ _ = h3
    obtain ⟨g3, fr3, n3, l3⟩ := AM.put_get hE_ (AM.get_some_lt m3.1)
    clear hE_
    have lp := AM.get_some_lt m1.1
    have hne : ∀ j, j < 2 * L.flatten.length → ∀ id, idOf (X j) id → id ≠ p := fun j hj id q => by have := c3 j hj id q; omega
    have m4 : Mp h3 p kv L.length (L.getD 0 []).length L.flatten (tlD 1 0 (.slice (some ⟨nid, 0, none⟩) L.flatten.length L.flatten.length) (.slice (some ⟨bid, 0, none⟩) L.flatten.length L.flatten.length)) :=
      ⟨g3, m3.2.1.fr fr3 (fun id q e => m1.2.2.2.2 (by have e : id = p := e; rw [← e]; exact q)), rfl, by rw [l3]; exact m3.2.2.2.1, m1.2.2.2.2⟩
    have b3 : Bk h3 L.flatten.length nid bid X (bothE (edgesL L) L.flatten.length) := by
      refine b.same (fun id q => fr3.old id ?_ ?_) l3
      · rcases q with rfl | rfl | ⟨j, hj, q⟩
        · exact AM.get_some_lt b.g1
        · exact AM.get_some_lt b.g2
        · exact (b.ow j hj).lt q
      · rintro e
        have e : id = p := e
        rcases q with rfl | rfl | ⟨j, hj, q⟩
        · omega
        · omega
        · exact hne j hj id q e
    have fr13 : Fr (fun id => id = p) h h3 := ((fr1.then fr2 fun _ _ q => q).then fr3 fun _ _ q => q)
    have n2 := fr2.next
    have ltn := AM.get_some_lt b3.g1
    have ltb := AM.get_some_lt b3.g2
    refine hq kv nid bid X h3 (fun id => S id ∨ id = nid ∨ id = bid ∨ ∃ j, j < 2 * L.flatten.length ∧ idOf (X j) id) m4 b3 ⟨kv, fun id q => .inl (s1 id q), .inl s2, ?_, .inr ⟨nid, bid, X, m4, b3, .inr (.inl rfl), .inr (.inr (.inl rfl)), fun j hj id q => .inr (.inr (.inr ⟨j, hj, q⟩)), by omega, by omega, fun j hj q => hne j hj p q rfl⟩⟩ ?_ fr13 (fun j hj id q => .inr (.inr (.inr ⟨j, hj, q⟩)))
    · rintro id (q | rfl | rfl | ⟨j, hj, q⟩)
      · have := s3 id q; omega
      · exact ltn
      · exact ltb
      · exact (b3.ow j hj).lt q
    · rintro id (q | rfl | rfl | ⟨j, hj, q⟩)
      · exact .inl q
      · exact .inr (by omega)
      · exact .inr (by omega)
      · exact .inr (by have := c3 j hj id q; omega)
  · refine do_w (d := 1) (s := 0) m1.1 rfl rfl m1.2.2.2.1 (fun _ => ?_) (fun q => by cases q)
    exact hq kv nid bid X h S m1 b ⟨kv, s1, s2, s3, .inr ⟨nid, bid, X, m1, b, s4, s5, s6, s7⟩⟩ (fun id q => .inl q) (Fr.refl _ _) s6

end Go.Proofs.YtgdcbjpookldoaaDoor
