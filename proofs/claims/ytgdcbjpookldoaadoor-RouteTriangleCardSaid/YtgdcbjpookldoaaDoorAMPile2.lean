/- A text of this claim: the abstract machine. -/
import Derived.Test.YtgdcbjpookldoaaDoorAMPile
import Derived.Test.YtgdcbjpookldoaaDoorAMOps6
set_option linter.unusedSimpArgs false
set_option linter.unusedVariables false
namespace Go.AM

theorem flat_set {α : Type} {f : α → List Value} {sz : Nat} (hf : ∀ x, (f x).length = sz) (hz : 0 < sz) (l : List α) (j : Nat) (x : α) (hj : j < l.length) : setRow (l.flatMap f) (j * sz) (f x) = (l.set j x).flatMap f := by
  have hl := flat_length hf l
  have hl2 := flat_length hf (l.set j x)
  rw [List.length_set] at hl2
  have hjs : j * sz + sz ≤ l.length * sz := by have := Nat.mul_le_mul_right sz (show j + 1 ≤ l.length by omega); rw [Nat.add_mul, Nat.one_mul] at this; exact this
  apply List.ext_getElem?
  intro i
  rw [setRow_get _ _ _ (by rw [hf, hl]; exact hjs), hf]
  by_cases hi : i < l.length * sz
  · have hq : i / sz < l.length := Nat.div_lt_of_lt_mul (by rw [Nat.mul_comm]; exact hi)
    have hr := Nat.mod_lt i hz
    have e : i = i / sz * sz + i % sz := by rw [Nat.mul_comm]; exact (Nat.div_add_mod i sz).symm
    generalize i / sz = q at *
    generalize i % sz = r at *
    subst e
    rw [flat_get1 hf x (l.set j x) q r (by rw [List.length_set]; exact hq) hr]
    by_cases c : q = j
    · subst c
      rw [if_pos (by omega), show q * sz + r - q * sz = r by omega]
      congr 2; simp [List.getD, hq]
    · have nb : ¬ (j * sz ≤ q * sz + r ∧ q * sz + r < j * sz + sz) := by
        intro ⟨h1, h2⟩
        have a1 : q < j + 1 := Nat.lt_of_mul_lt_mul_right (a := sz) (by rw [Nat.add_mul, Nat.one_mul]; omega)
        have a2 : j < q + 1 := Nat.lt_of_mul_lt_mul_right (a := sz) (by rw [Nat.add_mul, Nat.one_mul]; omega)
        omega
      rw [if_neg nb, flat_get1 hf x l q r hq hr]
      congr 2; simp [List.getD, List.getElem?_set, Ne.symm c]
  · rw [List.getElem?_eq_none (l := (l.set j x).flatMap f) (by rw [hl2]; omega), List.getElem?_eq_none (l := l.flatMap f) (by rw [hl]; omega), if_neg (by omega)]
section
variable {P : Program} {prims : Prims} (v : Value) (vs : List Value) (h : AHeap) (tr : List (Env × AHeap × Value)) (Q : EQ) (all : List Oper) (ah : List Nat) (j : Nat) (os : List Oper)
end
theorem stO_fn {c : List Value} {e : TypeId} {o : Bool} {h : AHeap} {id off : Nat} {g : Fn} {a b : Array Value} (hl : h.low ≤ id) (ho : off < c.length) : stO (some (.cells c e o)) h id off (.func g a b) 1 = some (h.put id (some (.cells (c.set off (.func g a b)) e o))) := stO_one rfl rfl hl ho
def encI (q : It) : List Value := [.int .i64 q.1, .int .i64 0, .int .i64 q.2]
theorem encI_len (q : It) : (encI q).length = 3 := rfl
def orN : List Int → Int
  | [] => 0
  | x :: l => if x ≠ 0 then x else orN l
theorem orN_step {l : List Int} {i : Nat} (hi : i < l.length) (h0 : l.getD i 0 = 0) : orN (l.drop (i + 1)) = orN (l.drop i) := by
  have d : l.drop i = l.getD i 0 :: l.drop (i + 1) := by
    rw [List.drop_eq_getElem_cons hi]
    simp [List.getD, hi]
  rw [d, h0]; simp [orN]
theorem orN_hit {l : List Int} {i : Nat} (hi : i < l.length) (h0 : ¬ l.getD i 0 = 0) : orN (l.drop i) = l.getD i 0 := by
  have d : l.drop i = l.getD i 0 :: l.drop (i + 1) := by
    rw [List.drop_eq_getElem_cons hi]
    simp [List.getD, hi]
  rw [d, orN, if_pos h0]
theorem orN_cmp (a b : It) : orN [cmpN a.1 b.1, 0, cmpN a.2 b.2] = cmpI a b := by
  unfold orN cmpI
  split
  · rfl
  · unfold orN orN
    simp only [ne_eq, not_true_eq_false, if_false]
    split
    · rfl
    · rename_i h; simp only [orN]; omega
/-- The rest behind the first one, when the last one takes its place. -/
theorem tail_perm {P : List It} (h : 2 ≤ P.length) : ((P.take (P.length - 1)).set 0 (at' P (P.length - 1))).Perm P.tail := by
  match P, h with
  | p :: q :: l, _ =>
    have e : at' (p :: q :: l) ((p :: q :: l).length - 1) = (q :: l)[l.length]'(by simp) := by simp [at', List.getD]
    rw [e, List.tail_cons]
    have e2 : (p :: q :: l).take ((p :: q :: l).length - 1) = p :: (q :: l).take l.length := by simp
    rw [e2, List.set_cons_zero]
    have k : ((q :: l)[l.length]'(by simp) :: (q :: l).take l.length).Perm ((q :: l).take l.length ++ [(q :: l)[l.length]'(by simp)]) := List.perm_append_comm (l₁ := [(q :: l)[l.length]'(by simp)])
    have e3 : (q :: l).take l.length ++ [(q :: l)[l.length]'(by simp)] = q :: l := by
      rw [List.take_append_getElem]; simp
    exact k.trans (List.Perm.of_eq e3)
theorem flat_take {α : Type} {f : α → List Value} {sz : Nat} (hf : ∀ x, (f x).length = sz) : ∀ (l : List α) (k : Nat), (l.flatMap f).take (k * sz) = (l.take k).flatMap f
  | [], k => by simp
  | x :: l, 0 => by simp
  | x :: l, k + 1 => by
    rw [List.flatMap_cons, List.take_succ_cons, List.flatMap_cons, ← flat_take hf l k, Nat.add_mul, Nat.one_mul, Nat.add_comm, ← hf x, List.take_length_add_append]
theorem at_take (l : List It) {k j : Nat} (hj : j < k) : at' (l.take k) j = at' l j := by
  simp only [at', List.getD, List.getElem?_take, if_pos hj]
theorem HeapP.take {l : List It} (h : HeapP l) (k : Nat) : HeapP (l.take k) := by
  intro j q1 q2
  rw [List.length_take] at q2
  rw [at_take l (by omega), at_take l (by omega)]
  exact h j q1 (by omega)
theorem head_tail {P : List It} (h : P ≠ []) : P = at' P 0 :: P.tail := by
  cases P with
  | nil => exact absurd rfl h
  | cons a l => rfl
end Go.AM
