/- AM: ranges over functions, where a round's own variables lie in memory; facts carried on by one word. -/
import Derived.Test.YtnkbdbopiancmaaAMOps5
set_option linter.unusedSimpArgs false
set_option linter.unusedVariables false
namespace Go.AM
variable {P : Program} {prims : Prims}

theorem _root_.Eq.fr0 {h h' : AHeap} {id : Nat} {o : AObj} (hg : h.get id = some o) (fr : Fr none' h h') : h'.get id = some o := fr.get hg (fun q => q)
theorem _root_.LE.le.fr0 {h h' : AHeap} (hl : h.low ≤ h.next) (fr : Fr none' h h') : h'.low ≤ h'.next := fr.hl hl

theorem box_get {h h3 : AHeap} {id : Nat} {o o' : AObj} (e : (h.alloc o).put id (some o') = h3) (hi : id = h.next) : h3.get id = some o' ∧ Fr none' h h3 ∧ h3.next = h.next + 1 ∧ h3.low = h.low := by
  subst e; subst hi; exact ⟨get_put_self rfl (Nat.lt_succ_self _), ((Fr.refl _ _).alloc _).put _ (.inl (Nat.le_refl _)), rfl, rfl⟩
theorem new_get {h h3 : AHeap} {o : AObj} (e : h.alloc o = h3) : h3.get h.next = some o ∧ Fr none' h h3 ∧ h3.next = h.next + 1 ∧ h3.low = h.low := by
  subst e; exact ⟨get_alloc_self rfl, (Fr.refl _ _).alloc _, rfl, rfl⟩
theorem put_get {h h3 : AHeap} {id : Nat} {o : AObj} (e : h.put id (some o) = h3) (hid : id < h.next) : h3.get id = some o ∧ Fr (fun k => k = id) h h3 ∧ h3.next = h.next ∧ h3.low = h.low := by
  subst e; exact ⟨get_put_self rfl hid, (Fr.refl _ _).put _ (.inr rfl), rfl, rfl⟩
/-- What is written was made behind h: then nothing of h's is changed. -/
theorem Fr.fresh {h h2 h3 : AHeap} {S : Nat → Prop} (fr : Fr none' h h2) (fr2 : Fr S h2 h3) (hS : ∀ id, S id → h.next ≤ id) : Fr none' h h3 := fr.then fr2 fun id h1 h2 => by have := hS id h2; omega

/-- What a loop's round knows: of its own objects (S), none of which the function that tells writes (A), and of what was there (below B). -/
def JK (B : Nat) (K : (Nat → Prop) → AHeap → Prop) : (Nat → Prop) → AHeap → Prop := fun A h => B ≤ h.next ∧ (∀ id, A id → B ≤ id) ∧ ∃ S, K S h ∧ ∀ id, S id → id < h.next ∧ ¬ A id
theorem JK.stab {B : Nat} {K : (Nat → Prop) → AHeap → Prop} (hK : ∀ S h1 h2, B ≤ h1.next → K S h1 → (∀ id, S id → h2.get id = h1.get id) → (∀ id, id < B → h2.get id = h1.get id) → h1.next ≤ h2.next → h2.low = h1.low → K S h2) : Stab (JK B K) := by
  rintro A A' h1 h2 ⟨hB, hA, S, hk, hS⟩ fr g1 g2
  have hA' : ∀ id, A' id → B ≤ id := fun id q => by
    rcases g2 id q with q | q
    · exact hA id q
    · omega
  refine ⟨Nat.le_trans hB fr.next, hA', S, hK S h1 h2 hB hk (fun id q => fr.old id (hS id q).1 (hS id q).2) (fun id q => fr.old id (by omega) fun e => by have := hA id e; omega) fr.next fr.low, fun id q => ⟨Nat.lt_of_lt_of_le (hS id q).1 fr.next, fun e => ?_⟩⟩
  rcases g2 id e with e | e
  · exact (hS id q).2 e
  · have := (hS id q).1; omega
theorem Stab.and {p : Prop} {J : (Nat → Prop) → AHeap → Prop} (h : Stab J) : Stab fun A h' => p ∧ J A h' := by
  rintro A A' h1 h2 ⟨b, q⟩ fr g1 g2
  exact ⟨b, h A A' h1 h2 q fr g1 g2⟩
theorem Fr.ext {h h1 h2 : AHeap} {B : Nat} (fr : Fr none' h h1) (hB : ∀ id, id < B → h2.get id = h1.get id) (hb : h.next ≤ B) (hn : h1.next ≤ h2.next) (hl : h2.low = h1.low) : Fr none' h h2 :=
  ⟨Nat.le_trans fr.next hn, hl.trans fr.low, fun id q1 q2 => by rw [hB id (by omega)]; exact fr.old id q1 q2⟩

/-- As 'JK', where the function that tells also writes some objects that were there ahead (A0). -/
def JKW (B : Nat) (A0 : Nat → Prop) (K : (Nat → Prop) → AHeap → Prop) : (Nat → Prop) → AHeap → Prop := fun A h => B ≤ h.next ∧ (∀ id, A id → A0 id ∨ B ≤ id) ∧ ∃ S, K S h ∧ ∀ id, S id → id < h.next ∧ ¬ A id
theorem JKW.stab {B : Nat} {A0 : Nat → Prop} {K : (Nat → Prop) → AHeap → Prop} (hK : ∀ S h1 h2, B ≤ h1.next → K S h1 → (∀ id, S id → h2.get id = h1.get id) → (∀ id, id < B → ¬ A0 id → h2.get id = h1.get id) → h1.next ≤ h2.next → h2.low = h1.low → K S h2) : Stab (JKW B A0 K) := by
  rintro A A' h1 h2 ⟨hB, hA, S, hk, hS⟩ fr g1 g2
  have hA' : ∀ id, A' id → A0 id ∨ B ≤ id := fun id q => by
    rcases g2 id q with q | q
    · exact hA id q
    · exact .inr (by omega)
  refine ⟨Nat.le_trans hB fr.next, hA', S, hK S h1 h2 hB hk (fun id q => fr.old id (hS id q).1 (hS id q).2) (fun id q q2 => fr.old id (by omega) fun e => (hA id e).elim q2 (fun e => by omega)) fr.next fr.low, fun id q => ⟨Nat.lt_of_lt_of_le (hS id q).1 fr.next, fun e => ?_⟩⟩
  rcases g2 id e with e | e
  · exact (hS id q).2 e
  · have := (hS id q).1; omega
theorem Fr.ext' {h h1 h2 : AHeap} (fr : Fr none' h h1) (hB : ∀ id, id < h.next → h2.get id = h1.get id) (hn : h1.next ≤ h2.next) (hl : h2.low = h1.low) : Fr none' h h2 :=
  ⟨Nat.le_trans fr.next hn, hl.trans fr.low, fun id q1 q2 => by rw [hB id q1]; exact fr.old id q1 q2⟩

end Go.AM
