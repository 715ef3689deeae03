/- WP: loose readers of structs of two slices; copy. -/
import Derived.Test.YtnkbdbopiancmaaAMIter3
import Derived.Test.YtnkbdbopiancmaaAMOps6
set_option linter.unusedSimpArgs false
set_option linter.unusedVariables false
namespace Go.AM
variable {P : Program}

/-- copy: into a piece of an object that the run knows. -/
theorem copy_w {h : AHeap} {dt e e' : TypeId} {sz id off dl cap m : Nat} {src : Value} {c cs : List Value} {o : Bool} {K : VQ} (ht : elI P dt = some (e, sz)) (hz : 0 < sz) (hg : h.get id = some (.cells c e o)) (hlow : h.low ≤ id) (hd : off + dl * sz ≤ c.length)
    (hs : Rd h e' sz src m cs) (h1 : cs.all (·.oneCell') = true) (hk : 0 < min m dl)
    (hq : ∀ h', h'.get id = some (.cells (setRow c off (cs.take (min m dl * sz))) e o) → Fr (fun k => k = id) h h' → h'.next = h.next → h'.low = h.low → K (.int .i64 (min m dl : Nat)) h') :
    optR (aCopy P h dt (.slice (some ⟨id, off, none⟩) dl cap) src) K := by
  unfold elI at ht
  cases hu : P.underlying dt with
  | none => rw [hu] at ht; cases ht
  | some u =>
    rw [hu] at ht
    cases u with
    | slice e0 =>
      simp only at ht
      cases hi : P.info? e0 with
      | none => rw [hi] at ht; cases ht
      | some i =>
        rw [hi] at ht
        simp only [Option.map_some, Option.some.injEq, Prod.mk.injEq] at ht
        obtain ⟨rfl, rfl⟩ := ht
        have hlt := get_some_lt hg
        have hmin : min m dl * i.size ≤ dl * i.size := Nat.mul_le_mul_right _ (Nat.min_le_right _ _)
        have hmin2 : min m dl * i.size ≤ m * i.size := Nat.mul_le_mul_right _ (Nat.min_le_left _ _)
        have hcl : cs.length = m * i.size := hs.length
        have hlen : aLenOf src = some m := by
          obtain ⟨a, cp, rfl⟩ := hs.form
          rfl
        have hfirst : aFirst h i.size (min m dl) src = some (cs.take (min m dl * i.size)) := by
          rcases hs with ⟨rfl, rfl, rfl⟩ | ⟨id2, off2, cap2, c2, e2, o2, rfl, b, hg2, f, rfl, _⟩
          · rw [Nat.zero_min] at hk; omega
          · unfold aFirst
            simp only [hg2]
            rw [if_pos (by omega), List.take_take, Nat.min_eq_left hmin2]
        have hall : (cs.take (min m dl * i.size)).all (·.oneCell') = true := by
          rw [List.all_eq_true] at h1 ⊢
          exact fun v hv => h1 v (List.mem_of_mem_take hv)
        refine ⟨(.int .i64 (min m dl : Nat), h.put id (some (.cells (setRow c off (cs.take (min m dl * i.size))) e0 o))), ?_, ?_⟩
        · unfold aCopy
          simp only [hu, hi, hlen, Option.bind_some]
          have hne : ¬ Nat.min m dl = 0 := by show ¬ min m dl = 0; omega
          rw [if_neg hne]
          show (aFirst h i.size (min m dl) src).bind _ = _
          rw [hfirst]
          simp only [Option.bind_some, hg]
          rw [if_pos]
          · refine ⟨hlow, ?_, ?_, ?_, hall, hz⟩
            · first | trivial | rfl
            · show off + min m dl * i.size ≤ c.length; omega
            · show (cs.take (min m dl * i.size)).length = min m dl * i.size
              rw [List.length_take, hcl]; omega
        · obtain ⟨q1, q2, q3, q4⟩ := put_get (o := .cells (setRow c off (cs.take (min m dl * i.size))) e0 o) rfl hlt
          exact hq _ q1 q2 q3 q4
    | _ => cases ht

theorem bin_and (t : TypeId) (k : IntKind) (a b : Int) : aBin P .and t (.int k a) (.int k b) = some (.int k (k.wrap (BitVec.ofInt k.bits a &&& BitVec.ofInt k.bits b).toNat)) := by simp [aBin]
theorem and_mask {n : Nat} (h : n < 4294967296) : IntKind.u64.wrap ((BitVec.ofInt IntKind.u64.bits (n : Int) &&& BitVec.ofInt IntKind.u64.bits 4294967295).toNat : Int) = n := by
  have e0 : IntKind.u64.bits = 64 := rfl
  have e1 : BitVec.ofInt 64 (n : Int) = BitVec.ofNat 64 n := BitVec.ofInt_natCast 64 n
  have e2 : BitVec.ofInt 64 (4294967295 : Int) = BitVec.ofNat 64 4294967295 := BitVec.ofInt_natCast 64 4294967295
  rw [e0, e1, e2, BitVec.toNat_and, BitVec.toNat_ofNat, BitVec.toNat_ofNat, Nat.mod_eq_of_lt (by omega), Nat.mod_eq_of_lt (by omega), show (4294967295 : Nat) = 2 ^ 32 - 1 from rfl, Nat.and_two_pow_sub_one_eq_mod, Nat.mod_eq_of_lt (by omega)]
  unfold IntKind.wrap
  simp [IntKind.bits, IntKind.signed]
  omega
theorem shr_32 {n : Nat} (h : n < 4294967296) : Int.fdiv (n : Int) (2 ^ (min (32 : Int).toNat IntKind.u64.bits)) = 0 := by
  have e : (2 : Int) ^ (min (32 : Int).toNat IntKind.u64.bits) = 4294967296 := rfl
  rw [e, Int.fdiv_eq_ediv_of_nonneg _ (by omega)]
  omega

end Go.AM
