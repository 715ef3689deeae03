/- AM: the operations that look at no memory answer as the model's own. -/
import Derived.Test.YtgdcbjpookldoaaDoorAMRel
import Derived.Laws.StructEq
import Derived.Laws.Small
set_option linter.unusedSimpArgs false
set_option linter.unusedVariables false
namespace Go.AM
variable {P : Program} {μ : Map} {w : World}

theorem aEqFields_run (d : Nat) (xs ys : Array Value) : ∀ (fs : List Field) (r : Bool), aEqFields P xs ys fs = some r → (Op.eqFields (d + 1) xs ys fs).run P w = .ok r w := by
  intro fs
  induction fs with
  | nil => intro r h; simp [aEqFields] at h; subst h; simp [Op.eqFields]
  | cons f fs ih =>
    intro r h
    simp only [aEqFields] at h
    simp only [Op.eqFields]
    by_cases hn : f.name ≠ "_"
    · rw [if_pos hn] at h ⊢
      split at h
      · rename_i q k a k' b hu hx hy
        split at h
        · rename_i hk
          subst hk
          simp only [Sem.run_bind, part, isAgg, run_underlying hu, Result.andThen_ok, Sem.run_pure, hx, hy, Bool.false_eq_true, if_false]
          rw [run_equalIn_int (h := hu)]
          simp only [Result.andThen_ok]
          by_cases e : (a == b) = true
          · simp only [e, if_true] at h ⊢; simp only [Bool.not_true, Bool.false_eq_true, if_false]; exact ih r h
          · simp only [Bool.not_eq_true] at e
            simp only [e, Bool.false_eq_true, if_false] at h ⊢
            simp at h ⊢; exact h
        · simp at h
      · rename_i a b hu hx hy
        simp only [Sem.run_bind, part, isAgg, run_underlying hu, Result.andThen_ok, Sem.run_pure, hx, hy, Bool.false_eq_true, if_false]
        rw [run_equalIn_bool' (h := hu)]
        simp only [Result.andThen_ok]
        by_cases e : (a == b) = true
        · simp only [e, if_true] at h ⊢; simp only [Bool.not_true, Bool.false_eq_true, if_false]; exact ih r h
        · simp only [Bool.not_eq_true] at e
          simp only [e, Bool.false_eq_true, if_false] at h ⊢
          simp at h ⊢; exact h
      · rename_i a b hu hx hy
        simp only [Sem.run_bind, part, isAgg, run_underlying hu, Result.andThen_ok, Sem.run_pure, hx, hy, Bool.false_eq_true, if_false]
        rw [run_equalIn_string (h := hu)]
        simp only [Result.andThen_ok]
        by_cases e : (a.toList == b.toList) = true
        · simp only [e, if_true] at h ⊢; simp only [Bool.not_true, Bool.false_eq_true, if_false]; exact ih r h
        · simp only [Bool.not_eq_true] at e
          simp only [e, Bool.false_eq_true, if_false] at h ⊢
          simp at h ⊢; exact h
      · simp at h
    · rw [if_neg hn] at h ⊢; exact ih r h

theorem aEqStruct_run {t : TypeId} {xs ys : Array Value} {r : Bool} (h : aEqStruct P t xs ys = some r) (op : BinOp) (xo yo : Operand) :
    (eqGuard op t xo yo (.agg xs) (.agg ys)).run P w = .ok () w ∧ (Op.equal t (.agg xs) (.agg ys)).run P w = .ok r w := by
  unfold aEqStruct at h
  split at h
  · rename_i fs hu
    split at h
    · simp at h
    · rename_i hc
      simp only [Bool.or_eq_true, not_or, Bool.not_eq_true] at hc
      have hf : P.fieldsOf t = fs := by simp [Program.fieldsOf, hu]
      refine ⟨run_eqGuard_agg w op t xo yo xs ys hc.2, ?_⟩
      have := run_equalIn_struct (P := P) w 9999 t xs ys (by rw [hf]; exact hu) hc.1
      simp only [Op.equal, Op.maxDepth]
      rw [this, hf]
      exact aEqFields_run 9998 xs ys _ _ h
  · simp at h

theorem aEqFields_VR {xs ys xs' ys' : Array Value} (hx : VRs μ xs.toList xs'.toList) (hy : VRs μ ys.toList ys'.toList) : ∀ (fs : List Field) (r : Bool), aEqFields P xs ys fs = some r → aEqFields P xs' ys' fs = some r := by
  intro fs
  induction fs with
  | nil => intro r h; exact h
  | cons f fs ih =>
    intro r h
    simp only [aEqFields] at h ⊢
    by_cases hn : f.name ≠ "_"
    · rw [if_pos hn] at h ⊢
      have g : ∀ (zs zs' : Array Value), VRs μ zs.toList zs'.toList → ∀ v, zs[f.offset]? = some v → ∃ v', zs'[f.offset]? = some v' ∧ VR μ v v' := by
        intro zs zs' hz v hv
        obtain ⟨v', h1, h2⟩ := hz.get (i := f.offset) (x := v) (by simpa using hv)
        exact ⟨v', by simpa using h1, h2⟩
      split at h
      · rename_i q k a k' b hu h1 h2
        obtain ⟨a', ha, va⟩ := g _ _ hx _ h1
        obtain ⟨b', hb, vb⟩ := g _ _ hy _ h2
        cases va; cases vb
        rw [hu, ha, hb]
        dsimp only
        split at h
        · rename_i hk; rw [if_pos hk]; split at h
          · rename_i e; rw [if_pos e]; exact ih r h
          · rename_i e; rw [if_neg e]; exact h
        · simp at h
      · rename_i a b hu h1 h2
        obtain ⟨a', ha, va⟩ := g _ _ hx _ h1
        obtain ⟨b', hb, vb⟩ := g _ _ hy _ h2
        cases va; cases vb
        rw [hu, ha, hb]
        dsimp only
        split at h
        · rename_i e; rw [if_pos e]; exact ih r h
        · rename_i e; rw [if_neg e]; exact h
      · rename_i a b hu h1 h2
        obtain ⟨a', ha, va⟩ := g _ _ hx _ h1
        obtain ⟨b', hb, vb⟩ := g _ _ hy _ h2
        cases va; cases vb
        rw [hu, ha, hb]
        dsimp only
        split at h
        · rename_i e; rw [if_pos e]; exact ih r h
        · rename_i e; rw [if_neg e]; exact h
      · simp at h
    · rw [if_neg hn] at h ⊢; exact ih r h

theorem aEqStruct_VR {t : TypeId} {xs ys xs' ys' : Array Value} (hx : VRs μ xs.toList xs'.toList) (hy : VRs μ ys.toList ys'.toList) {r : Bool} (h : aEqStruct P t xs ys = some r) : aEqStruct P t xs' ys' = some r := by
  unfold aEqStruct at h ⊢
  split at h
  · split at h
    · simp at h
    · rename_i hc; rw [if_neg hc]; exact aEqFields_VR hx hy _ _ h
  · simp at h

theorem eq_run {t : TypeId} {x y : Value} {r : Bool} (h : ∀ d, (Op.equalIn (d + 1) t x y).run P w = .ok r w) (xo yo : Operand) (hg : (eqGuard .eql t xo yo x y).run P w = .ok () w)
    (hb : binOp .eql t x y = (do pure (.bool (← Op.equal t x y)))) : (do eqGuard .eql t xo yo x y; binOp .eql t x y : Sem Value).run P w = .ok (.bool r) w := by
  have := h 9999
  rw [hb]
  simp only [Sem.run_bind, hg, Result.andThen_ok, Op.equal, Op.maxDepth, this, Sem.run_pure]
theorem ne_run {t : TypeId} {x y : Value} {r : Bool} (h : ∀ d, (Op.equalIn (d + 1) t x y).run P w = .ok r w) (xo yo : Operand) (hg : (eqGuard .neq t xo yo x y).run P w = .ok () w)
    (hb : binOp .neq t x y = (do pure (.bool (!(← Op.equal t x y))))) : (do eqGuard .neq t xo yo x y; binOp .neq t x y : Sem Value).run P w = .ok (.bool (!r)) w := by
  have := h 9999
  rw [hb]
  simp only [Sem.run_bind, hg, Result.andThen_ok, Op.equal, Op.maxDepth, this, Sem.run_pure]
theorem eqIn_bool {t : TypeId} (hu : P.underlying t = some .bool) (a b : Bool) (d : Nat) : (Op.equalIn (d + 1) t (.bool a) (.bool b)).run P w = .ok (a == b) w := run_equalIn_bool w d t a b hu
theorem eqIn_ptr1 {t e : TypeId} (hu : P.underlying t = some (.pointer e)) (b : Option Addr) (d : Nat) : (Op.equalIn (d + 1) t (.pointer none) (.pointer b)).run P w = .ok b.isNone w := by
  simp [Op.equalIn, run_underlying hu]
theorem eqIn_ptr2 {t e : TypeId} (hu : P.underlying t = some (.pointer e)) (b : Option Addr) (d : Nat) : (Op.equalIn (d + 1) t (.pointer b) (.pointer none)).run P w = .ok b.isNone w := by
  cases b <;> simp [Op.equalIn, run_underlying hu]
theorem eqIn_sl1 {t e : TypeId} (hu : P.underlying t = some (.slice e)) (b : Option Addr) (l c l' c' d : Nat) : (Op.equalIn (d + 1) t (.slice none l c) (.slice b l' c')).run P w = .ok b.isNone w := by
  simp [Op.equalIn, run_underlying hu]
theorem eqIn_sl2 {t e : TypeId} (hu : P.underlying t = some (.slice e)) (b : Option Addr) (l c l' c' d : Nat) : (Op.equalIn (d + 1) t (.slice b l' c') (.slice none l c)).run P w = .ok b.isNone w := by
  cases b <;> simp [Op.equalIn, run_underlying hu]
theorem eqIn_map1 {t k e : TypeId} (hu : P.underlying t = some (.map k e)) (b : Option Nat) (d : Nat) : (Op.equalIn (d + 1) t (.map none) (.map b)).run P w = .ok b.isNone w := by
  simp [Op.equalIn, run_underlying hu]
theorem eqIn_map2 {t k e : TypeId} (hu : P.underlying t = some (.map k e)) (b : Option Nat) (d : Nat) : (Op.equalIn (d + 1) t (.map b) (.map none)).run P w = .ok b.isNone w := by
  cases b <;> simp [Op.equalIn, run_underlying hu]
theorem VR.ptr_none {x : Option Addr} {v : Value} (h : VR μ (.pointer x) v) : ∃ y, v = .pointer y ∧ y.isNone = x.isNone := by cases h <;> exact ⟨_, rfl, rfl⟩
theorem VR.sl_none {x : Option Addr} {l c : Nat} {v : Value} (h : VR μ (.slice x l c) v) : ∃ y l' c', v = .slice y l' c' ∧ y.isNone = x.isNone := by cases h <;> exact ⟨_, _, _, rfl, rfl⟩
theorem VR.map_none {x : Option Nat} {v : Value} (h : VR μ (.map x) v) : ∃ y, v = .map y ∧ y.isNone = x.isNone := by cases h <;> exact ⟨_, rfl, rfl⟩

set_option maxHeartbeats 1000000 in
theorem aBin_sound {op : BinOp} {t : TypeId} {x y x' y' v : Value} (h : aBin P op t x y = some v) (hx : VR μ x x') (hy : VR μ y y') (xo yo : Operand) :
    ∃ v', (do eqGuard op t xo yo x' y'; binOp op t x' y' : Sem Value).run P w = .ok v' w ∧ VR μ v v' := by
  unfold aBin at h
  split at h
  · rename_i k a k' b
    cases hx; cases hy
    refine ⟨v, ?_, ?_⟩
    · cases op <;> simp only at h <;> (repeat' split at h) <;> first
        | (cases h; done)
        | (rename_i hs; cases h; simp only [eqGuard, binOp, Op.shift]; rw [if_neg hs]; rfl)
        | (cases h; simp_all [eqGuard, binOp, Op.intArith, Op.intDiv, Op.intBits, Op.intCmp]; done)
    · cases op <;> simp only at h <;> (repeat' split at h) <;> first
        | (cases h; done)
        | (cases h; constructor)
  · rename_i a b
    cases hx; cases hy
    refine ⟨v, ?_, ?_⟩
    · cases op <;> simp only at h <;> (repeat' split at h) <;> first
        | (cases h; done)
        | (rename_i hs
           cases h
           have : ¬ (((a.size + b.size : Nat) : Int) > IntKind.i64.max) := by
             have e : IntKind.i64.max = 9223372036854775807 := by decide
             have e2 : roomy = 1099511627776 := by decide
             rw [e]; rw [e2] at hs; omega
           simp only [eqGuard, binOp, Op.stringOp]
           rw [if_neg this]
           rfl)
        | (cases h; simp_all [eqGuard, binOp, Op.stringOp]; done)
    · cases op <;> simp only at h <;> (repeat' split at h) <;> first
        | (cases h; done)
        | (cases h; constructor)
  · rename_i a b
    cases hx; cases hy
    split at h
    · rename_i hu; cases h
      exact ⟨_, eq_run (eqIn_bool hu a b) xo yo rfl rfl, .bool _⟩
    · rename_i hu; cases h
      exact ⟨_, ne_run (eqIn_bool hu a b) xo yo rfl rfl, .bool _⟩
    · simp at h
  · rename_i a
    obtain ⟨a', rfl, e⟩ := hx.ptr_none
    cases hy
    split at h
    · rename_i hu; cases h; rw [← e]
      exact ⟨_, eq_run (eqIn_ptr2 hu a') xo yo rfl rfl, .bool _⟩
    · rename_i hu; cases h; rw [← e]
      exact ⟨_, ne_run (eqIn_ptr2 hu a') xo yo rfl rfl, .bool _⟩
    · simp at h
  · rename_i a _
    obtain ⟨a', rfl, e⟩ := hy.ptr_none
    cases hx
    split at h
    · rename_i hu; cases h; rw [← e]
      exact ⟨_, eq_run (eqIn_ptr1 hu a') xo yo rfl rfl, .bool _⟩
    · rename_i hu; cases h; rw [← e]
      exact ⟨_, ne_run (eqIn_ptr1 hu a') xo yo rfl rfl, .bool _⟩
    · simp at h
  · obtain ⟨a', l', c', rfl, e⟩ := hx.sl_none
    cases hy
    split at h
    · rename_i hu; cases h; rw [← e]
      exact ⟨_, eq_run (eqIn_sl2 hu a' _ _ _ _) xo yo rfl rfl, .bool _⟩
    · rename_i hu; cases h; rw [← e]
      exact ⟨_, ne_run (eqIn_sl2 hu a' _ _ _ _) xo yo rfl rfl, .bool _⟩
    · simp at h
  · obtain ⟨a', l', c', rfl, e⟩ := hy.sl_none
    cases hx
    split at h
    · rename_i hu; cases h; rw [← e]
      exact ⟨_, eq_run (eqIn_sl1 hu a' _ _ _ _) xo yo rfl rfl, .bool _⟩
    · rename_i hu; cases h; rw [← e]
      exact ⟨_, ne_run (eqIn_sl1 hu a' _ _ _ _) xo yo rfl rfl, .bool _⟩
    · simp at h
  · obtain ⟨a', rfl, e⟩ := hx.map_none
    cases hy
    split at h
    · rename_i hu; cases h; rw [← e]
      exact ⟨_, eq_run (eqIn_map2 hu a') xo yo rfl rfl, .bool _⟩
    · rename_i hu; cases h; rw [← e]
      exact ⟨_, ne_run (eqIn_map2 hu a') xo yo rfl rfl, .bool _⟩
    · simp at h
  · obtain ⟨a', rfl, e⟩ := hy.map_none
    cases hx
    split at h
    · rename_i hu; cases h; rw [← e]
      exact ⟨_, eq_run (eqIn_map1 hu a') xo yo rfl rfl, .bool _⟩
    · rename_i hu; cases h; rw [← e]
      exact ⟨_, ne_run (eqIn_map1 hu a') xo yo rfl rfl, .bool _⟩
    · simp at h
  · rename_i a b
    cases hx with
    | agg _ a' hs ha =>
    cases hy with
    | agg _ b' hs' hb =>
    split at h
    · cases hr : aEqStruct P t a b with
      | none => rw [hr] at h; simp at h
      | some r =>
        rw [hr] at h; simp at h; subst h
        obtain ⟨g1, g2⟩ := aEqStruct_run (w := w) (aEqStruct_VR (VR.toArr hs ha) (VR.toArr hs' hb) hr) .eql xo yo
        refine ⟨.bool r, ?_, .bool _⟩
        have hb : binOp .eql t (.agg a') (.agg b') = (do pure (.bool (← Op.equal t (.agg a') (.agg b')))) := rfl
        rw [hb]; simp only [Sem.run_bind, g1, Result.andThen_ok, g2, Sem.run_pure]
    · cases hr : aEqStruct P t a b with
      | none => rw [hr] at h; simp at h
      | some r =>
        rw [hr] at h; simp at h; subst h
        obtain ⟨g1, g2⟩ := aEqStruct_run (w := w) (aEqStruct_VR (VR.toArr hs ha) (VR.toArr hs' hb) hr) .neq xo yo
        refine ⟨.bool (!r), ?_, .bool _⟩
        have hb : binOp .neq t (.agg a') (.agg b') = (do pure (.bool (!(← Op.equal t (.agg a') (.agg b'))))) := rfl
        rw [hb]; simp only [Sem.run_bind, g1, Result.andThen_ok, g2, Sem.run_pure]
    · simp at h
  · simp at h
end Go.AM
