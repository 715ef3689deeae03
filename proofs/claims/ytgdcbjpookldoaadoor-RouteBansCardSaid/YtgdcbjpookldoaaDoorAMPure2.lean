/- AM: the operations that look at no memory, the rest of them. -/
import Derived.Test.YtgdcbjpookldoaaDoorAMPure
import Derived.Laws.Slices
import Derived.Laws.Tables
import Derived.Laws.MakeOwn
import Derived.Great.BuildSlice
set_option linter.unusedSimpArgs false
set_option linter.unusedVariables false
namespace Go.AM
variable {P : Program} {μ : Map} {w : World}

theorem run_info {t : TypeId} {i : TypeInfo} (h : P.info? t = some i) : (typeInfo t).run P w = .ok i w := by simp [typeInfo, h]
theorem run_size {t : TypeId} {i : TypeInfo} (h : P.info? t = some i) : (sizeOf t).run P w = .ok i.size w := by simp [sizeOf, run_info h]
theorem run_zero {t : TypeId} {z : Value} (h : aZero P t = some z) : (zeroValue t).run P w = .ok z w := by
  unfold aZero at h
  cases hi : P.info? t with
  | none => rw [hi] at h; simp at h
  | some i => rw [hi] at h; simp at h; simp [zeroValue, run_info hi, h]
theorem run_agg {t : TypeId} {d : TypeDesc} (h : P.underlying t = some d) : (isAgg t).run P w = .ok (aIsAgg P t) w := by
  simp only [isAgg, aIsAgg, Sem.run_bind, run_underlying h, Result.andThen_ok, h]
  cases d <;> rfl
theorem cellsOf_info {t : TypeId} {i : TypeInfo} (h : P.info? t = some i) : P.cellsOf t = i.size := by simp [Program.cellsOf, h]

theorem aUn_sound {op : UnOp} {x x' v : Value} (h : aUn op x = some v) (hx : VR μ x x') : (Op.unary op x').run P w = .ok v w ∧ VR μ v v := by
  unfold aUn at h
  split at h
  · cases hx; cases h; exact ⟨by simp [Op.unary, Op.intArith], .int _ _⟩
  · cases hx; cases h; exact ⟨by simp [Op.unary], .bool _⟩
  · simp at h

theorem aConvert_sound {s d : TypeId} {x x' v : Value} (h : aConvert P s d x = some v) (hx : VR μ x x') : (convert s d x').run P w = .ok v w ∧ VR μ v v := by
  unfold aConvert at h
  split at h
  · rename_i hs k k' n _ hd
    cases hx; cases h
    exact ⟨by simp [convert, run_underlying (by assumption : P.underlying s = some _), run_underlying hd, Conv.intToInt], .int _ _⟩
  · rename_i ds s' hd
    cases hx; cases h
    refine ⟨?_, .string _⟩
    simp only [convert, Sem.run_bind, run_underlying (by assumption : P.underlying s = some _), run_underlying hd, Result.andThen_ok]
    cases ds <;> rfl
  · simp at h

theorem aPart_sound {t : TypeId} {cs cs' : Array Value} {off : Nat} {v : Value} (h : aPart P t cs off = some v) (hc : VRs μ cs.toList cs'.toList) :
    ∃ v', (part t cs' off).run P w = .ok v' w ∧ VR μ v v' := by
  unfold aPart at h
  cases hu : P.underlying t with
  | none => rw [hu] at h; simp at h
  | some d =>
    cases hi : P.info? t with
    | none => rw [hu, hi] at h; simp at h
    | some i =>
      rw [hu, hi] at h
      simp only [Option.bind_some] at h
      split at h
      · rename_i ha
        split at h
        · cases h
          refine ⟨.agg (cs'.extract off (off + i.size)), ?_, ?_⟩
          · simp only [part, Sem.run_bind, run_agg hu, Result.andThen_ok, ha, if_true, run_size hi, Sem.run_pure]
          · refine VR.agg' ?_
            simp only [Array.toList_extract]
            rw [List.extract_eq_take_drop, List.extract_eq_take_drop]
            exact (hc.drop _).take _
        · simp at h
      · rename_i ha
        obtain ⟨v', h1, h2⟩ := hc.get (i := off) (x := v) (by simpa using h)
        refine ⟨v', ?_, h2⟩
        simp only [part, Sem.run_bind, run_agg hu, Result.andThen_ok, ha, Bool.false_eq_true, if_false]
        have : cs'[off]? = some v' := by simpa using h1
        rw [this]; rfl

theorem aField_sound {t : TypeId} {x x' v : Value} {f : Nat} (h : aField P t x f = some v) (hx : VR μ x x') : ∃ v', (Instr.field t x' f).run P w = .ok v' w ∧ VR μ v v' := by
  unfold aField at h
  split at h
  · rename_i fields cs hu
    cases hx with
    | agg _ cs' hs hc =>
    cases hf : fields[f]? with
    | none => rw [hf] at h; simp at h
    | some fd =>
      rw [hf] at h
      obtain ⟨v', h1, h2⟩ := aPart_sound (w := w) h (VR.toArr hs hc)
      exact ⟨v', by simp only [Instr.field, Sem.run_bind, run_underlying hu, Result.andThen_ok, hf, asAgg, Sem.run_pure]; exact h1, h2⟩
  · simp at h

theorem aIndex_sound {t : TypeId} {x x' ix ix' v : Value} (h : aIndex P t x ix = some v) (hx : VR μ x x') (hi : VR μ ix ix') : ∃ v', (Instr.index t x' ix').run P w = .ok v' w ∧ VR μ v v' := by
  unfold aIndex at h
  split at h
  · rename_i k i
    cases hi
    split at h
    · rename_i len elem cs hu
      cases hx with
      | agg _ cs' hs hc =>
      cases hinf : P.info? elem with
      | none => rw [hinf] at h; simp at h
      | some inf =>
        rw [hinf] at h
        simp only [Option.bind_some] at h
        split at h
        · rename_i hb
          obtain ⟨v', h1, h2⟩ := aPart_sound (w := w) h (VR.toArr hs hc)
          exact ⟨v', by simp only [Instr.index, asIntOf, Sem.run_bind, Sem.run_pure, run_underlying hu, Result.andThen_ok]; rw [if_pos hb]; simp only [Sem.run_bind, run_size hinf, Result.andThen_ok]; exact h1, h2⟩
        · simp at h
    · rename_i s hu
      cases hx
      split at h
      · rename_i h0
        cases hb : s[i.toNat]? with
        | none => rw [hb] at h; simp at h
        | some b =>
          rw [hb] at h; simp at h; subst h
          exact ⟨_, by simp only [Instr.index, asIntOf, Sem.run_bind, Sem.run_pure, run_underlying hu, Result.andThen_ok]; rw [if_pos h0, hb]; rfl, .int _ _⟩
      · simp at h
    · simp at h
  · simp at h

theorem aExtract_sound {x x' v : Value} {i : Nat} (h : aExtract x i = some v) (hx : VR μ x x') : ∃ v', (Instr.extract x' i).run P w = .ok v' w ∧ VR μ v v' := by
  unfold aExtract at h
  split at h
  · cases hx with
    | tuple a a' hs ha =>
      obtain ⟨v', h1, h2⟩ := (VR.toArr hs ha).get (i := i) (x := v) (by simpa using h)
      have h1' : a'[i]? = some v' := by simpa using h1
      exact ⟨v', by simp [Instr.extract, h1'], h2⟩
  · simp at h

theorem aSliceBound_sound {x x' : Value} {y n : Nat} {code : BoundsCode} (h : aSliceBound x y = some n) (hx : VR μ x x') {y' : Nat} (hy : y ≤ y') :
    (Instr.sliceBound x' y' code).run P w = .ok n w ∧ n ≤ y := by
  unfold aSliceBound at h
  split at h
  · rename_i k i
    cases hx
    split at h
    · rename_i hb; simp at h; subst h
      refine ⟨?_, by omega⟩
      rw [run_sliceBound _ _ _ _ _ hb.1 (by omega)]
    · simp at h
  · simp at h

/-- Optional values. -/
def VRo (μ : Map) : Option Value → Option Value → Prop
  | none, none => True
  | some x, some y => VR μ x y
  | _, _ => False

theorem aSliceBounds_sound {len cap cap' : Nat} {lo hi mx lo' hi' mx' : Option Value} {l h m : Nat} (hh : aSliceBounds len cap lo hi mx = some (l, h, m)) (h1 : VRo μ lo lo') (h2 : VRo μ hi hi') (h3 : VRo μ mx mx')
    (hlen : len ≤ cap) (hcap : cap ≤ cap') (b : Bool) :
    ∃ m', (Instr.sliceBounds b len cap' lo' hi' mx').run P w = .ok (l, h, m') w ∧ l ≤ h ∧ h ≤ m ∧ m ≤ cap ∧ ((mx = none ∧ m = cap ∧ m' = cap') ∨ m' = m) := by
  unfold aSliceBounds at hh
  cases mx with
  | none =>
    cases mx' with
    | some _ => exact h3.elim
    | none =>
    simp only [Option.bind_some] at hh
    cases hi with
    | none =>
      cases hi' with
      | some _ => exact h2.elim
      | none =>
      simp only [Option.bind_some] at hh
      cases lo with
      | none =>
        cases lo' with
        | some _ => exact h1.elim
        | none =>
        simp at hh; obtain ⟨rfl, rfl, rfl⟩ := hh
        exact ⟨cap', by simp [Instr.sliceBounds], Nat.zero_le _, hlen, Nat.le_refl _, .inl ⟨rfl, rfl, rfl⟩⟩
      | some x =>
        cases lo' with
        | none => exact h1.elim
        | some x' =>
        cases hb : aSliceBound x len with
        | none => simp [hb] at hh
        | some n =>
          simp [hb] at hh; obtain ⟨rfl, rfl, rfl⟩ := hh
          have := aSliceBound_sound (P := P) (w := w) (code := .sliceB) hb h1 (Nat.le_refl _)
          exact ⟨cap', by simp [Instr.sliceBounds, this.1], this.2, hlen, Nat.le_refl _, .inl ⟨rfl, rfl, rfl⟩⟩
    | some y =>
      cases hi' with
      | none => exact h2.elim
      | some y' =>
      cases hy : aSliceBound y cap with
      | none => simp [hy] at hh
      | some hn =>
      have gy := aSliceBound_sound (P := P) (w := w) (code := if b then .sliceAcap else .sliceAlen) hy h2 hcap
      cases lo with
      | none =>
        cases lo' with
        | some _ => exact h1.elim
        | none =>
        simp [hy] at hh; obtain ⟨rfl, rfl, rfl⟩ := hh
        exact ⟨cap', by simp [Instr.sliceBounds, gy.1], Nat.zero_le _, gy.2, Nat.le_refl _, .inl ⟨rfl, rfl, rfl⟩⟩
      | some x =>
        cases lo' with
        | none => exact h1.elim
        | some x' =>
        cases hb : aSliceBound x hn with
        | none => simp [hy, hb] at hh
        | some n =>
          simp [hy, hb] at hh; obtain ⟨rfl, rfl, rfl⟩ := hh
          have := aSliceBound_sound (P := P) (w := w) (code := .sliceB) hb h1 (Nat.le_refl _)
          exact ⟨cap', by simp [Instr.sliceBounds, gy.1, this.1], this.2, gy.2, Nat.le_refl _, .inl ⟨rfl, rfl, rfl⟩⟩
  | some z =>
    cases mx' with
    | none => exact h3.elim
    | some z' =>
    cases hz : aSliceBound z cap with
    | none => simp [hz] at hh
    | some mn =>
    have gz := aSliceBound_sound (P := P) (w := w) (code := if b then .slice3Acap else .slice3Alen) hz h3 hcap
    cases hi with
    | none => simp [hz] at hh
    | some y =>
      cases hi' with
      | none => exact h2.elim
      | some y' =>
      cases hy : aSliceBound y mn with
      | none => simp [hz, hy] at hh
      | some hn =>
      have gy := aSliceBound_sound (P := P) (w := w) (code := .slice3B) hy h2 (Nat.le_refl _)
      cases lo with
      | none =>
        cases lo' with
        | some _ => exact h1.elim
        | none =>
        simp [hz, hy] at hh; obtain ⟨rfl, rfl, rfl⟩ := hh
        exact ⟨mn, by simp [Instr.sliceBounds, gz.1, gy.1], Nat.zero_le _, gy.2, gz.2, .inr rfl⟩
      | some x =>
        cases lo' with
        | none => exact h1.elim
        | some x' =>
        cases hb : aSliceBound x hn with
        | none => simp [hz, hy, hb] at hh
        | some n =>
          simp [hz, hy, hb] at hh; obtain ⟨rfl, rfl, rfl⟩ := hh
          have := aSliceBound_sound (P := P) (w := w) (code := .slice3C) hb h1 (Nat.le_refl _)
          exact ⟨mn, by simp [Instr.sliceBounds, gz.1, gy.1, this.1], this.2, gy.2, gz.2, .inr rfl⟩

theorem Addr_add (b o n : Nat) : (⟨b, o, none⟩ : Addr).add n = ⟨b, o + n, none⟩ := by unfold Addr.add; split <;> simp_all

/-- Slicing: the element's size must be the block's own ('esz'). -/
theorem aSlice_sound {t : TypeId} {x x' v : Value} {lo hi mx lo' hi' mx' : Option Value} (h : aSlice P t x lo hi mx = some v) (hx : VR μ x x') (h1 : VRo μ lo lo') (h2 : VRo μ hi hi') (h3 : VRo μ mx mx')
    (esz : ∀ e i id loc off len cap, P.underlying t = some (.slice e) → P.info? e = some i → x = .slice (some ⟨id, off, none⟩) len cap → μ id = some loc → loc.esize = i.size) :
    ∃ v', (Instr.sliceAt t x' lo' hi' mx').run P w = .ok v' w ∧ VR μ v v' := by
  unfold aSlice at h
  split at h
  · rename_i s hu
    cases hx
    split at h
    · simp at h
    · rename_i hm
      cases hb : aSliceBounds s.size s.size lo hi none with
      | none => simp [hb] at h
      | some r =>
        obtain ⟨l, hh, m⟩ := r
        simp [hb] at h; subst h
        obtain ⟨m', g1, _⟩ := aSliceBounds_sound (P := P) (w := w) (mx' := none) hb h1 h2 trivial (Nat.le_refl _) (Nat.le_refl _) false
        have hmx : mx' = none := by cases mx with | some _ => simp at hm | none => cases mx' with | none => rfl | some _ => exact h3.elim
        subst hmx
        refine ⟨.string (s.extract l hh), ?_, .string _⟩
        simp [Instr.sliceAt, Instr.slice, run_underlying hu, g1]
  · rename_i e a len cap hu
    cases hinf : P.info? e with
    | none => rw [hinf] at h; simp at h
    | some i =>
      rw [hinf] at h
      simp only [Option.bind_some] at h
      cases hb : aSliceBounds len cap lo hi mx with
      | none => simp [hb] at h
      | some r =>
        obtain ⟨l, hh, m⟩ := r
        simp only [hb, Option.bind_some] at h
        have run : ∀ (a' : Option Addr) (cap' m' : Nat), (Instr.sliceBounds true len cap' lo' hi' mx').run P w = .ok (l, hh, m') w →
            (Instr.sliceAt t (.slice a' len cap') lo' hi' mx').run P w = .ok (.slice (if m' = l then a' else a'.map (·.add (l * i.size))) (hh - l) (m' - l)) w := by
          intro a' cap' m' g
          simp [Instr.sliceAt, Instr.slice, run_underlying hu, g, run_size hinf]
        cases hx with
        | snil =>
          obtain ⟨m', g1, g2, g3, g4, g5⟩ := aSliceBounds_sound (P := P) (w := w) hb h1 h2 h3 (Nat.le_refl _) (Nat.le_refl _) true
          have hm0 : m = 0 := by omega
          have hm0' : m' = 0 := by rcases g5 with ⟨_, _, e⟩ | e <;> omega
          have hl0 : l = 0 := by omega
          have hh0 : hh = 0 := by omega
          rw [if_pos hm0] at h; cases h
          refine ⟨_, run none 0 m' g1, ?_⟩
          subst hm0' hl0 hh0; simp; exact .snil
        | slice id off len cap cap' loc hl hlen hcap hex hfit hfit' hmx =>
          obtain ⟨m', g1, g2, g3, g4, g5⟩ := aSliceBounds_sound (P := P) (w := w) hb h1 h2 h3 hlen hcap true
          cases h
          refine ⟨_, run _ cap' m' g1, ?_⟩
          have hes := esz e i id loc off len cap hu hinf rfl hl
          have hmm : m ≤ m' := by rcases g5 with ⟨_, a, b⟩ | e <;> omega
          have hmc : m' ≤ cap' := by rcases g5 with ⟨_, a, b⟩ | e <;> omega
          by_cases he : m' = l
          · rw [if_pos he]
            have e1 : hh - l = 0 := by omega
            have e2 : m - l = 0 := by omega
            have e3 : m' - l = 0 := by omega
            rw [e1, e2, e3]
            exact .slice0 id _ _ loc hl
          · rw [if_neg he]
            simp only [Option.map_some, Addr_add]
            have hlm : l ≤ m := by omega
            have k1 : l * i.size + (m - l) * i.size = m * i.size := by rw [← Nat.add_mul]; congr 1; omega
            have k2 : l * i.size + (m' - l) * i.size = m' * i.size := by rw [← Nat.add_mul]; congr 1; omega
            have k3 : m' * i.size ≤ cap' * i.size := Nat.mul_le_mul_right _ hmc
            have k4 : m * i.size ≤ cap * i.size := Nat.mul_le_mul_right _ g4
            rw [hes] at hfit hfit' hex
            rw [show loc.base + off + l * i.size = loc.base + (off + l * i.size) by omega]
            refine .slice id _ _ _ _ loc hl (by omega) (by omega) ?_ (by rw [hes]; omega) (by rw [hes]; omega) (by omega)
            rcases g5 with ⟨_, a, b⟩ | e
            · rcases hex with hex | ⟨ho, hex⟩
              · exact .inl (by omega)
              · refine .inr ⟨ho, ?_⟩
                have k5 : m * i.size = cap * i.size := by rw [a]
                rw [hes]; omega
            · exact .inl (by omega)
        | slice0 id off off' loc hl =>
          obtain ⟨m', g1, g2, g3, g4, g5⟩ := aSliceBounds_sound (P := P) (w := w) hb h1 h2 h3 (Nat.le_refl _) (Nat.le_refl _) true
          cases h
          refine ⟨_, run _ 0 m' g1, ?_⟩
          have hm0' : m' = 0 := by rcases g5 with ⟨_, _, e⟩ | e <;> omega
          have hl0 : l = 0 := by omega
          have hh0 : hh = 0 := by omega
          have hm0 : m = 0 := by omega
          subst hm0' hl0 hh0 hm0; simp; exact .slice0 id _ _ loc hl
  · simp at h

theorem fieldPlace_run {a : Addr} {f : Field} {i : TypeInfo} (hi : P.info? f.type = some i) (hz : i.size ≠ 0) : (fieldPlace a f).run P w = .ok (a.add f.offset) w := by
  simp [fieldPlace, run_size hi, hz]

theorem aFieldAddr_sound {s : TypeId} {x x' v : Value} {f : Nat} (h : aFieldAddr P s x f = some v) (hx : VR μ x x') : ∃ v', (Instr.fieldAt s x' f).run P w = .ok v' w ∧ VR μ v v' := by
  unfold aFieldAddr at h
  split at h
  · rename_i fields id off hu
    cases hx with
    | ptr _ _ loc hl =>
    cases hf : fields[f]? with
    | none => rw [hf] at h; simp at h
    | some fd =>
      rw [hf] at h
      simp only [Option.bind_some] at h
      cases hi : P.info? fd.type with
      | none => rw [hi] at h; simp at h
      | some i =>
        rw [hi] at h
        simp only [Option.bind_some] at h
        split at h
        · simp at h
        · rename_i hz; cases h
          refine ⟨.pointer (some ⟨loc.blk, loc.base + (off + fd.offset), none⟩), ?_, .ptr _ _ _ hl⟩
          simp only [Instr.fieldAt, Sem.run_bind, run_underlying hu, Result.andThen_ok, hf, Instr.sureAddr, Sem.run_pure, fieldPlace_run hi hz, Addr_add]
          rw [Nat.add_assoc]
  · simp at h

theorem aIndexAddr_sound {t : TypeId} {x x' ix ix' v : Value} (h : aIndexAddr P t x ix = some v) (hx : VR μ x x') (hi : VR μ ix ix') : ∃ v', (Instr.indexAt t x' ix').run P w = .ok v' w ∧ VR μ v v' := by
  unfold aIndexAddr at h
  split at h
  · rename_i k i
    cases hi
    split at h
    · rename_i e id off len cap hu
      cases hinf : P.info? e with
      | none => rw [hinf] at h; simp at h
      | some inf =>
        rw [hinf] at h
        simp only [Option.bind_some] at h
        split at h
        · rename_i hb
          obtain ⟨hb1, hb2, hb3⟩ := hb
          cases h
          cases hx with
          | slice id off len cap cap' loc hl _ _ _ _ _ _ =>
            refine ⟨.pointer (some ⟨loc.blk, loc.base + (off + i.toNat * inf.size), none⟩), ?_, .ptr _ _ _ hl⟩
            simp only [Instr.indexAt, asIntOf, Sem.run_bind, Sem.run_pure, run_underlying hu, Result.andThen_ok]
            rw [if_pos ⟨hb1, hb2⟩]
            simp only [Sem.run_bind, run_size hinf, Result.andThen_ok, Sem.run_pure, Addr_add]
            rw [Nat.add_assoc]
          | slice0 => exact absurd rfl hb3
        · simp at h
    · rename_i len e id off hu
      cases hinf : P.info? e with
      | none => rw [hinf] at h; simp at h
      | some inf =>
        rw [hinf] at h
        simp only [Option.bind_some] at h
        split at h
        · rename_i hb
          cases h
          cases hx with
          | ptr _ _ loc hl =>
            refine ⟨.pointer (some ⟨loc.blk, loc.base + (off + i.toNat * inf.size), none⟩), ?_, .ptr _ _ _ hl⟩
            simp only [Instr.indexAt, asIntOf, Sem.run_bind, Sem.run_pure, run_underlying hu, Result.andThen_ok, Instr.sureAddr]
            rw [if_pos hb]
            simp only [Sem.run_bind, run_size hinf, Result.andThen_ok, Sem.run_pure, Addr_add]
            rw [Nat.add_assoc]
        · simp at h
    · simp at h
  · simp at h

theorem aFold_sound {f : Value → Value → Option Value} {g : Value → Value → Sem Value} (hf : ∀ {x y x' y' v : Value}, f x y = some v → VR μ x x' → VR μ y y' → ∃ v', (g x' y').run P w = .ok v' w ∧ VR μ v v') :
    ∀ {l l' : List Value} {x x' v : Value}, aFold f x l = some v → VR μ x x' → VRs μ l l' → ∃ v', (List.foldlM g x' l').run P w = .ok v' w ∧ VR μ v v' := by
  intro l
  induction l with
  | nil =>
    intro l' x x' v h hx hl
    rw [hl.nil_inv]
    simp [aFold] at h; subst h
    exact ⟨x', rfl, hx⟩
  | cons y l ih =>
    intro l' x x' v h hx hl
    obtain ⟨y', m, rfl, hy, hl'⟩ := hl.cons_inv
    simp only [aFold] at h
    cases hz : f x y with
    | none => rw [hz] at h; simp at h
    | some z =>
      rw [hz] at h
      obtain ⟨z', h1, h2⟩ := hf hz hx hy
      obtain ⟨v', h3, h4⟩ := ih h h2 hl'
      exact ⟨v', by simp only [List.foldlM_cons, Sem.run_bind, h1, Result.andThen_ok, h3], h4⟩
theorem aMax_sound {x y x' y' v : Value} (h : aMax x y = some v) (hx : VR μ x x') (hy : VR μ y y') : ∃ v', (Builtin.max2 x' y').run P w = .ok v' w ∧ VR μ v v' := by
  unfold aMax at h
  split at h
  · cases hx; cases hy; cases h; exact ⟨_, rfl, .int _ _⟩
  · simp at h
theorem aMin_sound {x y x' y' v : Value} (h : aMin x y = some v) (hx : VR μ x x') (hy : VR μ y y') : ∃ v', (Builtin.min2 x' y').run P w = .ok v' w ∧ VR μ v v' := by
  unfold aMin at h
  split at h
  · cases hx; cases hy; cases h; exact ⟨_, rfl, .int _ _⟩
  · simp at h

/-! ### Literals -/

theorem foldSet {off : Nat} : ∀ {l l' : List Value} (k : Nat) {cs : List Value} {cs' : Array Value}, VRs μ l l' → VRs μ cs cs'.toList →
    VRs μ ((l.zipIdx k).foldl (fun cs (c, j) => cs.set (off + j) c) cs) (((l'.zipIdx k).foldl (fun (cs : Array Value) (c, j) => cs.setIfInBounds (off + j) c) cs').toList) := by
  intro l
  induction l with
  | nil => intro l' k cs cs' h hc; rw [h.nil_inv]; exact hc
  | cons x l ih =>
    intro l' k cs cs' h hc
    obtain ⟨x', m, rfl, hx, hl⟩ := h.cons_inv
    simp only [List.zipIdx_cons, List.foldl_cons]
    exact ih (k + 1) hl (by rw [Array.toList_setIfInBounds]; exact hc.set _ hx)

/-- Parts: the same places, values that stand for one another. -/
def PRs (μ : Map) : List (Nat × Value) → List (Nat × Value) → Prop
  | [], [] => True
  | (i, v) :: l, (i', v') :: l' => i = i' ∧ VR μ v v' ∧ PRs μ l l'
  | _, _ => False

theorem fill_sound {place : Nat → Option (Nat × Nat)} : ∀ {parts parts' : List (Nat × Value)} {cells : List Value} {cells' : Array Value} {r : List Value}, fillA place cells parts = some r →
    PRs μ parts parts' → VRs μ cells cells'.toList → ∃ r', Instr.fill place cells' parts' = some r' ∧ VRs μ r r'.toList := by
  intro parts
  induction parts with
  | nil =>
    intro parts' cells cells' r h hp hc
    cases parts' with
    | cons _ _ => exact hp.elim
    | nil => simp [fillA] at h; subst h; exact ⟨cells', rfl, hc⟩
  | cons p parts ih =>
    intro parts' cells cells' r h hp hc
    obtain ⟨i, v⟩ := p
    cases parts' with
    | nil => exact hp.elim
    | cons p' parts' =>
      obtain ⟨i', v'⟩ := p'
      obtain ⟨rfl, hv, hp⟩ := hp
      simp only [fillA] at h
      simp only [Instr.fill]
      cases hpl : place i with
      | none => rw [hpl] at h; simp at h
      | some os =>
        obtain ⟨off, size⟩ := os
        rw [hpl] at h
        simp only at h ⊢
        split at h
        · simp at h
        · rename_i hs
          have hlen : cells.length = cells'.size := by have := hc.1; simpa using this
          rw [hv.cells_size, hlen] at hs
          rw [if_neg hs]
          refine ih h hp ?_
          have := foldSet (off := off) 0 hv.cells hc
          rw [← Array.foldl_toList, Array.toList_zipIdx]
          exact this

theorem repeated_length (z : List Value) (n : Nat) : (repeated z n).length = n * z.length := by
  induction n with
  | zero => simp [repeated]
  | succ n ih => simp [repeated, ih, Nat.add_mul]; omega

theorem repeated_get (z : List Value) : ∀ (n i : Nat), i < n * z.length → (repeated z n)[i]? = z[i % z.length]? := by
  intro n
  induction n with
  | zero => intro i h; simp at h
  | succ n ih =>
    intro i h
    simp only [repeated, List.getElem?_append]
    split
    · rename_i hlt; rw [Nat.mod_eq_of_lt hlt]
    · rename_i hge
      rw [ih (i - z.length) (by rw [Nat.add_mul] at h; omega)]
      have hz : 0 < z.length := by
        rcases Nat.eq_zero_or_pos z.length with e | e
        · rw [e] at h; simp at h
        · exact e
      congr 1
      rw [← Nat.mod_eq_sub_mod (by omega)]

theorem repeated_eq {z : Array Value} (n : Nat) (hz : 0 < z.size ∨ n = 0) : repeated z.toList n = (madeCells z (n * z.size)).toList := by
  apply List.ext_getElem?
  intro i
  by_cases h : i < n * z.size
  · rw [repeated_get _ _ _ (by simpa using h)]
    have hz : 0 < z.size := by
      rcases hz with e | e
      · exact e
      · subst e; simp at h
    have hm : i % z.size < z.size := Nat.mod_lt _ hz
    simp only [madeCells, Array.toList_map, List.getElem?_map, Array.toList_range]
    rw [List.getElem?_range h]
    simp [hm]
  · rw [List.getElem?_eq_none (by rw [repeated_length]; simpa using h), List.getElem?_eq_none (by simp [madeCells]; omega)]

theorem all_repeated {p : Value → Bool} {z : List Value} (h : z.all p = true) (n : Nat) : (repeated z n).all p = true := by
  induction n with
  | zero => rfl
  | succ n ih => simp only [repeated, List.all_append, h, ih, Bool.and_self]

theorem places_run {fs : List Field} {pl : List (Nat × Nat)} (h : placesA P fs = some pl) : fs.mapM (fun f => (P.info? f.type).map fun i => (f.offset, i.size)) = some pl := by
  induction fs generalizing pl with
  | nil => simp [placesA] at h; subst h; rfl
  | cons f fs ih =>
    simp only [placesA] at h
    cases hi : P.info? f.type with
    | none => rw [hi] at h; simp at h
    | some i =>
      rw [hi] at h
      simp only [Option.bind_some] at h
      cases hr : placesA P fs with
      | none => rw [hr] at h; simp at h
      | some l =>
        rw [hr] at h; simp at h; subst h
        simp [List.mapM_cons, hi, ih hr]

theorem aBuild_sound {t : TypeId} {parts : List (Nat × Value)} {parts' : Array (Nat × Value)} {v : Value} (h : aBuild P t parts = some v) (hp : PRs μ parts parts'.toList) :
    ∃ v', (Instr.build t parts').run P w = .ok v' w ∧ VR μ v v' := by
  unfold aBuild at h
  cases hz : aZero P t with
  | none => rw [hz] at h; simp at h
  | some z =>
    rw [hz] at h
    simp only [Option.bind_some] at h
    unfold aZero at hz
    cases hit : P.info? t with
    | none => rw [hit] at hz; simp at hz
    | some it =>
    rw [hit] at hz
    simp only [Option.bind_some] at hz
    split at h
    · simp at h
    · rename_i hpl
      have hzr : VRs μ z.cells.toList z.cells.toList := VRs.plain (by simpa using hpl)
      split at h
      · rename_i fields hu
        cases hpl : placesA P fields.toList with
        | none => rw [hpl] at h; simp at h
        | some pl =>
          rw [hpl] at h
          simp only [Option.bind_some] at h
          cases hf : fillA (pl[·]?) z.cells.toList parts with
          | none => rw [hf] at h; simp at h
          | some r =>
            rw [hf] at h; simp at h; subst h
            obtain ⟨r', h1, h2⟩ := fill_sound hf hp hzr
            refine ⟨.agg r', run_build w t parts' r' ?_, VR.agg' (by simpa using h2)⟩
            simp only [Program.built, hit, hu, hz, places_run hpl]
            simpa using h1
      · rename_i n e hu
        cases hie : P.info? e with
        | none => rw [hie] at h; simp at h
        | some ie =>
          rw [hie] at h
          simp only [Option.bind_some] at h
          cases hf : fillA (fun k => some (k * ie.size, ie.size)) z.cells.toList parts with
          | none => rw [hf] at h; simp at h
          | some r =>
            rw [hf] at h; simp at h; subst h
            obtain ⟨r', h1, h2⟩ := fill_sound hf hp hzr
            refine ⟨.agg r', run_build w t parts' r' ?_, VR.agg' (by simpa using h2)⟩
            simp only [Program.built, hit, hu, hz, hie]
            exact h1
      · simp at h

end Go.AM
