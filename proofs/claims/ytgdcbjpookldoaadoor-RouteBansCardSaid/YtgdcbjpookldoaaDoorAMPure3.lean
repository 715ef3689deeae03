/- AM: the operations that look at no memory, all together. -/
import Derived.Test.YtgdcbjpookldoaaDoorAMPure2
set_option linter.unusedSimpArgs false
set_option linter.unusedVariables false
namespace Go.AM
variable {P : Program} {μ : Map} {w : World}

/-- What an operation that looks at no memory leaves. -/
def PureOk (P : Program) (μ : Map) (next : Nat) (w : World) (v : Value) (ob : Option AObj) (r : Result Next) : Prop :=
  match ob with
  | none => ∃ v', r = .ok (.value v') w ∧ VR μ v v'
  | some obj => ∃ v' O loc, r = .ok (.value v') (w.alloc O) ∧ (loc.blk = w.heap.size ∧ loc.ro = false) ∧ (∀ r, obj ≠ .loop r) ∧ (∀ C e fr, O = .cells C e fr → fr = (0, 0)) ∧
      ∀ μ', μ.le μ' → μ' next = some loc → VR μ' v v' ∧ OR P μ' loc obj O

theorem VRs.map {μ : Map} {ρ ρ' : Operand → Value} {l : List Operand} (h : ∀ x ∈ l, VR μ (ρ x) (ρ' x)) : VRs μ (l.map ρ) (l.map ρ') := by
  induction l with
  | nil => exact VRs.nil μ
  | cons x l ih => exact VRs.cons (h x (by simp)) (ih fun y hy => h y (by simp [hy]))

theorem PRs.map {μ : Map} {ρ ρ' : Operand → Value} {l : List (Nat × Operand)} (h : ∀ x ∈ l.map (·.2), VR μ (ρ x) (ρ' x)) : PRs μ (l.map fun (i, x) => (i, ρ x)) (l.map fun (i, x) => (i, ρ' x)) := by
  induction l with
  | nil => trivial
  | cons x l ih =>
    obtain ⟨i, x⟩ := x
    exact ⟨rfl, h x (by simp), ih fun y hy => h y (by simp only [List.map_cons]; exact List.mem_cons_of_mem _ hy)⟩

theorem VR.arr {μ : Map} {ρ ρ' : Operand → Value} {a : Array Operand} (h : ∀ x ∈ a.toList, VR μ (ρ x) (ρ' x)) : VRs μ (a.map ρ).toList (a.map ρ').toList := by
  rw [Array.toList_map, Array.toList_map]; exact VRs.map h

theorem foldSet_length {off : Nat} : ∀ (l : List (Value × Nat)) (cs : List Value), (l.foldl (fun cs (c, j) => cs.set (off + j) c) cs).length = cs.length := by
  intro l
  induction l with
  | nil => intro cs; rfl
  | cons x l ih => intro cs; simp only [List.foldl_cons]; rw [ih]; simp
theorem fillA_length {place : Nat → Option (Nat × Nat)} : ∀ {parts : List (Nat × Value)} {cells r : List Value}, fillA place cells parts = some r → r.length = cells.length := by
  intro parts
  induction parts with
  | nil => intro cells r h; simp [fillA] at h; rw [h]
  | cons p parts ih =>
    intro cells r h
    obtain ⟨i, v⟩ := p
    simp only [fillA] at h
    split at h
    · simp at h
    · split at h
      · simp at h
      · rw [ih h, foldSet_length]

/-- A new row of cells. -/
theorem OR_new {c : List Value} {C : Array Value} {e : TypeId} {b : Bool} {μ' : Map} {blk : Nat} (hc : VRs μ' c C.toList) (h1 : c.all (·.oneCell') = true) :
    OR P μ' ⟨blk, 0, c.length, c.length, P.cellsOf e, b, false⟩ (.cells c e b) (.cells C e (0, 0)) ∧ VRs μ' c C.toList := by
  refine ⟨⟨.inr rfl, rfl, rfl, rfl, ?_, by simp, ?_, h1, .inr (Melted.all fun i hh => by simp at hh)⟩, hc⟩
  · have := hc.1; simpa using this.symm
  · simp only [List.drop_zero]
    rw [List.take_of_length_le (by have := hc.1; omega)]
    exact hc

theorem ptr_new {next : Nat} {μ' : Map} {loc : Loc} (h : μ' next = some loc) (hb : loc.base = 0) : VR μ' (ptrTo next 0) (.pointer (some ⟨loc.blk, 0, none⟩)) := by
  have := VR.ptr (μ := μ') next 0 loc h
  rw [hb] at this
  exact this

set_option maxHeartbeats 4000000 in
theorem pure_sound (o : Oper) {ρ ρ' : Operand → Value} {next : Nat} {v : Value} {ob : Option AObj} (h : aPure P ρ o.op next = some (v, ob)) (hρ : ∀ x ∈ o.op.operands.toList, VR μ (ρ x) (ρ' x)) :
    PureOk P μ next w v ob ((execOp ρ' o).run P w) := by
  unfold aPure at h
  split at h
  · rename_i x ho
    cases h
    exact ⟨ρ' x, by simp [execOp, ho], hρ x (by rw [ho]; simp [Op.operands])⟩
  · rename_i x ho
    cases h
    exact ⟨ρ' x, by simp [execOp, ho], hρ x (by rw [ho]; simp [Op.operands])⟩
  · rename_i c a b ho
    have hc := hρ c (by rw [ho]; simp [Op.operands])
    have ha := hρ a (by rw [ho]; simp [Op.operands])
    have hb := hρ b (by rw [ho]; simp [Op.operands])
    split at h
    · rename_i t hct
      rw [hct] at hc
      generalize hcv : ρ' c = cv at hc
      cases hc
      cases h
      refine ⟨if t then ρ' a else ρ' b, by simp [execOp, ho, hcv, asBool], ?_⟩
      cases t <;> simp [ha, hb]
    · simp at h
  · rename_i e ho
    cases hz : aZero P e with
    | none => rw [hz] at h; simp at h
    | some z =>
      rw [hz] at h
      simp only [Option.bind_some] at h
      split at h
      · rename_i hpl
        cases h
        refine ⟨.pointer (some ⟨w.heap.size, 0, none⟩), .cells z.cells e, ⟨w.heap.size, 0, z.cells.toList.length, z.cells.toList.length, P.cellsOf e, false, false⟩, ?_, ⟨rfl, rfl⟩, ?_, ?_, fun μ' _ hn => ⟨ptr_new hn rfl, (OR_new (VRs.plain hpl) (all_oneCell_plain hpl)).1⟩⟩
        · simp [execOp, ho, Instr.alloc, run_zero hz, newVar, newRow]
        · intro r hr; cases hr
        · intro C e fr hh; cases hh; rfl
      · simp at h
  · rename_i e x ho
    have hx := hρ x (by rw [ho]; simp [Op.operands])
    split at h
    · rename_i hone
      cases h
      refine ⟨.pointer (some ⟨w.heap.size, 0, none⟩), .cells (ρ' x).cells e, ⟨w.heap.size, 0, (ρ x).cells.toList.length, (ρ x).cells.toList.length, P.cellsOf e, false, false⟩, ?_, ⟨rfl, rfl⟩, ?_, ?_,
        fun μ' hle hn => ⟨ptr_new hn rfl, (OR_new (hx.cells.mono hle) hone).1⟩⟩
      · simp [execOp, ho, Instr.box, newVar, newRow]
      · intro r hr; cases hr
      · intro C e fr hh; cases hh; rfl
    · simp at h
  · rename_i t parts ho
    cases hb : aBuild P t (parts.toList.map fun (i, x) => (i, ρ x)) with
    | none => rw [hb] at h; simp at h
    | some r =>
      rw [hb] at h; simp at h; obtain ⟨rfl, rfl⟩ := h
      obtain ⟨v', h1, h2⟩ := aBuild_sound (w := w) (parts' := parts.map fun (i, x) => (i, ρ' x)) hb (by
        rw [Array.toList_map]
        exact PRs.map fun x hx => hρ x (by rw [ho]; simpa [Op.operands] using hx))
      exact ⟨v', by simp [execOp, ho, h1], h2⟩
  · rename_i t len parts ho
    split at h
    · rename_i e hu
      cases hie : P.info? e with
      | none => rw [hie] at h; simp at h
      | some ie =>
        rw [hie] at h
        simp only [Option.bind_some] at h
        split at h
        · simp at h
        · rename_i hsm
          simp only [not_or] at hsm
          have hparts : ∀ x ∈ (parts.toList.map (·.2)), VR μ (ρ x) (ρ' x) := fun x hx => hρ x (by rw [ho]; simpa [Op.operands] using hx)
          by_cases hl : len = 0
          · subst hl
            simp only [if_true, Option.bind_some] at h
            rw [if_neg (by simp)] at h
            simp only [repeated] at h
            cases hf : fillA (fun k => some (k * ie.size, ie.size)) [] (parts.toList.map fun (j, x) => (j, ρ x)) with
            | none => simp only [repeated] at hf; rw [hf] at h; simp at h
            | some cs =>
              simp only [repeated] at hf
              rw [hf] at h
              simp only [Option.bind_some] at h
              split at h
              · rename_i hone
                cases h
                obtain ⟨r', h1, h2⟩ := fill_sound (cells' := #[]) hf (PRs.map hparts) (VRs.nil μ)
                refine ⟨.slice (some ⟨w.heap.size, 0, none⟩) 0 0, .cells r' e, ⟨w.heap.size, 0, cs.length, cs.length, P.cellsOf e, false, false⟩, ?_, ⟨rfl, rfl⟩, ?_, ?_, fun μ' hle hn => ⟨.slice0 next 0 _ _ hn, (OR_new (h2.mono hle) hone).1⟩⟩
                · have e0 : (parts.map fun (i, x) => (i, ρ' x)).toList = parts.toList.map fun (i, x) => (i, ρ' x) := Array.toList_map
                  simp only [execOp, ho, Instr.buildSlice, run_underlying hu, run_size hie, newRow, Sem.run_bind, Result.andThen_ok, Nat.zero_mul, if_true, Sem.run_pure, Array.range_zero', Array.map_empty, e0, h1, run_newObj, World.alloc_eq]
                  rfl
                · intro r hr; cases hr
                · intro C e fr hh; cases hh; rfl
              · simp at h
          · simp only [if_neg hl] at h
            cases hz : ie.zero with
            | none => rw [hz] at h; simp at h
            | some z =>
              rw [hz] at h
              simp only [Option.bind_some] at h
              split at h
              · simp at h
              · rename_i hzs
                simp only [not_and, not_or, Decidable.not_not] at hzs
                obtain ⟨hzs1, hzs2⟩ := hzs hl
                have hpl : z.cells.toList.all plainV = true := by simpa using hzs2
                cases hf : fillA (fun k => some (k * ie.size, ie.size)) (repeated z.cells.toList len) (parts.toList.map fun (j, x) => (j, ρ x)) with
                | none => rw [hf] at h; simp at h
                | some cs =>
                  rw [hf] at h
                  simp only [Option.bind_some] at h
                  split at h
                  · rename_i hone
                    cases h
                    have hpos : 0 < z.cells.size := by rw [hzs1]; omega
                    have hrep := repeated_eq (z := z.cells) len (.inl hpos)
                    obtain ⟨r', h1, h2⟩ := fill_sound (cells' := madeCells z.cells (len * z.cells.size)) hf (PRs.map hparts) (by rw [← hrep]; exact VRs.plain (all_repeated hpl _))
                    have hcl : cs.length = len * ie.size := by rw [fillA_length hf, repeated_length]; simp [hzs1]
                    refine ⟨.slice (some ⟨w.heap.size, 0, none⟩) len len, .cells r' e, ⟨w.heap.size, 0, cs.length, cs.length, P.cellsOf e, false, false⟩, ?_, ⟨rfl, rfl⟩, ?_, ?_, fun μ' hle hn => ⟨?_, (OR_new (h2.mono hle) hone).1⟩⟩
                    · have := run_buildSlice w t e len (parts.map fun (i, x) => (i, ρ' x)) r' ie z hu hie hz (by omega) (by
                        have : 0 < len * ie.size := Nat.mul_pos (by omega) (by omega)
                        omega) (by rw [hzs1] at h1; rw [Array.toList_map]; exact h1)
                      simp [execOp, ho, this]
                    · intro r hr; cases hr
                    · intro C e fr hh; cases hh; rfl
                    · have := VR.slice (μ := μ') next 0 len len len _ hn (Nat.le_refl _) (Nat.le_refl _) (.inl rfl) (by simp [cellsOf_info hie, hcl]) (by simp [cellsOf_info hie, hcl]) (by have := Nat.le_mul_of_pos_right len (show 0 < ie.size by omega); omega)
                      simpa [sliceTo] using this
                  · simp at h
    · simp at h
  · rename_i x ho
    have hx := hρ x (by rw [ho]; simp [Op.operands])
    split at h
    · rename_i a hxa
      rw [hxa] at hx
      generalize hxv : ρ' x = xv at hx
      cases h
      cases hx with
      | ptr id off loc hl => exact ⟨.pointer (some ⟨loc.blk, loc.base + off, none⟩), by simp [execOp, ho, hxv], .ptr _ _ _ hl⟩
    · simp at h
  · rename_i op t x y yt ho
    have hx := hρ x (by rw [ho]; simp [Op.operands])
    have hy := hρ y (by rw [ho]; simp [Op.operands])
    cases hb : aBin P op t (ρ x) (ρ y) with
    | none => rw [hb] at h; simp at h
    | some r =>
      rw [hb] at h; simp at h; obtain ⟨rfl, rfl⟩ := h
      obtain ⟨v', h1, h2⟩ := aBin_sound (w := w) hb hx hy x y
      refine ⟨v', ?_, h2⟩
      simp only [Sem.run_bind] at h1
      simp only [execOp, ho, Sem.run_bind, h1, Result.andThen_ok, Sem.run_pure]
  · rename_i op t x ho
    have hx := hρ x (by rw [ho]; simp [Op.operands])
    cases hb : aUn op (ρ x) with
    | none => rw [hb] at h; simp at h
    | some r =>
      rw [hb] at h; simp at h; obtain ⟨rfl, rfl⟩ := h
      obtain ⟨h1, h2⟩ := aUn_sound (P := P) (w := w) hb hx
      exact ⟨_, by simp [execOp, ho, h1], h2⟩
  · rename_i s d x ho
    have hx := hρ x (by rw [ho]; simp [Op.operands])
    cases hb : aConvert P s d (ρ x) with
    | none => rw [hb] at h; simp at h
    | some r =>
      rw [hb] at h; simp at h; obtain ⟨rfl, rfl⟩ := h
      obtain ⟨h1, h2⟩ := aConvert_sound (w := w) hb hx
      exact ⟨_, by simp [execOp, ho, h1], h2⟩
  · rename_i fn first cap ho
    have hf : ∀ x ∈ first.toList, VR μ (ρ x) (ρ' x) := fun x hx => hρ x (by rw [ho]; simp only [Op.operands, Array.toList_append, List.mem_append]; exact .inl hx)
    have hc : ∀ x ∈ cap.toList, VR μ (ρ x) (ρ' x) := fun x hx => hρ x (by rw [ho]; simp only [Op.operands, Array.toList_append, List.mem_append]; exact .inr hx)
    split at h
    · rename_i f
      cases h
      refine ⟨.func (.func f) (first.map ρ') (cap.map ρ'), by simp [execOp, ho, Instr.makeFunc], ?_⟩
      exact .func f _ _ _ _ (VR.ofArr (VR.arr hf)).1 (VR.ofArr (VR.arr hf)).2 (VR.ofArr (VR.arr hc)).1 (VR.ofArr (VR.arr hc)).2
    · simp at h
  · rename_i t r ho
    have mk : ∀ (x : Option Value), (Instr.makeMap t x).run P w = .ok (.map (some w.heap.size)) (w.alloc (.map #[] 0)) → r.map ρ' = x → PureOk P μ next w (.map (some next)) (some (.map [])) ((execOp ρ' o).run P w) := by
      intro x hr hx
      refine ⟨.map (some w.heap.size), .map #[] 0, ⟨w.heap.size, 0, 0, 0, 0, false, false⟩, ?_, ⟨rfl, rfl⟩, ?_, ?_, fun μ' hle hn => ⟨.map next _ hn, MR.nil _ 0⟩⟩
      · simp only [execOp, ho, hx, Sem.run_bind, hr, Result.andThen_ok, Sem.run_pure]
      · intro r hr; cases hr
      · intro C e fr hh; cases hh
    split at h
    · cases h
      exact mk none (by simp [Instr.makeMap]) rfl
    · rename_i x
      have hx := hρ x (by rw [ho]; simp [Op.operands])
      split at h
      · rename_i kt et k n hu hxa
        rw [hxa] at hx
        generalize hxv : ρ' x = xv at hx
        cases hx
        cases h
        exact mk (some (.int k n)) (by simp [Instr.makeMap, run_underlying hu, asInt, asIntOf]) (by simp [hxv])
      · simp at h
  · rename_i t l c ho
    have hl := hρ l (by rw [ho]; simp [Op.operands])
    have hc := hρ c (by rw [ho]; simp [Op.operands])
    split at h
    · rename_i e kl ln kc cn hu hla hca
      rw [hla] at hl; rw [hca] at hc
      generalize hlv : ρ' l = lv at hl
      generalize hcv : ρ' c = cv at hc
      cases hl; cases hc
      cases hie : P.info? e with
      | none => rw [hie] at h; simp at h
      | some ie =>
        rw [hie] at h
        simp only [Option.bind_some] at h
        split at h
        · rename_i hb
          obtain ⟨b1, b2, b3, b4, b5⟩ := hb
          cases hz : ie.zero with
          | none => rw [hz] at h; simp at h
          | some z =>
            rw [hz] at h
            simp only [Option.bind_some] at h
            split at h
            · simp at h
            · rename_i hzs
              simp only [not_or, Decidable.not_not] at hzs
              obtain ⟨hzs1, hzs2⟩ := hzs
              have hpl : z.cells.toList.all plainV = true := by simpa using hzs2
              cases h
              have e2 : roomy = 1099511627776 := by decide
              rw [e2] at b3 b4
              have hrun := run_make w t e ie z hu hie hz kl kc ln cn b1 b2 (by
                have : ((cn.toNat * ie.bytes : Nat) : Int) ≤ 1099511627776 := by omega
                rw [Int.natCast_mul, Int.toNat_of_nonneg (by omega), Int.mul_comm] at this
                omega) (by omega)
              have hrep := repeated_eq (z := z.cells) cn.toNat (.inl (by omega))
              rw [hzs1] at hrep
              have hlen : (repeated z.cells.toList cn.toNat).length = cn.toNat * ie.size := by rw [repeated_length]; simp [hzs1]
              refine ⟨.slice (some ⟨w.heap.size, 0, none⟩) ln.toNat cn.toNat, .cells (madeCells z.cells (cn.toNat * ie.size)) e, ⟨w.heap.size, 0, (repeated z.cells.toList cn.toNat).length, (repeated z.cells.toList cn.toNat).length, P.cellsOf e, false, false⟩, ?_, ⟨rfl, rfl⟩, ?_, ?_,
                fun μ' hle hn => ⟨?_, (OR_new (by rw [← hrep]; exact VRs.plain (all_repeated hpl _)) (all_repeated (all_oneCell_plain hpl) _)).1⟩⟩
              · simp only [execOp, ho, hlv, hcv, Sem.run_bind, hrun, Result.andThen_ok, Sem.run_pure]
              · intro r hr; cases hr
              · intro C e fr hh; cases hh; rfl
              · have := VR.slice (μ := μ') next 0 ln.toNat cn.toNat cn.toNat _ hn (by omega) (Nat.le_refl _) (.inl rfl) (by simp [cellsOf_info hie, hlen]) (by simp [cellsOf_info hie, hlen]) (by unfold roomy at *; omega)
                simpa [sliceTo] using this
        · simp at h
    · simp at h
  · rename_i s x f ho
    have hx := hρ x (by rw [ho]; simp [Op.operands])
    cases hb : aFieldAddr P s (ρ x) f with
    | none => rw [hb] at h; simp at h
    | some r =>
      rw [hb] at h; simp at h; obtain ⟨rfl, rfl⟩ := h
      obtain ⟨v', h1, h2⟩ := aFieldAddr_sound (w := w) hb hx
      exact ⟨v', by simp [execOp, ho, h1], h2⟩
  · rename_i t x f ho
    have hx := hρ x (by rw [ho]; simp [Op.operands])
    cases hb : aField P t (ρ x) f with
    | none => rw [hb] at h; simp at h
    | some r =>
      rw [hb] at h; simp at h; obtain ⟨rfl, rfl⟩ := h
      obtain ⟨v', h1, h2⟩ := aField_sound (w := w) hb hx
      exact ⟨v', by simp [execOp, ho, h1], h2⟩
  · rename_i t x ix ho
    have hx := hρ x (by rw [ho]; simp [Op.operands])
    have hi := hρ ix (by rw [ho]; simp [Op.operands])
    cases hb : aIndexAddr P t (ρ x) (ρ ix) with
    | none => rw [hb] at h; simp at h
    | some r =>
      rw [hb] at h; simp at h; obtain ⟨rfl, rfl⟩ := h
      obtain ⟨v', h1, h2⟩ := aIndexAddr_sound (w := w) hb hx hi
      exact ⟨v', by simp [execOp, ho, h1], h2⟩
  · rename_i t x ix ho
    have hx := hρ x (by rw [ho]; simp [Op.operands])
    have hi := hρ ix (by rw [ho]; simp [Op.operands])
    cases hb : aIndex P t (ρ x) (ρ ix) with
    | none => rw [hb] at h; simp at h
    | some r =>
      rw [hb] at h; simp at h; obtain ⟨rfl, rfl⟩ := h
      obtain ⟨v', h1, h2⟩ := aIndex_sound (w := w) hb hx hi
      exact ⟨v', by simp [execOp, ho, h1], h2⟩
  · rename_i x i ho
    have hx := hρ x (by rw [ho]; simp [Op.operands])
    cases hb : aExtract (ρ x) i with
    | none => rw [hb] at h; simp at h
    | some r =>
      rw [hb] at h; simp at h; obtain ⟨rfl, rfl⟩ := h
      obtain ⟨v', h1, h2⟩ := aExtract_sound (P := P) (w := w) hb hx
      exact ⟨v', by simp [execOp, ho, h1], h2⟩
  · rename_i t x ho
    have hx := hρ x (by rw [ho]; simp [Op.operands])
    split at h
    · simp at h
    · rename_i d hd hu
      cases h
      refine ⟨.iface t (ρ' x), ?_, .iface _ _ _ hx⟩
      simp only [execOp, ho, Instr.makeInterface, Sem.run_bind, run_underlying hu, Result.andThen_ok]
      cases d <;> first | rfl | exact absurd rfl (hd _)
    · simp at h
  · rename_i args ats ho
    have ha : ∀ x ∈ args.toList, VR μ (ρ x) (ρ' x) := fun x hx => hρ x (by rw [ho]; simpa [Op.operands, Call.operands] using hx)
    have har := VR.arr ha
    split at h
    · rename_i x l hxl
      rw [hxl] at har
      obtain ⟨x', l', hxl', hx, hl⟩ := har.cons_inv
      cases hf : aFold aMax x l with
      | none => rw [hf] at h; simp at h
      | some r =>
        rw [hf] at h; simp at h; obtain ⟨rfl, rfl⟩ := h
        obtain ⟨v', h1, h2⟩ := aFold_sound (P := P) (w := w) (fun a b c => aMax_sound a b c) hf hx hl
        refine ⟨v', ?_, h2⟩
        simp only [execOp, ho, resolve, Sem.run_bind, Sem.run_pure, Result.andThen_ok, invoke, builtin, Builtin.max_, hxl', h1]
    · simp at h
  · rename_i args ats ho
    have ha : ∀ x ∈ args.toList, VR μ (ρ x) (ρ' x) := fun x hx => hρ x (by rw [ho]; simpa [Op.operands, Call.operands] using hx)
    have har := VR.arr ha
    split at h
    · rename_i x l hxl
      rw [hxl] at har
      obtain ⟨x', l', hxl', hx, hl⟩ := har.cons_inv
      cases hf : aFold aMin x l with
      | none => rw [hf] at h; simp at h
      | some r =>
        rw [hf] at h; simp at h; obtain ⟨rfl, rfl⟩ := h
        obtain ⟨v', h1, h2⟩ := aFold_sound (P := P) (w := w) (fun a b c => aMin_sound a b c) hf hx hl
        refine ⟨v', ?_, h2⟩
        simp only [execOp, ho, resolve, Sem.run_bind, Sem.run_pure, Result.andThen_ok, invoke, builtin, Builtin.min_, hxl', h1]
    · simp at h
  · simp at h
end Go.AM
