/- AM: copy, delete, clear; all operations together. -/
import Derived.Test.YtgdcbjpookldoaaDoorAMHeap3
import Derived.Laws.BytesString
import Derived.Laws.IdiomStrings
set_option linter.unusedSimpArgs false
set_option linter.unusedVariables false
namespace Go.AM
variable {P : Program} {B : Nat} {μ : Map} {h : AHeap} {w : World}

theorem aCopy_sound (hr : HR P B μ h w) {ats : Array TypeId} {t : TypeId} {d s d' s' v : Value} {h' : AHeap} (ty : TypeId) (hh : aCopy P h t d s = some (v, h')) (hd : VR μ d d') (hs : VR μ s s') (ha : ats[0]? = some t)
    {args : Array Value} (h0 : args[0]? = some d') (h1 : args[1]? = some s') :
    ∃ w', (Builtin.copy_ ats ty args).run P w = .ok v w' ∧ VR μ v v ∧ Post P B μ h w μ h' w' ∧ Keeps h h' := by
  unfold aCopy at hh
  split at hh
  · rename_i e base dlen dcap hu
    cases hi : P.info? e with
    | none => rw [hi] at hh; simp at hh
    | some i =>
    rw [hi] at hh
    simp only [Option.bind_some] at hh
    cases hsl : aLenOf s with
    | none => rw [hsl] at hh; simp at hh
    | some sl =>
    rw [hsl] at hh
    simp only [Option.bind_some] at hh
    have hd' : ∃ b' c', d' = .slice b' dlen c' := by cases hd <;> exact ⟨_, _, rfl⟩
    obtain ⟨b', c', rfl⟩ := hd'
    split at hh
    · rename_i hn
      cases hh
      refine ⟨w, ?_, .int _ _, Post.refl hr, Keeps.refl h⟩
      have hf : (Builtin.firstCells i.size 0 s').run P w = .ok #[] w := by
        unfold aLenOf at hsl
        split at hsl
        · cases hs <;> simp [Builtin.firstCells, loadCells, loadCellsFrom]
        · cases hs; simp only [Builtin.firstCells, Sem.run_pure]; congr 1; apply Array.ext'; simp [ByteArray.data_extract]
        · simp at hsl
      simp only [Builtin.copy_, ha, h0, h1, Sem.run_bind, run_underlying hu, Result.andThen_ok, lenOf_sound hsl hs, run_size hi, hn, hf]
      cases b' <;> simp [storeCells, goInt]
    · rename_i hn
      cases hf : aFirst h i.size (Nat.min sl dlen) s with
      | none => rw [hf] at hh; simp at hh
      | some cs =>
      rw [hf] at hh
      simp only [Option.bind_some] at hh
      split at hh
      · rename_i id off
        split at hh
        · rename_i c e' b hg
          split at hh
          · rename_i hc
            obtain ⟨c1, rfl, c3, c4, c5, c6⟩ := hc
            cases hh
            have hle : Nat.min sl dlen ≤ sl := Nat.min_le_left _ _
            have hld : Nat.min sl dlen ≤ dlen := Nat.min_le_right _ _
            obtain ⟨xs, f1, f2⟩ := aFirst_sound hr hf hs (by intro a l c' e1; subst e1; simp [aLenOf] at hsl; omega)
            cases hd with
            | slice _ _ _ _ cap' loc hl a1 a2 a3 a4 a5 a6 =>
              obtain ⟨g1, g2, g3⟩ := hr.write (off := off) hl hg c1 f1 (by omega) c5
              refine ⟨_, ?_, .int _ _, g2, g3⟩
              simp only [Builtin.copy_, ha, h0, h1, Sem.run_bind, run_underlying hu, Result.andThen_ok, lenOf_sound hsl hs, run_size hi, f2 w rfl]
              have : (storeCells ⟨loc.blk, loc.base + off, none⟩ xs).run P w = .ok () (w.setCells loc.blk (loc.base + off) xs) := g1
              simp only [this, Result.andThen_ok, Sem.run_pure, goInt]
            | slice0 =>
              exact absurd (Nat.le_zero.1 hld) hn
          · simp at hh
        · simp at hh
      · simp at hh
  · simp at hh

theorem erase_map {α β : Type} (g : α → β) (l : List α) (j : Nat) : (l.eraseIdx j).map g = (l.map g).eraseIdx j := by
  rw [List.eraseIdx_eq_take_drop_succ, List.eraseIdx_eq_take_drop_succ, List.map_append, List.map_take, List.map_drop]
theorem VRs.eraseIdx {l l' : List Value} (hl : VRs μ l l') (j : Nat) : VRs μ (l.eraseIdx j) (l'.eraseIdx j) := by
  rw [List.eraseIdx_eq_take_drop_succ, List.eraseIdx_eq_take_drop_succ]
  exact (hl.take _).append (hl.drop _)

theorem aDelete_sound (hr : HR P B μ h w) {ats : Array TypeId} {t : TypeId} {m k m' k' : Value} {h' : AHeap} (ty : TypeId) (hh : aDelete P h t m k = some h') (hm : VR μ m m') (hk : VR μ k k') (ha : ats[0]? = some t)
    {args : Array Value} (h0 : args[0]? = some m') (h1 : args[1]? = some k') :
    ∃ w', (Builtin.delete_ ats ty args).run P w = .ok (.tuple #[]) w' ∧ Post P B μ h w μ h' w' ∧ Keeps h h' := by
  unfold aDelete at hh
  split at hh
  · rename_i kt et id hu
    cases hm with
    | map _ loc hl =>
    split at hh
    · rename_i es hg
      split at hh
      · simp at hh
      · rename_i hko
        simp only [Bool.or_eq_true, decide_eq_true_eq, not_or, Bool.not_eq_true, Bool.not_eq_false', Nat.not_lt] at hko
        obtain ⟨hko, hlow⟩ := hko
        obtain ⟨d, hd, hkd, hck⟩ := keyOk_sound (w := w) (by simpa using hko) hk
        obtain ⟨E, clock, g1, g2⟩ := hr.mapAt hl hg
        cases hf : aFind k es 0 with
        | none => rw [hf] at hh; simp at hh
        | some r =>
          rw [hf] at hh
          simp only [Option.bind_some] at hh
          obtain ⟨r', f1, f2⟩ := find_sound hk hkd g2 hf
          have gk := findKey_run (w := w) hd f1
          cases r with
          | none =>
            cases r' with
            | some _ => exact f2.elim
            | none =>
              simp only at hh; cases hh
              obtain ⟨a1, a2, a3⟩ := hr.putMap (es' := es) (E' := E) (clock' := clock) hl hg hlow g2
              have hsame : ({ w with heap := w.heap.setIfInBounds loc.blk (.map E clock) } : World).heap = w.heap := by
                apply Array.ext_getElem?
                intro k
                simp only [Array.getElem?_setIfInBounds]
                split
                · rename_i e1; subst e1; rw [g1]; simp [(hr.dom id loc hl).2]
                · rfl
              refine ⟨{ w with heap := w.heap.setIfInBounds loc.blk (.map E clock) }, ?_, (Post.refl hr).congr hsame ⟨rfl, rfl, rfl⟩, Keeps.refl h⟩
              simp only [Builtin.delete_, ha, h0, h1, Sem.run_bind, run_underlying hu, Result.andThen_ok, getObj_map g1, hck, gk, a1, Sem.run_pure]
          | some p =>
            obtain ⟨j, u⟩ := p
            cases r' with
            | none => exact f2.elim
            | some p' =>
              obtain ⟨j', u'⟩ := p'
              obtain ⟨hu', en, f6, f7, f8, f9, F, hp, hF1, hF2, hFj⟩ := f2
              simp only at hh; cases hh
              obtain ⟨a1, a2⟩ := hr.putMap (es' := es.eraseIdx j) (E' := E.eraseIdxIfInBounds j') (clock' := clock) hl hg hlow
                ⟨MapKept.stamped_erase g2.1 _, by rw [erase_map]; exact g2.2.1.sublist (List.eraseIdx_sublist _ _), F.eraseIdx j, by rw [Array.toList_eraseIdxIfInBounds]; exact perm_erase hp hFj (by simpa using f6),
                  by rw [erase_map, erase_map]; exact hF1.eraseIdx j, by rw [erase_map, erase_map]; exact hF2.eraseIdx j⟩
              refine ⟨_, ?_, a2⟩
              simp only [Builtin.delete_, ha, h0, h1, Sem.run_bind, run_underlying hu, Result.andThen_ok, getObj_map g1, hck, gk, a1, Sem.run_pure]
    · simp at hh
  · rename_i kt et hu
    split at hh
    · rename_i hko
      cases hm; cases hh
      obtain ⟨d, hd, hkd, hck⟩ := keyOk_sound (w := w) hko hk
      refine ⟨w, ?_, Post.refl hr, Keeps.refl h⟩
      simp only [Builtin.delete_, ha, h0, h1, Sem.run_bind, run_underlying hu, Result.andThen_ok, hck, Sem.run_pure]
    · simp at hh
  · simp at hh

theorem aClear_sound (hr : HR P B μ h w) {ats : Array TypeId} {t : TypeId} {x x' : Value} {h' : AHeap} (ty : TypeId) (hh : aClear P h t x = some h') (hx : VR μ x x') (ha : ats[0]? = some t)
    {args : Array Value} (h0 : args[0]? = some x') :
    ∃ w', (Builtin.clear_ ats ty args).run P w = .ok (.tuple #[]) w' ∧ Post P B μ h w μ h' w' ∧ Keeps h h' := by
  unfold aClear at hh
  split at hh
  · rename_i k e hu
    cases hx; cases hh
    exact ⟨w, by simp [Builtin.clear_, ha, h0, run_underlying hu], Post.refl hr, Keeps.refl h⟩
  · rename_i k e id hu
    cases hx with
    | map _ loc hl =>
    split at hh
    · rename_i es hg
      split at hh
      · rename_i hlow
        cases hh
        obtain ⟨E, clock, g1, g2⟩ := hr.mapAt hl hg
        obtain ⟨a1, a2⟩ := hr.putMap (es' := []) (E' := #[]) (clock' := clock) hl hg hlow (MR.nil μ clock)
        refine ⟨_, ?_, a2⟩
        simp only [Builtin.clear_, ha, h0, Sem.run_bind, run_underlying hu, Result.andThen_ok, getObj_map g1, a1, Sem.run_pure]
      · simp at hh
    · simp at hh
  · rename_i e base n cap hu
    split at hh
    · rename_i hn
      cases hh
      subst hn
      refine ⟨w, ?_, Post.refl hr, Keeps.refl h⟩
      cases hx <;> simp [Builtin.clear_, ha, h0, run_underlying hu]
    · rename_i hn
      split at hh
      · rename_i id off
        split at hh
        · rename_i c e' b hg
          cases hi : P.info? e with
          | none => rw [hi] at hh; simp at hh
          | some i =>
          rw [hi] at hh
          simp only [Option.bind_some] at hh
          cases hz : i.zero with
          | none => rw [hz] at hh; simp at hh
          | some z =>
          rw [hz] at hh
          simp only [Option.bind_some] at hh
          split at hh
          · rename_i hc
            obtain ⟨c1, rfl, c3, c4, c5, c6⟩ := hc
            cases hh
            cases hx with
            | slice _ _ _ _ cap' loc hl a1 a2 a3 a4 a5 a6 =>
              have hz' : aZero P e' = some z := by simp [aZero, hi, hz]
              have hrep : (Builtin.zeroCells z.cells n).toList = repeated z.cells.toList n := by rw [repeated_eq n (.inl (by omega))]; rfl
              obtain ⟨g1, g2, g3⟩ := hr.write (off := off) (vs := repeated z.cells.toList n) (vs' := repeated z.cells.toList n) hl hg c1 (VRs.plain (all_repeated c6 n)) (by rw [repeated_length]; simp [c4]; omega) (all_oneCell_plain (all_repeated c6 n))
              refine ⟨_, ?_, g2, g3⟩
              have hne : n ≠ 0 := hn
              obtain ⟨m, rfl⟩ := Nat.exists_eq_succ_of_ne_zero hne
              have g1' : (storeCells ⟨loc.blk, loc.base + off, none⟩ (Builtin.zeroCells z.cells (m + 1)).toList).run P w = .ok () (w.setCells loc.blk (loc.base + off) (repeated z.cells.toList (m + 1))) := by rw [hrep]; exact g1
              simp only [Builtin.clear_, ha, h0, Sem.run_bind, run_underlying hu, Result.andThen_ok, run_zero hz', g1', Sem.run_pure]
            | slice0 => exact absurd rfl hn
          · simp at hh
        · simp at hh
      · simp at hh
  · simp at hh

/-- What an operation that is no call leaves. -/
def OpOk (P : Program) (B : Nat) (μ : Map) (h : AHeap) (w : World) (v : Value) (h' : AHeap) (r : Result Next) : Prop :=
  ∃ v' w' μ', (r = .ok (.value v') w' ∨ r = .ok .skip w' ∧ v' = undef) ∧ VR μ' v v' ∧ Post P B μ h w μ' h' w' ∧ Keeps h h'

theorem aBytes_ints : ∀ (cs : List Value) (s r : ByteArray), aBytes cs s = some r → ∃ ns : List Int, cs = ns.map (Value.int .u8) ∧ r = ns.foldl (fun r n => r.push (UInt8.ofNat n.toNat)) s
  | [], s, r, h => by simp only [aBytes] at h; cases h; exact ⟨[], rfl, rfl⟩
  | c :: cs, s, r, h => by
    unfold aBytes at h
    split at h
    · rename_i e; cases e
    · rename_i n l e
      cases e
      obtain ⟨ns, h1, h2⟩ := aBytes_ints _ _ r h
      exact ⟨n :: ns, by rw [h1]; rfl, h2⟩
    · cases h

theorem VRs.ints : ∀ (ns : List Int) {xs : List Value}, VRs μ (ns.map (Value.int .u8)) xs → xs = ns.map (Value.int .u8)
  | [], xs, h => h.nil_inv
  | n :: ns, xs, h => by
    obtain ⟨x', m, rfl, hx, hl⟩ := VRs.cons_inv h
    rw [VRs.ints ns hl]
    cases hx; rfl

theorem aConvStr_sound (hr : HR P B μ h w) {s d : TypeId} {x x' v : Value} (hh : aConvStr P h s d x = some v) (hx : VR μ x x') : (convert s d x').run P w = .ok v w ∧ VR μ v v := by
  unfold aConvStr at hh
  split at hh
  · rename_i e base len cap hs hd
    split at hh
    · rename_i he
      cases hf : aFirst h 1 len (.slice base len cap) with
      | none => rw [hf] at hh; simp at hh
      | some cs =>
        rw [hf] at hh
        simp only [Option.bind_some] at hh
        obtain ⟨r, hr', e1⟩ := Option.map_eq_some_iff.1 hh
        subst e1
        obtain ⟨ns, n1, n2⟩ := aBytes_ints _ _ _ hr'
        obtain ⟨xs, h1, h2⟩ := aFirst_sound hr hf hx (fun a l c e => by cases e; exact Nat.le_refl _)
        rw [n1] at h1
        have hxs := VRs.ints ns h1
        refine ⟨?_, .string _⟩
        have h3 := h2 w rfl
        cases hx with
        | snil =>
          rw [run_convert_bytes_string w s d e none 0 0 hs he hd]
          simp only [aFirst] at hf
          cases hf
          have : ns = [] := by cases ns with | nil => rfl | cons a b => cases n1
          subst this
          rw [n2]; rfl
        | slice id off len cap cap' loc hl _ _ _ _ _ _ =>
          rw [run_convert_bytes_string w s d e _ len cap' hs he hd]
          simp only [Builtin.firstCells, Nat.mul_one] at h3
          rw [run_bytesToString w _ len cap' ns (by rw [h3, hxs]), n2]
        | slice0 id off off' loc hl =>
          rw [run_convert_bytes_string w s d e _ 0 0 hs he hd]
          simp only [Builtin.firstCells, Nat.mul_one] at h3
          rw [run_bytesToString w _ 0 0 ns (by rw [h3, hxs]), n2]
    · cases hh
  · cases hh

theorem heap_sound (hr : HR P B μ h w) (o : Oper) {ρ ρ' : Operand → Value} {v : Value} {h' : AHeap} (hh : aHeap P ρ o.op h = some (v, h')) (hρ : ∀ x ∈ o.op.operands.toList, VR μ (ρ x) (ρ' x)) :
    OpOk P B μ h w v h' ((execOp ρ' o).run P w) := by
  unfold aHeap at hh
  split at hh
  · rename_i t a ho
    have ha := hρ a (by rw [ho]; simp [Op.operands])
    cases hb : aLoad P h t (ρ a) with
    | none => rw [hb] at hh; simp at hh
    | some u =>
      rw [hb] at hh; simp at hh; obtain ⟨rfl, rfl⟩ := hh
      obtain ⟨v', h1, h2⟩ := aLoad_sound hr hb ha
      exact ⟨v', w, μ, .inl (by simp [execOp, ho, h1]), h2, Post.refl hr, Keeps.refl h⟩
  · rename_i t x lo hi mx ho
    have hx := hρ x (by rw [ho]; simp [Op.operands])
    have opt : ∀ (y : Option Operand), (∀ z, y = some z → z ∈ o.op.operands.toList) → VRo μ (y.map ρ) (y.map ρ') := by
      intro y hy
      cases y with
      | none => trivial
      | some z => exact hρ z (hy z rfl)
    cases hb : aSliceH P h t (ρ x) (lo.map ρ) (hi.map ρ) (mx.map ρ) with
    | none => rw [hb] at hh; simp at hh
    | some u =>
      rw [hb] at hh; simp at hh; obtain ⟨rfl, rfl⟩ := hh
      obtain ⟨v', h1, h2⟩ := aSliceH_sound hr hb hx (opt lo (by intro z hz; subst hz; rw [ho]; simp [Op.operands])) (opt hi (by intro z hz; subst hz; rw [ho]; simp [Op.operands])) (opt mx (by intro z hz; subst hz; rw [ho]; simp [Op.operands]))
      exact ⟨v', w, μ, .inl (by simp [execOp, ho, h1]), h2, Post.refl hr, Keeps.refl h⟩
  · rename_i t a x ho
    have ha := hρ a (by rw [ho]; simp [Op.operands])
    have hx := hρ x (by rw [ho]; simp [Op.operands])
    cases hb : aStore P h t (ρ a) (ρ x) with
    | none => rw [hb] at hh; simp at hh
    | some u =>
      rw [hb] at hh; simp at hh; obtain ⟨rfl, rfl⟩ := hh
      obtain ⟨w', h1, h2, h3⟩ := aStore_sound hr hb ha hx
      exact ⟨undef, w', μ, .inr ⟨by simp [execOp, ho, h1], rfl⟩, VR.undef μ, h2, h3⟩
  · rename_i t x k ok ho
    have hx := hρ x (by rw [ho]; simp [Op.operands])
    have hk := hρ k (by rw [ho]; simp [Op.operands])
    cases hb : aLookup P h t (ρ x) (ρ k) ok with
    | none => rw [hb] at hh; simp at hh
    | some u =>
      rw [hb] at hh; simp at hh; obtain ⟨rfl, rfl⟩ := hh
      obtain ⟨v', h1, h2⟩ := aLookup_sound hr hb hx hk
      exact ⟨v', w, μ, .inl (by simp [execOp, ho, h1]), h2, Post.refl hr, Keeps.refl h⟩
  · rename_i s d x ho
    have hx := hρ x (by rw [ho]; simp [Op.operands])
    cases hb : aConvStr P h s d (ρ x) with
    | none => rw [hb] at hh; simp at hh
    | some u =>
      rw [hb] at hh; simp at hh; obtain ⟨rfl, rfl⟩ := hh
      obtain ⟨h1, h2⟩ := aConvStr_sound hr hb hx
      exact ⟨_, w, μ, .inl (by simp [execOp, ho, h1]), h2, Post.refl hr, Keeps.refl h⟩
  · rename_i t m k x ho
    have hm := hρ m (by rw [ho]; simp [Op.operands])
    have hk := hρ k (by rw [ho]; simp [Op.operands])
    have hx := hρ x (by rw [ho]; simp [Op.operands])
    cases hb : aMapUpdate P h t (ρ m) (ρ k) (ρ x) with
    | none => rw [hb] at hh; simp at hh
    | some u =>
      rw [hb] at hh; simp at hh; obtain ⟨rfl, rfl⟩ := hh
      obtain ⟨w', h1, h2, h3⟩ := aMapUpdate_sound hr hb hm hk hx
      exact ⟨undef, w', μ, .inr ⟨by simp [execOp, ho, h1], rfl⟩, VR.undef μ, h2, h3⟩
  · rename_i t m k x ho
    have hm := hρ m (by rw [ho]; simp [Op.operands])
    have hk := hρ k (by rw [ho]; simp [Op.operands])
    have hx := hρ x (by rw [ho]; simp [Op.operands])
    cases hb : aMapUpdate P h t (ρ m) (ρ k) (ρ x) with
    | none => rw [hb] at hh; simp at hh
    | some u =>
      rw [hb] at hh; simp at hh; obtain ⟨rfl, rfl⟩ := hh
      obtain ⟨w', h1, h2, h3⟩ := aMapUpdate_sound hr hb hm hk hx
      exact ⟨undef, w', μ, .inr ⟨by simp [execOp, ho, h1], rfl⟩, VR.undef μ, h2, h3⟩
  · rename_i b args ats ho
    have ha : ∀ x ∈ args.toList, VR μ (ρ x) (ρ' x) := fun x hx => hρ x (by rw [ho]; simpa [Op.operands, Call.operands] using hx)
    have harg : ∀ {j : Nat} {x : Operand}, args[j]? = some x → VR μ (ρ x) (ρ' x) ∧ (args.map ρ')[j]? = some (ρ' x) := by
      intro j x hj
      exact ⟨ha x (by have := Array.mem_of_getElem? hj; simpa using this), by simp [hj]⟩
    have run : ∀ (s : Sem Value) (v' : Value) (w' : World), (∀ cs, builtin b ats o.type cs (args.map ρ') = (do pure (.value (← s)))) → s.run P w = .ok v' w' → (execOp ρ' o).run P w = .ok (.value v') w' := by
      intro s v' w' e1 e2
      simp only [execOp, ho, resolve, Sem.run_bind, Sem.run_pure, Result.andThen_ok, invoke, e1, e2]
    split at hh
    · cases h0 : ats[0]? with
      | none => rw [h0] at hh; simp at hh
      | some t =>
      cases h1 : args[0]? with
      | none => rw [h0, h1] at hh; simp at hh
      | some x =>
      rw [h0, h1] at hh
      simp only [Option.bind_some] at hh
      cases hb : aLen P h t (ρ x) with
      | none => rw [hb] at hh; simp at hh
      | some u =>
        rw [hb] at hh; simp at hh; obtain ⟨rfl, rfl⟩ := hh
        obtain ⟨g1, g2⟩ := aLen_sound hr hb (harg h1).1 ats h0 o.type _ (harg h1).2
        exact ⟨_, w, μ, .inl (run _ _ _ (fun _ => rfl) g1), g2, Post.refl hr, Keeps.refl h⟩
    · cases h0 : ats[0]? with
      | none => rw [h0] at hh; simp at hh
      | some t =>
      cases h1 : args[0]? with
      | none => rw [h0, h1] at hh; simp at hh
      | some x =>
      rw [h0, h1] at hh
      simp only [Option.bind_some] at hh
      cases hb : aCap P h t (ρ x) with
      | none => rw [hb] at hh; simp at hh
      | some u =>
        rw [hb] at hh; simp at hh; obtain ⟨rfl, rfl⟩ := hh
        obtain ⟨g1, g2⟩ := aCap_sound hr hb (harg h1).1 ats h0 o.type _ (harg h1).2
        exact ⟨_, w, μ, .inl (run _ _ _ (fun _ => rfl) g1), g2, Post.refl hr, Keeps.refl h⟩
    · split at hh
      · simp at hh
      · rename_i hsz
        simp only [not_or, Decidable.not_not] at hsz
        cases h0 : ats[0]? with
        | none => rw [h0] at hh; simp at hh
        | some t =>
        cases h1 : args[0]? with
        | none => rw [h0, h1] at hh; simp at hh
        | some s =>
        cases h2 : args[1]? with
        | none => rw [h0, h1, h2] at hh; simp at hh
        | some x =>
        rw [h0, h1, h2] at hh
        simp only [Option.bind_some] at hh
        cases hn : aNews P h ats (ρ x) with
        | none => rw [hn] at hh; simp at hh
        | some p =>
          obtain ⟨cs, n, z⟩ := p
          rw [hn] at hh
          simp only [Option.bind_some] at hh
          obtain ⟨tx, htx⟩ : ∃ tx, ats[1]? = some tx := ⟨_, Array.getElem?_eq_getElem (by omega)⟩
          have hats := two_args hsz.2 h0 htx
          have hargs : args.map ρ' = #[ρ' s, ρ' x] := two_args (by simp [hsz.1]) (harg h1).2 (harg h2).2
          obtain ⟨v', w', μ', g1, g2, g3, g4⟩ := aAppend_sound hr o.type hn hh (harg h2).1 (harg h1).1 hats
          exact ⟨v', w', μ', .inl (run _ _ _ (fun _ => rfl) (by rw [hargs]; exact g1)), g2, g3, g4⟩
    · cases h0 : ats[0]? with
      | none => rw [h0] at hh; simp at hh
      | some t =>
      cases h1 : args[0]? with
      | none => rw [h0, h1] at hh; simp at hh
      | some d =>
      cases h2 : args[1]? with
      | none => rw [h0, h1, h2] at hh; simp at hh
      | some s =>
      rw [h0, h1, h2] at hh
      simp only [Option.bind_some] at hh
      obtain ⟨w', g1, g2, g3, g4⟩ := aCopy_sound hr o.type hh (harg h1).1 (harg h2).1 h0 (harg h1).2 (harg h2).2
      exact ⟨_, w', μ, .inl (run _ _ _ (fun _ => rfl) g1), g2, g3, g4⟩
    · cases h0 : ats[0]? with
      | none => rw [h0] at hh; simp at hh
      | some t =>
      cases h1 : args[0]? with
      | none => rw [h0, h1] at hh; simp at hh
      | some m =>
      cases h2 : args[1]? with
      | none => rw [h0, h1, h2] at hh; simp at hh
      | some k =>
      rw [h0, h1, h2] at hh
      simp only [Option.bind_some] at hh
      cases hb : aDelete P h t (ρ m) (ρ k) with
      | none => rw [hb] at hh; simp at hh
      | some u =>
        rw [hb] at hh; simp at hh; obtain ⟨rfl, rfl⟩ := hh
        obtain ⟨w', g1, g3, g4⟩ := aDelete_sound hr o.type hb (harg h1).1 (harg h2).1 h0 (harg h1).2 (harg h2).2
        exact ⟨_, w', μ, .inl (run _ _ _ (fun _ => rfl) g1), VR.undef μ, g3, g4⟩
    · cases h0 : ats[0]? with
      | none => rw [h0] at hh; simp at hh
      | some t =>
      cases h1 : args[0]? with
      | none => rw [h0, h1] at hh; simp at hh
      | some x =>
      rw [h0, h1] at hh
      simp only [Option.bind_some] at hh
      cases hb : aClear P h t (ρ x) with
      | none => rw [hb] at hh; simp at hh
      | some u =>
        rw [hb] at hh; simp at hh; obtain ⟨rfl, rfl⟩ := hh
        obtain ⟨w', g1, g3, g4⟩ := aClear_sound hr o.type hb (harg h1).1 h0 (harg h1).2
        exact ⟨_, w', μ, .inl (run _ _ _ (fun _ => rfl) g1), VR.undef μ, g3, g4⟩
    · simp at hh
  · simp at hh

theorem aOp_sound (hr : HR P B μ h w) (o : Oper) {ρ ρ' : Operand → Value} {v : Value} {h' : AHeap} (hh : aOp P ρ o.op h = some (v, h')) (hρ : ∀ x ∈ o.op.operands.toList, VR μ (ρ x) (ρ' x)) :
    OpOk P B μ h w v h' ((execOp ρ' o).run P w) := by
  unfold aOp at hh
  split at hh
  · rename_i u hp
    cases hh
    obtain ⟨v', h1, h2⟩ := pure_sound (w := w) o hp hρ
    exact ⟨v', w, μ, .inl h1, h2, Post.refl hr, Keeps.refl h⟩
  · rename_i u ob hp
    cases hh
    obtain ⟨v', O, loc, h1, h2, h3, h4, h5⟩ := pure_sound (w := w) o hp hρ
    obtain ⟨μ', hm, p1, p2, _⟩ := hr.alloc (O := O) (loc := loc) (o := ob) h2 (fun μ' a b => (h5 μ' a b).2)
    exact ⟨v', w.alloc O, μ', .inl h1, (h5 μ' p1.le hm).1, p1, p2⟩
  · exact heap_sound hr o hh hρ

/-- A string's bytes in memory of their own. -/
theorem aNewStr_sound (hr : HR P B μ h w) (o : Oper) {s d : TypeId} {x : Operand} (ho : o.op = .convert s d x) {ρ ρ' : Operand → Value} {v : Value} {h' : AHeap} (hh : aNewStr P h s d (ρ x) = some (v, h')) (hρ : ∀ x ∈ o.op.operands.toList, VR μ (ρ x) (ρ' x)) :
    OpOk P B μ h w v h' ((execOp ρ' o).run P w) := by
  have hx := hρ x (by rw [ho]; simp [Op.operands])
  generalize hy : ρ x = y at hh hx
  unfold aNewStr at hh
  split at hh
  · rename_i e b hs hd
    split at hh
    · rename_i i he hi
      split at hh
      · rename_i hc
        obtain ⟨c1, c2, c3⟩ := hc
        cases hh
        have hx' : ρ' x = .string b := by
          generalize ρ' x = y' at hx
          cases hx; rfl
        have hrun := run_bytes_of_string (P := P) w s d e b hs hd he
        have hcap : b.size ≤ grownCap w b.size 0 e := grownCap_ge w _ _ _
        have hmx : grownCap w b.size 0 e ≤ 9223372036854775807 := grownCap_le_maxLen w b.size 0 e (by unfold maxLen; unfold roomy at c3; omega)
        generalize hC : grownCap w b.size 0 e = cap at *
        have hsz : (bytesRow b cap).size = cap := by
          unfold bytesRow
          simp only [Array.size_append, Array.size_map, Array.size_replicate]
          have : b.data.size = b.size := rfl
          omega
        have hlen : (b.data.toList.map fun c => Value.int .u8 c.toNat).length = b.size := by rw [List.length_map, Array.length_toList]; rfl
        have hrd : HR P B μ h w.drew := hr.congr rfl
        obtain ⟨μ', hm, p1, p2, _⟩ := hrd.alloc (o := .cells (b.data.toList.map fun c => Value.int .u8 c.toNat) e true) (O := .cells (bytesRow b cap) e ((bytesRow b cap).size, (bytesRow b cap).size + 1)) (loc := ⟨w.heap.size, 0, b.size, cap, P.cellsOf e, true, false⟩) ⟨rfl, rfl⟩ (fun μ' hle hm' => by
          refine ⟨.inr rfl, hlen, rfl, rfl, hsz, ⟨by simpa using hcap, .inr (.inl rfl)⟩, ?_, ?_, .inr ⟨fun i hi hh => by omega, fun hne => absurd he hne⟩⟩
          · have e1 : ((bytesRow b cap).toList.drop 0).take b.size = b.data.toList.map fun c => Value.int .u8 c.toNat := by
              unfold bytesRow
              have hl2 : (b.data.map (fun c => Value.int .u8 c.toNat)).toList.length = b.size := by rw [Array.toList_map]; exact hlen
              rw [List.drop_zero, Array.toList_append, List.take_append_of_le_length (Nat.le_of_eq hl2.symm), List.take_of_length_le (Nat.le_of_eq hl2), Array.toList_map]
            rw [e1]
            refine ⟨rfl, fun i x x' a b => ?_⟩
            rw [a] at b; cases b
            rw [List.getElem?_map] at a
            obtain ⟨c, _, rfl⟩ := Option.map_eq_some_iff.1 a
            exact .int _ _
          · rw [List.all_eq_true]
            intro y hy
            obtain ⟨c, _, rfl⟩ := List.mem_map.1 hy
            rfl)
        have hcell : P.cellsOf e = 1 := by rw [cellsOf_info hi, c1]
        refine ⟨.slice (some ⟨w.heap.size, 0, none⟩) b.size cap, _, μ', .inl ?_, ?_, p1.congr0 rfl ⟨rfl, rfl, rfl⟩, p2⟩
        · simp [execOp, ho, hx', hrun]
        · exact VR.slice (μ := μ') h.next 0 b.size b.size cap _ hm (Nat.le_refl _) hcap (.inr ⟨rfl, by show 0 + b.size * P.cellsOf e = b.size; rw [hcell, Nat.mul_one, Nat.zero_add]⟩) (by show 0 + 0 + cap * P.cellsOf e ≤ cap; rw [hcell, Nat.mul_one, Nat.add_zero, Nat.zero_add]; exact Nat.le_refl _) (by show 0 + b.size * P.cellsOf e ≤ b.size; rw [hcell, Nat.mul_one, Nat.zero_add]; exact Nat.le_refl _) hmx
      · cases hh
    · cases hh
  · cases hh

end Go.AM
