/- AM: calls. -/
import Derived.Test.YtgdcbjpookldoaaDoorAMCtl2
set_option linter.unusedSimpArgs false
set_option linter.unusedVariables false
namespace Go.AM
variable {P : Program} {B : Nat} {μ : Map} {h : AHeap} {w : World}

/-- Blocks that are nobody's, and that were not there, turn. -/
theorem Post.off {μ' : Map} {h' : AHeap} {w' w2 : World} (p : Post P B μ h w μ' h' w') (hs : w2.heap.size = w'.heap.size)
    (ho : ∀ b, (b < w.heap.size ∨ ∃ id loc, μ' id = some loc ∧ loc.blk = b) → w2.heap[b]? = w'.heap[b]?) (he : SameEnv w' w2) : Post P B μ h w μ' h' w2 := by
  refine ⟨p.le, p.fresh, ⟨fun id loc a => by rw [hs]; exact p.hr.dom id loc a, fun id loc o a g => ?_, p.hr.own, p.hr.low, by rw [hs]; exact p.hr.base⟩, by rw [hs]; exact p.size, fun b hb hm => ?_, p.still, p.env.trans he⟩
  · obtain ⟨O, h1, h2⟩ := p.hr.obj id loc o a g
    exact ⟨O, by rw [ho _ (.inr ⟨id, loc, a, rfl⟩)]; exact h1, h2⟩
  · rw [ho b (.inl hb)]; exact p.frame b hb hm

theorem mapM_run {α : Type} (f : α → Sem Value) (one : α → Option Value) (hf : ∀ x v, one x = some v → ∃ v', (f x).run P w = .ok v' w ∧ VR μ v v') :
    ∀ (l : List α) {vs : List Value}, l.mapM one = some vs → ∃ vs', (l.mapM f).run P w = .ok vs' w ∧ VRs μ vs vs' := by
  intro l
  induction l with
  | nil => intro vs hh; simp at hh; subst hh; exact ⟨[], rfl, VRs.nil μ⟩
  | cons x l ih =>
    intro vs hh
    simp only [List.mapM_cons, Option.bind_eq_bind, Option.pure_def] at hh
    cases h1 : one x with
    | none => simp [h1] at hh
    | some v =>
      cases h2 : l.mapM one with
      | none => simp [h1, h2] at hh
      | some us =>
        simp [h1, h2] at hh; subst hh
        obtain ⟨v', g1, g2⟩ := hf x v h1
        obtain ⟨us', g3, g4⟩ := ih h2
        exact ⟨v' :: us', by simp only [List.mapM_cons, Sem.run_bind, g1, Result.andThen_ok, g3, Sem.run_pure], VRs.cons g2 g4⟩

def resSem (tmps : Array Value) : ResultVar → Sem Value
  | .tmp t => pure (tmps.getD t undef)
  | .cell a t => do loadVar t (← asAddr (tmps.getD a undef))
theorem results_eq (fn : Func) (tmps : Array Value) : results fn tmps = (do
    let vs ← fn.results.mapM (resSem tmps)
    pure (if h : vs.size = 1 then vs[0] else .tuple vs)) := by
  unfold results
  congr 1
theorem results_sound (hr : HR P B μ h w) {fn : Func} {env : Env} {tmps : Array Value} {v : Value} (hh : resultsE P fn env h = some v) (he : VRs μ env tmps.toList) : ∃ v', (results fn tmps).run P w = .ok v' w ∧ VR μ v v' := by
  have hone : ∀ x v, resOne P env h x = some v → ∃ v', (resSem tmps x).run P w = .ok v' w ∧ VR μ v v' := by
    intro x v hx
    cases x with
    | tmp t => simp [resOne] at hx; subst hx; exact ⟨_, rfl, by simpa using getD_VR he t⟩
    | cell a t =>
      simp only [resOne] at hx
      have hv := getD_VR he a
      split at hx
      · rename_i p hp
        rw [hp] at hv
        generalize hvv : tmps.getD a undef = q at hv
        obtain ⟨v', g1, g2⟩ := aLoad_sound hr hx hv
        refine ⟨v', ?_, g2⟩
        cases hv with
        | ptr id off loc hl =>
          simp only [resSem, hvv, asAddr, Sem.run_bind, Sem.run_pure, Result.andThen_ok]
          simpa [Instr.loadAt, Instr.sureAddr] using g1
      · simp at hx
  unfold resultsE at hh
  rw [results_eq, Array.mapM_eq_mapM_toList]
  split at hh
  · rename_i r hl
    rw [hl]
    obtain ⟨v', g1, g2⟩ := hone r v hh
    refine ⟨v', ?_, g2⟩
    simp only [List.mapM_cons, List.mapM_nil, Sem.run_bind, Sem.run_map, g1, Result.andThen_ok, Sem.run_pure]
    rfl
  · rename_i hne
    cases hm : (fn.results.toList).mapM (resOne P env h) with
    | none => rw [hm] at hh; simp at hh
    | some vs =>
      rw [hm] at hh
      simp at hh; subst hh
      obtain ⟨vs', g1, g2⟩ := mapM_run (P := P) (w := w) (resSem tmps) (resOne P env h) hone _ hm
      refine ⟨.tuple vs'.toArray, ?_, VR.tuple' (by simpa using g2)⟩
      simp only [Sem.run_bind, Sem.run_map, g1, Result.andThen_ok, Sem.run_pure]
      have hlen : vs'.toArray.size ≠ 1 := by
        have e2 : vs'.length = fn.results.toList.length := by
          rw [← g2.1]
          clear g1 g2 hne
          generalize fn.results.toList = l at hm
          induction l generalizing vs with
          | nil => simp at hm; subst hm; rfl
          | cons x l ih =>
            simp only [List.mapM_cons, Option.bind_eq_bind, Option.pure_def] at hm
            cases h1 : resOne P env h x with
            | none => simp [h1] at hm
            | some v =>
              cases h2 : l.mapM (resOne P env h) with
              | none => simp [h1, h2] at hm
              | some us => simp [h1, h2] at hm; subst hm; simp [ih us h2]
        intro e3
        simp only [List.size_toArray] at e3
        have : fn.results.toList.length = 1 := by omega
        match hl : fn.results.toList, this with
        | [r], _ => exact hne r hl
      rw [dif_neg hlen]

/-- The marks are come to at a function's end. -/
theorem leaves_marks {fn : Func} {tmps : Array Value} {R : Ending → World → Prop} : ∀ (rs : List Nat) (w : World), rs.Nodup → (∀ r ∈ rs, r < w.heap.size ∧ w.heap[r]? = some (.deferred (some []))) →
    (∀ w2 : World, w2.heap.size = w.heap.size → (∀ b, b ∉ rs → w2.heap[b]? = w.heap[b]?) → SameEnv w w2 → ∃ v, (results fn tmps).run P w2 = .ok v w2 ∧ R (.returned v) w2) →
    LeavesInM Fence.wide 0 P fn tmps R (rs.map mkMark) .returning w := by
  intro rs
  induction rs with
  | nil =>
    intro w _ _ hr
    exact hr w rfl (fun _ _ => rfl) (SameEnv.refl w)
  | cons r rs ih =>
    intro w hnd hm hr
    obtain ⟨h1, h2⟩ := hm r (by simp)
    refine ⟨by simp, .inl ⟨r, w.putObj r (.deferred none), rfl, run_takeDeferred h2, ?_⟩⟩
    have hnd' := List.nodup_cons.1 hnd
    refine ih _ hnd'.2 (fun r' hr' => ?_) (fun w2 hs ho he => hr w2 (by rw [hs]; simp) (fun b hb => ?_) (SameEnv.trans ⟨rfl, rfl, rfl⟩ he))
    · obtain ⟨a, b⟩ := hm r' (by simp [hr'])
      have hne : r' ≠ r := by intro e; subst e; exact hnd'.1 hr'
      exact ⟨by simpa using a, by rw [World.putObj_heap_other hne]; exact b⟩
    · simp only [List.mem_cons, not_or] at hb
      rw [ho b hb.2, World.putObj_heap_other hb.1]

/-- What a call of a function by its number comes to. -/
def CallFOk (P : Program) (g : FuncId) (args : Array Value) (w : World) (must : Bool) (R : Value → World → Prop) : Prop :=
  (must = false ∧ ∃ v w', (callFunc g args).run P w = .ok (.value v) w' ∧ R v w') ∨
  (∃ f as w1, (callFunc g args).run P w = .ok (.enter f as) w1 ∧ CallsIn Fence.wide 0 P f as w1 (fun e w' => ∃ v, e = .returned v ∧ R v w'))

def hasBody (P : Program) (g : FuncId) : Bool := (P.funcs[g]?).any fun fn => fn.body.isSome

/-- What stands for a function must answer as it. -/
def PrimOk (P : Program) (G : Nat → Bool) (g : FuncId) (p : CallV → List Value → AHeap → R Value) : Prop :=
  ∀ (call : CallV), CallSound P G call → ∀ {B : Nat} {μ : Map} {h : AHeap} {w : World} {all : List Value} {r : Value} {h' : AHeap}, p call all h = some (r, h') → GOk G μ → HR P B μ h w →
    ∀ {all' : Array Value}, VRs μ all all'.toList → CallFOk P g all' w (hasBody P g) (CallR P B μ h w r h')

/-- The program's functions: constants closed; none of the model's own. -/
def ProgOk (P : Program) (G : Nat → Bool) (prims : Prims) : Prop :=
  ∀ g fn c, prims g = none → P.funcs[g]? = some fn → fn.body = some c → codeOk G c = true ∧ (fn.name == "runtime.NumGoroutine") = false

theorem setTmps_VR : ∀ {ps : List Tmp} {args args' : List Value} {tmps : List Value} {tmps' : Array Value}, VRs μ args args' → VRs μ tmps tmps'.toList →
    VRs μ (setTmps tmps (ps.zip args)) (((ps.zip args').foldl (fun (tmps : Array Value) (t, a) => tmps.setIfInBounds t a) tmps').toList) := by
  intro ps
  induction ps with
  | nil => intro args args' tmps tmps' _ ht; simpa [setTmps] using ht
  | cons p ps ih =>
    intro args args' tmps tmps' ha ht
    cases args with
    | nil => rw [ha.nil_inv]; simpa [setTmps] using ht
    | cons x args =>
      obtain ⟨x', m, rfl, hx, hm⟩ := ha.cons_inv
      simp only [List.zip_cons_cons, setTmps, List.foldl_cons]
      exact ih hm (by rw [Array.toList_setIfInBounds]; exact ht.set p hx)

theorem callE_sound {G : Nat → Bool} {prims : Prims} (hP : ProgOk P G prims) (hprims : ∀ g p, prims g = some p → PrimOk P G g p) (hdraw : ∀ n, CallSound P G (callE P prims n) → DrawSound P G (callE P prims n)) :
    ∀ n, CallSound P G (callE P prims n) := by
  intro n
  induction n with
  | zero => intro B μ h w fv args r h' hh; simp [callE] at hh
  | succ n ih =>
    intro B μ h w fv args r h' hh hg hr fv' args' hfv hargs
    have hex : ∀ c, ExecOk P G (callE P prims n) n c := by
      intro c B env h x env' h' a1 ro μ w a Q
      exact exec_sound ih (hdraw n ih) n c a1
    simp only [callE] at hh
    split at hh
    · rename_i g all hao
      -- a function
      unfold argsOf at hao
      split at hao
      · rename_i args0 f first cap
        cases hao
        cases hfv with
        | func _ _ first' _ cap' hs1 hv1 hs2 hv2 =>
        have hall : VRs μ (first.toList ++ args ++ cap.toList) ((first' ++ args') ++ cap').toList := by
          simp only [Array.toList_append]
          exact ((VR.toArr hs1 hv1).append hargs).append (VR.toArr hs2 hv2)
        -- by the function's number
        suffices hcf : CallFOk P g ((first' ++ args') ++ cap') w (hasBody P g) (CallR P B μ h w r h') by
          refine ⟨{ target := .fn (.func g) cap', args := first' ++ args' }, rfl, ?_⟩
          rcases hcf with ⟨e, v, w', e1, e2⟩ | ⟨f, as, w1, e1, e2⟩
          · exact .inl ⟨e, v, w', e1, e2⟩
          · exact .inr (.inl ⟨f, as, w1, e1, e2⟩)
        split at hh
        · rename_i p hp
          exact hprims g p hp _ ih hh hg hr hall
        · rename_i hp
          split at hh
          · rename_i fn hfn
            split at hh
            · rename_i c hb
              obtain ⟨hco, hname⟩ := hP g fn c hp hfn hb
              refine .inr ⟨g, (first' ++ args') ++ cap', w, ?_, ?_⟩
              · simp only [callFunc, Sem.run_bind, run_program, Result.andThen_ok, hfn, hname, hb]
                simp
              · have hlen : (first.toList ++ args ++ cap.toList).length = ((first' ++ args') ++ cap').size := by have := hall.1; simpa using this
                have henv : VRs μ ((first.toList ++ args ++ cap.toList) ++ List.replicate (fn.ntmps - (first.toList ++ args ++ cap.toList).length) undef)
                    (((first' ++ args') ++ cap') ++ Array.replicate (fn.ntmps - ((first' ++ args') ++ cap').size) undef).toList := by
                  rw [hlen]
                  simp only [Array.toList_append, Array.toList_replicate]
                  have := hall.append (VRs.replicate (VR.undef μ) (fn.ntmps - ((first' ++ args') ++ cap').size))
                  simpa using this
                -- whatever way the body is left
                have key : ∀ (x : AExit) (env : Env) (h1 : AHeap), exec P (callE P prims n) n c ((first.toList ++ args ++ cap.toList) ++ List.replicate (fn.ntmps - (first.toList ++ args ++ cap.toList).length) undef) h = some (x, env, h1) →
                    (x = .normal ∨ x = .ret) → ∀ v, resultsE P fn env h1 = some v → v = r → h1 = h' →
                    CallsIn Fence.wide 0 P g ((first' ++ args') ++ cap') w (fun e w' => ∃ v, e = .returned v ∧ CallR P B μ h w r h' v w') := by
                  intro x env h1 hx hxx v hres hvr hh1
                  subst hvr; subst hh1
                  refine callsIn_of_wp_marks hfn hb trivial ?_ rfl
                  refine hex c hx (ro := none) (CodeOk.of hg hco) hg hr (fun l hl => by cases hl) henv ?_
                  intro μ' a' w' q
                  obtain ⟨rs, d1, m1⟩ := q.marks
                  have d2 : a'.defers = rs.map mkMark := by rw [d1]; simp
                  have leave : LeavesInM Fence.wide 0 P fn a'.tmps (fun e w' => ∃ v', e = .returned v' ∧ CallR P B μ h w v h1 v' w') a'.defers .returning w' := by
                    rw [d2]
                    refine leaves_marks rs w' m1.1 (fun r hr' => ⟨(m1.2 r hr').2.1, (m1.2 r hr').2.2.1⟩) ?_
                    intro w2 hs2' ho2 he2
                    have p2 : Post P B μ h w μ' h1 w2 := q.post.off hs2' (fun b hb' => ho2 b (fun hbr => by
                      obtain ⟨a1, _, _, a4⟩ := m1.2 b hbr
                      rcases hb' with hb' | ⟨id, loc, e1, e2⟩
                      · omega
                      · exact a4 id loc e1 e2)) he2
                    obtain ⟨v', g1, g2⟩ := results_sound p2.hr hres q.env
                    exact ⟨v', g1, v', rfl, μ', g2, p2, q.keeps⟩
                  rcases hxx with rfl | rfl
                  · exact leave
                  · exact leave
                split at hh
                · rename_i env h1 hx
                  simp only [Option.map_eq_some_iff] at hh
                  obtain ⟨v, hres, e⟩ := hh
                  simp at e; obtain ⟨e1, e2⟩ := e
                  exact key _ env h1 hx (.inl rfl) v hres e1 e2
                · rename_i env h1 hx
                  simp only [Option.map_eq_some_iff] at hh
                  obtain ⟨v, hres, e⟩ := hh
                  simp at e; obtain ⟨e1, e2⟩ := e
                  exact key _ env h1 hx (.inr rfl) v hres e1 e2
                · simp at hh
            · simp at hh
          · simp at hh
      · cases hao
      · cases hao
    · rename_i l all hao
      -- a round
      unfold argsOf at hao
      split at hao
      · cases hao
      · rename_i args0 l' first cap
        cases hao
        cases hfv with
        | yield _ loc hl =>
        split at hh
        · rename_i r0 hl0
          split at hh
          · simp at hh
          · rename_i hsz
            simp only [ne_eq, Decidable.not_not] at hsz
            obtain ⟨hlow, hget⟩ := getLoopA_some hl0
            obtain ⟨R0, t1, t2, t3, t4, t5, t6, t7, t8, t9⟩ := hr.loopAt hl hget
            have hargs' : VRs μ args (#[] ++ args').toList := by simpa using hargs
            have hsz' : (#[] ++ args').size = R0.params.size := by
              have := hargs.1
              simp at hsz this ⊢
              rw [t4]; omega
            split at hh
            · rename_i env1 h1 hx1
              split at hh
              · rename_i r1 hl1
                split at hh
                · simp at hh
                · rename_i hready
                  simp only [ne_eq, Decidable.not_not] at hready
                  split at hh
                  · rename_i x envx h2 hx2
                    split at hh
                    · rename_i r2 hl2
                      simp only [Option.some.injEq, Prod.mk.injEq] at hh
                      obtain ⟨rfl, rfl⟩ := hh
                      refine ⟨{ target := .fn (.yield loc.blk) #[], args := #[] ++ args' }, rfl, .inr (.inr ⟨rfl, loc.blk, R0.fn, ((R0.params.zip (#[] ++ args')).foldl (fun (tmps : Array Value) (t, a) => tmps.setIfInBounds t a) R0.tmps), R0.assign, R0.body, w, ?_, ?_⟩)⟩
                      · exact run_yield t1 hsz'
                      · refine roundIn_of_wpIn trivial ?_
                        have htm : VRs μ (setTmps r0.tmps (r0.params.toList.zip ([] ++ args))) (((R0.params.zip (#[] ++ args')).foldl (fun (tmps : Array Value) (t, a) => tmps.setIfInBounds t a) R0.tmps)).toList := by
                          rw [t4, ← Array.foldl_toList, Array.toList_zip]
                          exact setTmps_VR (by simpa using hargs) t7
                        rw [t5, t6]
                        refine hex _ hx1 (ro := some loc.blk) t8 hg hr (fun l hl' => by cases hl'; exact ⟨_, loc, r0, hl, rfl, hget⟩) htm ?_
                        intro μ1 a1 w1 q1
                        obtain ⟨hlow1, hget1⟩ := getLoopA_some hl1
                        have hm1 := q1.post.le _ _ hl
                        obtain ⟨R1, u1, u2, u3, u4, u5, u6, u7, u8, u9⟩ := q1.post.hr.loopAt hm1 hget1
                        obtain ⟨p2, k2⟩ := q1.post.hr.putLoop (r' := { r1 with state := .busy }) (R' := { R1 with state := .busy }) hm1 hget1 hlow1 rfl u3 u4 u5 u6 u7 u8 u9
                        refine ⟨w1.putObj loc.blk (.loop { R1 with state := .busy }), run_beginRound u1 (by rw [u2]; exact hready), ?_⟩
                        have hbody : CodeOk μ1 r0.body := t9.mono q1.post.le
                        have pAll1 := Post.trans hr q1.keeps q1.post p2
                        have kAll1 := q1.keeps.trans k2
                        refine hex _ hx2 (ro := some loc.blk) hbody (hg.mono pAll1.le) p2.hr (fun l hl' => by
                          cases hl'
                          exact ⟨_, loc, { r1 with state := .busy }, hm1, rfl, by rw [AHeap.get_put _ _ _ (q1.post.hr.dom _ _ hm1).1, if_pos rfl]⟩) q1.env ?_
                        intro μ2 a2 w2 q2
                        obtain ⟨hlow2, hget2⟩ := getLoopA_some hl2
                        have hm2 := q2.post.le _ _ hm1
                        obtain ⟨R2, v1, v2, v3, v4, v5, v6, v7, v8, v9⟩ := q2.post.hr.loopAt hm2 hget2
                        have fin : ∀ (j : Option Code), j = jumpOf x → ∃ v w', (Instr.endRound loc.blk j).run P w2 = .ok v w' ∧ (∃ v', Ending.returned v = .returned v' ∧
                            CallR P B μ h w (.bool (jumpOf x).isNone) (h2.put l (some (.loop { r2 with state := if (jumpOf x).isNone then .ready else .done, pending := jumpOf x }))) v' w') := by
                          intro j hj
                          subst hj
                          obtain ⟨p4, k4⟩ := q2.post.hr.putLoop (r' := { r2 with state := if (jumpOf x).isNone then .ready else .done, pending := jumpOf x }) (R' := { R2 with state := if (jumpOf x).isNone then .ready else .done, pending := jumpOf x }) hm2 hget2 hlow2 rfl rfl v4 v5 v6 v7 v8 v9
                          refine ⟨_, _, run_endRound (jumpOf x) v1, _, rfl, μ2, .bool _, ?_, ?_⟩
                          · exact Post.trans hr (kAll1.trans q2.keeps) (Post.trans hr kAll1 pAll1 q2.post) p4
                          · exact (kAll1.trans q2.keeps).trans k4
                        cases x with
                        | normal => exact fin none rfl
                        | ret => exact fin (some .ret) rfl
                        | exit id => exact fin (some (.exit id)) rfl
                    · simp at hh
                  · simp at hh
              · simp at hh
            · simp at hh
        · simp at hh
      · cases hao
    · simp at hh

end Go.AM
