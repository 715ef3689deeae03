/- AM: the run of code is that of the model: structure. -/
import Derived.Test.YtgdcbjpookldoaaDoorAMCtl
import Derived.Scope
set_option linter.unusedSimpArgs false
set_option linter.unusedVariables false
namespace Go.AM
variable {P : Program} {B : Nat} {μ : Map} {h : AHeap} {w : World}

def mkMark (r : Nat) : Deferred := { target := .collected r, args := #[] }

/-- Blocks for rounds' deferred calls: empty, and nobody's. -/
def MarksOk (μ : Map) (w : World) (lo : Nat) (rs : List Nat) : Prop :=
  rs.Nodup ∧ ∀ r ∈ rs, lo ≤ r ∧ r < w.heap.size ∧ w.heap[r]? = some (.deferred (some [])) ∧ ∀ id loc, μ id = some loc → loc.blk ≠ r

theorem MarksOk.nil (μ : Map) (w : World) (lo : Nat) : MarksOk μ w lo [] := ⟨List.nodup_nil, fun r h => by cases h⟩

theorem notMine {r : Nat} (hm : ∀ id loc, μ id = some loc → loc.blk ≠ r) : ¬ Mine μ h r := fun ⟨id, loc, a, _, _, e⟩ => hm id loc a e

theorem MarksOk.post {μ' : Map} {h' : AHeap} {w' : World} {lo : Nat} {rs : List Nat} (m : MarksOk μ w lo rs) (p : Post P B μ h w μ' h' w') : MarksOk μ' w' lo rs := by
  refine ⟨m.1, fun r hr => ?_⟩
  obtain ⟨h1, h2, h3, h4⟩ := m.2 r hr
  refine ⟨h1, Nat.lt_of_lt_of_le h2 p.size, by rw [p.frame r h2 (notMine h4)]; exact h3, fun id loc hid => ?_⟩
  cases hm : μ id with
  | some loc0 => have := p.le _ _ hm; rw [hid] at this; cases this; exact h4 id loc hm
  | none =>
    rcases (p.fresh id loc hid hm).2 with h5 | ⟨id0, loc0, a, _, _, e⟩
    · omega
    · rw [← e]; exact h4 id0 loc0 a

theorem MarksOk.append {lo lo2 : Nat} {rs rs2 : List Nat} (m : MarksOk μ w lo rs) (m2 : MarksOk μ w lo2 rs2) (hlo : lo ≤ lo2) (hlt : ∀ r ∈ rs, r < lo2) : MarksOk μ w lo (rs2 ++ rs) := by
  refine ⟨List.nodup_append.2 ⟨m2.1, m.1, fun a ha b hb e => ?_⟩, fun r hr => ?_⟩
  · have := (m2.2 a ha).1
    have := hlt b hb
    omega
  · rcases List.mem_append.1 hr with h1 | h1
    · obtain ⟨a, b, c, d⟩ := m2.2 r h1; exact ⟨by omega, b, c, d⟩
    · exact m.2 r h1

/-- Is a round's frame one of a loop that the abstract heap holds? -/
def RoundOk (ro : Option Nat) (μ : Map) (h : AHeap) : Prop := ∀ l, ro = some l → ∃ id loc r, μ id = some loc ∧ loc.blk = l ∧ h.get id = some (.loop r)
theorem RoundOk.post {ro : Option Nat} {μ' : Map} {h' : AHeap} {w' : World} (k : RoundOk ro μ h) (p : Post P B μ h w μ' h' w') (q : Keeps h h') : RoundOk ro μ' h' := by
  intro l hl
  obtain ⟨id, loc, r, a, b, c⟩ := k l hl
  obtain ⟨r', c'⟩ := q.loop id r c
  exact ⟨id, loc, r', p.le _ _ a, b, c'⟩

/-- What holds behind a piece of code. -/
structure After (P : Program) (B : Nat) (μ : Map) (h : AHeap) (w : World) (a : Act) (env' : Env) (h' : AHeap) (μ' : Map) (a' : Act) (w' : World) : Prop where
  env : VRs μ' env' a'.tmps.toList
  marks : ∃ rs, a'.defers = rs.map mkMark ++ a.defers ∧ MarksOk μ' w' w.heap.size rs
  post : Post P B μ h w μ' h' w'
  keeps : Keeps h h'

theorem After.of {a a' : Act} {env' : Env} {h' : AHeap} {μ' : Map} {w' : World} (e : VRs μ' env' a'.tmps.toList) (d : a'.defers = a.defers) (p : Post P B μ h w μ' h' w') (k : Keeps h h') : After P B μ h w a env' h' μ' a' w' :=
  ⟨e, ⟨[], by simpa using d, MarksOk.nil _ _ _⟩, p, k⟩

theorem After.trans {a a1 a2 : Act} {env1 env2 : Env} {h1 h2 : AHeap} {μ1 μ2 : Map} {w1 w2 : World} (hr : HR P B μ h w) (x : After P B μ h w a env1 h1 μ1 a1 w1) (y : After P B μ1 h1 w1 a1 env2 h2 μ2 a2 w2) :
    After P B μ h w a env2 h2 μ2 a2 w2 := by
  obtain ⟨rs, d1, m1⟩ := x.marks
  obtain ⟨rs2, d2, m2⟩ := y.marks
  refine ⟨y.env, ⟨rs2 ++ rs, by rw [d2, d1]; simp, ?_⟩, Post.trans hr x.keeps x.post y.post, x.keeps.trans y.keeps⟩
  exact (m1.post y.post).append m2 x.post.size (fun r hr' => (m1.2 r hr').2.1)

def AExit.toExit : AExit → Exit
  | .normal => .normal
  | .exit id => .exit id
  | .ret => .ret

theorem wpIn_scope {ro : Option Nat} {c : Code} {Q : Exit → Act → World → Prop} {a : Act} (hc : c.wpIn (fenceAt ro) 0 P (Exit.noGoto Q) a w) : (Code.scope c).wpIn (fenceAt ro) 0 P Q a w := by
  intro b k cs hro hb hr
  have s1 : step P (lone (b.atR a (.code (.scope c) :: k)) cs w) = .next (lone (b.atR a (.code c :: .inScope c :: k)) cs w) := step_lone_go (by simp [stepG, stepG.exec, Frame.atR])
  have s2 : ∀ (a : Act) (w : World), step P (lone (b.atR a (.inScope c :: k)) cs w) = .next (lone (b.atR a k) cs w) := fun a w => step_lone_go (by simp [stepG, stepG.exec, Frame.atR])
  have h0 : (lone (b.atR a (.code (.scope c) :: k)) cs w).fenced P (fenceAt ro) := fenced_calm hb hr rfl
  obtain ⟨e, a₁, w₁, hq, harr⟩ := hc b (.inScope c :: k) cs hro hb hr
  cases e with
  | normal => exact ⟨.normal, a₁, w₁, hq, .head h0 s1 (StepsIn.trans harr (.one (fenced_calm (fr := b.atR a₁ (.inScope c :: k)) hb hr rfl) (s2 a₁ w₁)))⟩
  | exit id =>
    refine ⟨.exit id, a₁, w₁, hq, fun k' hk => .head h0 s1 (harr.1 k' (by simp [exitTo, hk])), fun hrd hk => ?_⟩
    obtain ⟨k₁, g1, g2⟩ := harr.2 hrd (by simp [exitTo, hk])
    exact ⟨k₁, g1, .head h0 s1 g2⟩
  | goto l => exact hq.elim
  | ret => exact ⟨.ret, a₁, w₁, hq, .of_steps (.one h0 s1) ⟨harr.1, harr.2⟩⟩
  | panic ch => exact ⟨.panic ch, a₁, w₁, hq, .of_steps (.one h0 s1) (show ArrivesIn _ P _ b k cs (.panic ch) a₁ w₁ from harr)⟩
  | outgrown => exact ⟨.outgrown, a₁, w₁, hq, .of_steps (.one h0 s1) (show ArrivesIn _ P _ b k cs .outgrown a₁ w₁ from harr)⟩

/-- What is owed for regions that draw their order. -/
def DrawSound (P : Program) (G : Nat → Bool) (call : CallV) : Prop :=
  ∀ (B : Nat) (ops : Array Oper) (id : Nat) (ro : Option Nat) (env : Env) (h : AHeap) (env' : Env) (h' : AHeap) (μ : Map) (w : World) (a : Act) (Q : Exit → Act → World → Prop), (∀ o ∈ ops.toList, OpersOk μ o) →
    regionE P call ops true env h = some (env', h') → GOk G μ → HR P B μ h w → VRs μ env a.tmps.toList →
    (∀ μ' a' w', VRs μ' env' a'.tmps.toList → a'.defers = a.defers → Post P B μ h w μ' h' w' → Keeps h h' → Q .normal a' w') → (Code.region id ops true).wpIn (fenceAt ro) 0 P Q a w

def ExecOk (P : Program) (G : Nat → Bool) (call : CallV) (n : Nat) (c : Code) : Prop :=
  ∀ {B : Nat} {env : Env} {h : AHeap} {x : AExit} {env' : Env} {h' : AHeap}, exec P call n c env h = some (x, env', h') → ∀ {ro : Option Nat} {μ : Map} {w : World} {a : Act} {Q : Exit → Act → World → Prop},
    CodeOk μ c → GOk G μ → HR P B μ h w → RoundOk ro μ h → VRs μ env a.tmps.toList → (∀ μ' a' w', After P B μ h w a env' h' μ' a' w' → Q x.toExit a' w') → c.wpIn (fenceAt ro) 0 P Q a w

theorem loop_sound {G : Nat → Bool} {call : CallV} {n : Nat} {c : Code} (ih : ExecOk P G call n c) : ∀ (m : Nat) {B : Nat} {env : Env} {h : AHeap} {x : AExit} {env' : Env} {h' : AHeap},
    iterE (exec P call n c) m env h = some (x, env', h') → ∀ {ro : Option Nat} {μ : Map} {w : World} {a : Act} {Q : Exit → Act → World → Prop},
    CodeOk μ c → GOk G μ → HR P B μ h w → RoundOk ro μ h → VRs μ env a.tmps.toList → (∀ μ' a' w', After P B μ h w a env' h' μ' a' w' → Q x.toExit a' w') → Code.roundsIn (fenceAt ro) 0 P c Q m a w := by
  intro m
  induction m with
  | zero => intro B env h x env' h' hh; simp [iterE] at hh
  | succ m ihm =>
    intro B env h x env' h' hh ro μ w a Q hok hg hr hro he hq
    rw [roundsIn_succ]
    simp only [iterE] at hh
    cases hs : exec P call n c env h with
    | none => rw [hs] at hh; simp at hh
    | some r =>
      obtain ⟨y, env1, h1⟩ := r
      rw [hs] at hh
      refine ih hs hok hg hr hro he ?_
      intro μ1 a1 w1 q1
      cases y with
      | normal =>
        refine ihm hh (hok.mono q1.post.le) (hg.mono q1.post.le) q1.post.hr (hro.post q1.post q1.keeps) q1.env ?_
        intro μ' a' w' q2
        exact hq μ' a' w' (After.trans hr q1 q2)
      | exit id =>
        simp at hh; obtain ⟨rfl, rfl, rfl⟩ := hh
        exact hq μ1 a1 w1 q1
      | ret =>
        simp at hh; obtain ⟨rfl, rfl, rfl⟩ := hh
        exact hq μ1 a1 w1 q1

theorem alloc_old (w : World) (O : Obj) (b : Nat) (hb : b < w.heap.size) : (w.alloc O).heap[b]? = w.heap[b]? := by
  show (w.heap.push O)[b]? = _
  rw [Array.getElem?_push, if_neg (by omega)]

/-- A block for deferred calls is laid: nobody's. -/
theorem HR.other (hr : HR P B μ h w) (O : Obj) : Post P B μ h w μ h (w.alloc O) := by
  refine ⟨Map.le_refl _, fun i l a b => (by rw [a] at b; cases b), ⟨fun id loc a => ?_, fun id loc o a g => ?_, hr.own, hr.low, ?_⟩, by simp, fun b hb _ => alloc_old w O b hb, fun _ _ _ => rfl, ⟨rfl, rfl, rfl⟩⟩
  · have := hr.dom id loc a; simp; omega
  · rw [alloc_old w O _ (hr.dom id loc a).2]; exact hr.obj id loc o a g
  · have := hr.base; simp; omega

theorem getLoopA_some {l : Nat} {r : ALoop} (hh : getLoopA h l = some r) : h.low ≤ l ∧ h.get l = some (.loop r) := by
  unfold getLoopA at hh
  split at hh
  · rename_i hl
    split at hh
    · rename_i r' hg; cases hh; exact ⟨hl, hg⟩
    · cases hh
  · cases hh

/-- A loop's record in the world. -/
theorem HR.loopAt (hr : HR P B μ h w) {id : Nat} {loc : Loc} {r : ALoop} (hm : μ id = some loc) (hg : h.get id = some (.loop r)) :
    ∃ R : Loop, w.heap[loc.blk]? = some (.loop R) ∧ R.state = r.state ∧ R.pending = r.pending ∧ R.params = r.params ∧ R.assign = r.assign ∧ R.body = r.body ∧ VRs μ r.tmps R.tmps.toList ∧ CodeOk μ r.assign ∧ CodeOk μ r.body := by
  obtain ⟨O, h1, h2⟩ := hr.obj id loc _ hm hg
  cases O with
  | loop R => exact ⟨R, h1, h2⟩
  | _ => exact h2.elim

/-- It is written. -/
theorem HR.putLoop (hr : HR P B μ h w) {id : Nat} {loc : Loc} {r r' : ALoop} {R' : Loop} (hm : μ id = some loc) (hg : h.get id = some (.loop r)) (hlow : h.low ≤ id)
    (h1 : R'.state = r'.state) (h2 : R'.pending = r'.pending) (h3 : R'.params = r'.params) (h4 : R'.assign = r'.assign) (h5 : R'.body = r'.body) (h6 : VRs μ r'.tmps R'.tmps.toList) (h7 : CodeOk μ r'.assign) (h8 : CodeOk μ r'.body) :
    Post P B μ h w μ (h.put id (some (.loop r'))) (w.putObj loc.blk (.loop R')) ∧ Keeps h (h.put id (some (.loop r'))) :=
  hr.put (O := .loop R') hm (by rw [hg]; simp) hlow (by simp) (fun b hb => World.putObj_heap_other hb) (World.putObj_heap_same (hr.dom id loc hm).2) ⟨h1, h2, h3, h4, h5, h6, h7, h8⟩ (fun _ _ => ⟨r', rfl⟩) ⟨rfl, rfl, rfl⟩

theorem exec_sound {G : Nat → Bool} {call : CallV} (hc : CallSound P G call) (hd : DrawSound P G call) (n : Nat) (c : Code) : ExecOk P G call n c := by
  induction c with
  | skip =>
    intro B env h x env' h' hh ro μ w a Q hok hg hr hro he hq
    simp [exec] at hh; obtain ⟨rfl, rfl, rfl⟩ := hh
    exact wpIn_skip (hq μ a w (After.of he rfl (Post.refl hr) (Keeps.refl h)))
  | label l =>
    intro B env h x env' h' hh ro μ w a Q hok hg hr hro he hq
    simp [exec] at hh; obtain ⟨rfl, rfl, rfl⟩ := hh
    exact wpIn_label (hq μ a w (After.of he rfl (Post.refl hr) (Keeps.refl h)))
  | ret =>
    intro B env h x env' h' hh ro μ w a Q hok hg hr hro he hq
    simp [exec] at hh; obtain ⟨rfl, rfl, rfl⟩ := hh
    exact wpIn_ret (hq μ a w (After.of he rfl (Post.refl hr) (Keeps.refl h)))
  | exit id =>
    intro B env h x env' h' hh ro μ w a Q hok hg hr hro he hq
    simp [exec] at hh; obtain ⟨rfl, rfl, rfl⟩ := hh
    exact wpIn_exit (hq μ a w (After.of he rfl (Post.refl hr) (Keeps.refl h)))
  | goto l => intro B env h x env' h' hh; simp [exec] at hh
  | refuse l => intro B env h x env' h' hh; simp [exec] at hh
  | region id ops draw =>
    intro B env h x env' h' hh ro μ w a Q hok hg hr hro he hq
    simp only [exec, Option.map_eq_some_iff] at hh
    obtain ⟨⟨env1, h1⟩, hh, e⟩ := hh
    simp at e; obtain ⟨rfl, rfl, rfl⟩ := e
    cases draw with
    | true => exact hd B ops id ro env h env1 h1 μ w a Q hok hh hg hr he (fun μ' a' w' q1 q2 q3 q4 => hq μ' a' w' (After.of q1 q2 q3 q4))
    | false =>
      simp only [regionE, Bool.false_eq_true, if_false] at hh
      refine wpIn_region ?_
      have := opsE_sound (B := B) hc ops.toList ro (Q := Q) ops.toList 0 (by simp) hh hok hg hr he (fun μ' a' w' q1 q2 q3 q4 => hq μ' a' w' (After.of q1 q2 q3 q4))
      rw [List.range_eq_range']
      simpa using this
  | seq c1 c2 ih1 ih2 =>
    intro B env h x env' h' hh ro μ w a Q hok hg hr hro he hq
    simp only [exec] at hh
    refine wpIn_seq ?_
    cases hs : exec P call n c1 env h with
    | none => rw [hs] at hh; simp at hh
    | some r =>
      obtain ⟨y, env1, h1⟩ := r
      rw [hs] at hh
      refine ih1 hs hok.1 hg hr hro he ?_
      intro μ1 a1 w1 q1
      cases y with
      | normal =>
        refine ih2 hh (hok.2.mono q1.post.le) (hg.mono q1.post.le) q1.post.hr (hro.post q1.post q1.keeps) q1.env ?_
        intro μ' a' w' q2
        exact hq μ' a' w' (After.trans hr q1 q2)
      | exit id => simp at hh; obtain ⟨rfl, rfl, rfl⟩ := hh; exact hq μ1 a1 w1 q1
      | ret => simp at hh; obtain ⟨rfl, rfl, rfl⟩ := hh; exact hq μ1 a1 w1 q1
  | cond c c1 c2 ih1 ih2 =>
    intro B env h x env' h' hh ro μ w a Q hok hg hr hro he hq
    simp only [exec] at hh
    have hv := eval_VR he hok.1
    split at hh
    · rename_i hb
      rw [hb] at hv
      generalize hvv : a.eval c = cv at hv
      cases hv
      exact wpIn_cond_true hvv (ih1 hh hok.2.1 hg hr hro he hq)
    · rename_i hb
      rw [hb] at hv
      generalize hvv : a.eval c = cv at hv
      cases hv
      exact wpIn_cond_false hvv (ih2 hh hok.2.2 hg hr hro he hq)
    · simp at hh
  | block id c ih =>
    intro B env h x env' h' hh ro μ w a Q hok hg hr hro he hq
    simp only [exec] at hh
    refine wpIn_block ?_
    cases hs : exec P call n c env h with
    | none => rw [hs] at hh; simp at hh
    | some r =>
      obtain ⟨y, env1, h1⟩ := r
      rw [hs] at hh
      refine ih hs hok hg hr hro he ?_
      intro μ1 a1 w1 q1
      cases y with
      | normal => simp at hh; obtain ⟨rfl, rfl, rfl⟩ := hh; exact hq μ1 a1 w1 q1
      | exit id' =>
        simp only at hh
        simp only [AExit.toExit, Exit.inBlock]
        by_cases e : id' = id
        · subst e
          simp at hh; obtain ⟨rfl, rfl, rfl⟩ := hh
          rw [if_pos rfl]; exact hq μ1 a1 w1 q1
        · have e' : (id' == id) = false := by simpa using e
          rw [e'] at hh
          simp at hh; obtain ⟨rfl, rfl, rfl⟩ := hh
          rw [if_neg e]; exact hq μ1 a1 w1 q1
      | ret => simp at hh; obtain ⟨rfl, rfl, rfl⟩ := hh; exact hq μ1 a1 w1 q1
  | loop c ih =>
    intro B env h x env' h' hh ro μ w a Q hok hg hr hro he hq
    simp only [exec] at hh
    exact wpIn_loop_rounds n (loop_sound ih n hh hok hg hr hro he hq)
  | scope c ih =>
    intro B env h x env' h' hh ro μ w a Q hok hg hr hro he hq
    simp only [exec] at hh
    refine wpIn_scope (ih hh hok hg hr hro he ?_)
    intro μ' a' w' q
    have := hq μ' a' w' q
    cases x <;> exact this
  | rangeFunc f ps c1 c2 ih1 ih2 =>
    intro B env h x env' h' hh ro μ w a Q hok hg hr hro he hq
    simp only [exec] at hh
    split at hh
    · simp at hh
    · rename_i hent
      simp only [Bool.not_eq_true, Bool.not_eq_false'] at hent
      have hent' : entersV P (evalE env f) = true := by simpa using hent
      split at hh
      · rename_i rv h1 hcall
        split at hh
        · rename_i r1 hl1
          split at hh
          · simp at hh
          · rename_i hbusy
            simp only [Option.map_eq_some_iff] at hh
            obtain ⟨y, hy, e⟩ := hh
            simp at e; obtain ⟨rfl, rfl, rfl⟩ := e
            refine wpIn_rangeFunc ?_
            intro fn _
            -- entering: the record, and at an outermost loop the block and its mark
            have enter : ∃ (l : Nat) (mark : List Deferred) (w1 : World) (R : Loop) (rs : List Nat), (Instr.enterLoop fn a.tmps ps c1 c2 (fenceAt ro).round).run P w = .ok (l, mark) w1 ∧ mark = rs.map mkMark ∧
                ∃ w0, Post P B μ h w μ h w0 ∧ MarksOk μ w0 w.heap.size rs ∧ w1 = w0.alloc (.loop R) ∧ l = w0.heap.size ∧
                  R.state = .ready ∧ R.pending = none ∧ R.params = ps ∧ R.assign = c1 ∧ R.body = c2 ∧ R.tmps = a.tmps := by
              rw [fenceAt_round]
              cases ro with
              | none =>
                refine ⟨_, _, _, _, [w.heap.size], run_enterLoop_outer fn a.tmps ps c1 c2, rfl, w.alloc (.deferred (some [])), hr.other _, ⟨by simp, fun r hr' => ?_⟩, rfl, by simp, rfl, rfl, rfl, rfl, rfl, rfl⟩
                simp at hr'; subst hr'
                refine ⟨Nat.le_refl _, by simp, World.alloc_heap_new w _, fun id loc hm => ?_⟩
                have := (hr.dom id loc hm).2; omega
              | some l0 =>
                obtain ⟨id, loc, r, g1, g2, g3⟩ := hro l0 rfl
                obtain ⟨R, k1, _⟩ := hr.loopAt g1 g3
                rw [g2] at k1
                exact ⟨_, _, _, _, [], run_enterLoop_inner k1 fn a.tmps ps c1 c2, rfl, w, Post.refl hr, MarksOk.nil _ _ _, rfl, rfl, rfl, rfl, rfl, rfl, rfl, rfl⟩
            obtain ⟨l, mark, w1, R, rs, e1, e2, w0, p0, m0, e3, e4, s1, s2, s3, s4, s5, s6⟩ := enter
            subst e2; subst e3; subst e4
            obtain ⟨μ1, hm1, p1, k1, _⟩ := p0.hr.alloc (O := .loop R) (loc := ⟨w0.heap.size, 0, 0, 0, 0, false, false⟩) (o := .loop { state := .ready, pending := none, tmps := env, params := ps, assign := c1, body := c2 }) ⟨rfl, rfl⟩ (fun μ' hle _ =>
              ⟨s1, s2, s3, s4, s5, by rw [s6]; exact (he.mono p0.le).mono hle, (hok.2.1.mono p0.le).mono hle, (hok.2.2.mono p0.le).mono hle⟩)
            have hg1 : GOk G μ1 := hg.mono p1.le
            have hfv := (eval_VR he hok.1).mono p1.le
            have hargs : VRs μ1 [.func (.yield h.next) #[] #[]] (#[Value.func (.yield w0.heap.size) #[] #[]] : Array Value).toList := VRs.cons (.yield _ _ hm1) (VRs.nil _)
            obtain ⟨d, hd', hcase⟩ := hc hcall hg1 p1.hr hfv hargs
            rcases hcase with ⟨hmust, _⟩ | ⟨f', as, w2, i1, hci⟩ | ⟨hmust, _⟩
            · rw [hent'] at hmust; cases hmust
            · refine ⟨w0.heap.size, rs.map mkMark, w0.alloc (.loop R), d, w0.alloc (.loop R), f', as, w2, e1, ?_, fun _ _ => fenceAt_fn ro _, i1, fun hd => (by rw [fenceAt_depth] at hd; cases hd), ?_⟩
              · have : Deferred.ofValue (a.eval f) #[Value.func (.yield w0.heap.size) #[] #[]] = pure d := hd'
                have e7 : (#[Operand.const (Value.func (.yield w0.heap.size) #[] #[])].map a.eval) = #[Value.func (.yield w0.heap.size) #[] #[]] := by simp [Act.eval]
                show Sem.run P (Deferred.ofValue (a.eval f) (#[Operand.const (Value.func (.yield w0.heap.size) #[] #[])].map a.eval)) _ = _
                rw [e7, this]; rfl
              · refine (fenceAt_calls hci).mono ?_
                rintro e w3 ⟨v3, rfl, μ3, g1, g2, g3⟩
                obtain ⟨hlow1, hget1⟩ := getLoopA_some hl1
                have hm3 : μ3 h.next = some ⟨w0.heap.size, 0, 0, 0, 0, false, false⟩ := g2.le _ _ hm1
                obtain ⟨R3, t1, t2, t3, t4, t5, t6, t7, t8, t9⟩ := g2.hr.loopAt hm3 hget1
                have hnb : R3.state ≠ .busy := by rw [t2]; intro e; exact hbusy (by rw [e]; rfl)
                obtain ⟨p4, k4⟩ := g2.hr.putLoop (r' := { r1 with state := .exhausted }) (R' := { R3 with state := .exhausted }) hm3 hget1 hlow1 rfl t3 t4 t5 t6 t7 t8 t9
                refine ⟨R3.pending, w3.putObj w0.heap.size (.loop { R3 with state := .exhausted }), run_endLoop t1 hnb, ?_⟩
                -- all that has come
                have pAll := Post.trans hr (Keeps.refl h) p0 (Post.trans p0.hr k1 p1 (Post.trans p1.hr g3 g2 p4))
                have kAll := (k1.trans g3).trans k4
                have mAll : MarksOk μ3 (w3.putObj w0.heap.size (.loop { R3 with state := .exhausted })) w.heap.size rs := m0.post (Post.trans p0.hr k1 p1 (Post.trans p1.hr g3 g2 p4))
                have aft : After P B μ h w a env (h1.put h.next (some (.loop { r1 with state := .exhausted }))) μ3 { a with defers := rs.map mkMark ++ a.defers } (w3.putObj w0.heap.size (.loop { R3 with state := .exhausted })) :=
                  ⟨he.mono pAll.le, ⟨rs, rfl, mAll⟩, pAll, kAll⟩
                have hq' := hq _ _ _ aft
                rw [t3] at hq' ⊢
                cases hpd : r1.pending with
                | none => rw [hpd] at hy hq'; simp [exitOf] at hy; subst hy; exact hq'
                | some jc =>
                  rw [hpd] at hy hq'
                  unfold exitOf at hy
                  split at hy
                  · rename_i e5; cases e5
                  · rename_i id e5; cases e5; cases hy; exact wpIn_exit hq'
                  · rename_i e5; cases e5; cases hy; exact wpIn_ret hq'
                  · cases hy
            · rw [hent'] at hmust; cases hmust
        · simp at hh
      · simp at hh

end Go.AM
