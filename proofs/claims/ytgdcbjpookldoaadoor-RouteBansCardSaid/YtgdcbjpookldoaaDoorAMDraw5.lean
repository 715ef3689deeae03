/- AM: regions that draw their order: the whole. -/
import Derived.Test.YtgdcbjpookldoaaDoorAMLoose
set_option linter.unusedSimpArgs false
set_option linter.unusedVariables false
namespace Go.AM
variable {P : Program} {B : Nat}

theorem opE_aOp {call : CallV} {env : Env} {o : Oper} (h : AHeap) (hc : isCallO o.op = false) : opE P call env o h = aOp P (evalE env) o.op h := by
  unfold opE
  split
  · rename_i ho; rw [ho] at hc; simp [isCallO] at hc
  · rfl

section
variable {all : List Oper} {Es : Nat → Env} {Hs : Nat → AHeap} {rv : Nat → Value} {μ0 : Map} {w0 : World} {a0 : Act} {L : Nat → Prop} {μ : Map} {a : Act} {w : World}

theorem DInv.hrBlank (I : DInv P B all Es Hs μ0 w0 a0 L μ a w) (n : Nat) : HR P B (upTo μ n) (blank n) w :=
  ⟨fun id loc e => ⟨(upTo_some e).1, (I.dom id loc (upTo_some e).2).1⟩, fun id loc o _ g => (by rw [blank_get] at g; cases g), fun id loc _ g => absurd (blank_get n id) g, Nat.le_refl _, I.base⟩

theorem DInv.le_upTo (I : DInv P B all Es Hs μ0 w0 a0 L μ a w) (hk : HsOk all Hs) (hdom0 : ∀ id loc, μ0 id = some loc → id < (Hs 0).next) {j : Nat} (hj : j ≤ all.length) : μ0.le (upTo μ (Hs j).next) := by
  intro id loc e
  have h1 := hdom0 id loc e
  have h2 := hk.next_mono (Nat.zero_le j) hj
  unfold upTo
  rw [if_pos (by omega)]
  exact I.le id loc e

theorem wpOp_step {G : Nat → Bool} {call : CallV} (hc : CallSound P G call) (d : DrawOk all) (hk : HsOk all Hs) {env : Env} {h : AHeap} {env' : Env} {h' : AHeap} (t : Trace P call all env h env' h' Es Hs rv)
    (hdom0 : ∀ id loc, μ0 id = some loc → id < (Hs 0).next) (hall : ∀ o ∈ all, OpersOk μ0 o) (hg : GOk G μ0) (lo : LooseOk P all Es Hs rv) (I : DInv P B all Es Hs μ0 w0 a0 L μ a w) {j : Nat} {o : Oper} (ho : all[j]? = some o) (hr : ReadyD all L j) (ro : Option Nat)
    {Q : Exit → Act → World → Prop} {K : Act → World → Prop} (hK : ∀ μ' a' w', DInv P B all Es Hs μ0 w0 a0 (fun i => i = j ∨ L i) μ' a' w' → K a' w') : wpOpIn (fenceAt ro) 0 P all.toArray Q j K a w := by
  have hj := (List.getElem?_eq_some_iff.1 ho).1
  have hle0 := I.le_upTo hk hdom0 (show j ≤ all.length by omega)
  have hok : OpersOk (upTo μ (Hs j).next) o := (hall o (List.mem_of_getElem? ho)).mono hle0
  have hgj : GOk G (upTo μ (Hs j).next) := hg.mono hle0
  have hev := I.evals d hk t ho hr hok
  obtain ⟨_, hst⟩ := t.st j o ho
  unfold wpOpIn
  have ho' : all.toArray[j]? = some o := by simpa using ho
  rw [ho']
  simp only
  have hwe := I.wanted d hk t ho hr
  rw [hwe] at hst
  by_cases hw : Region.wanted o (yielded all.toArray a.tmps) = true
  · rw [if_pos hw] at hst ⊢
    unfold stepD at hst
    split at hst
    · -- a call that is not tied
      rename_i hct
      simp only [Bool.and_eq_true, Bool.not_eq_true'] at hct
      obtain ⟨h1, e1, e2⟩ := hst
      have hwr : writesO o.op = false := by
        have := hct.1
        unfold isCallO at this
        split at this
        · rename_i heq; rw [heq]; rfl
        · cases this
      have hnW : isW all j = false := by unfold isW; rw [ho]; simp [hwr, hct.2]
      have hrX := (I.hrAt d hk ho hr (looks_of_call hct.1) (not_loose ho (nr_of_call hct.1))).protect
      refine opE_sound hc e1 hgj hrX hev ro (fun v' w' μ' g1 g2 g3 => hK _ _ _ (I.step_ro d hk t ho hr hnW (hX := { Hs j with low := (Hs j).next }) rfl rfl ?_ ?_ hrX g1 g2 g3))
      · rw [e2]
      · intro id _; rw [e2]; rfl
    · rename_i hct
      cases hW : isW all j with
      | true =>
        have hl : looksO o.op = true := by
          obtain ⟨q, hq, hql, _⟩ := W_tied d hW
          rw [ho] at hq; cases hq; exact hql
        exact opE_sound hc hst hgj (I.hrAt d hk ho hr hl (not_loose ho (W_reads ho hW))) hev ro (fun v' w' μ' g1 g2 g3 => hK _ _ _ (I.step_w d hk t hdom0 ho hr hW g1 g2))
      | false =>
        have hW' := hW
        unfold isW at hW'
        rw [ho] at hW'
        simp only [Option.map_some, Option.getD_some, Bool.or_eq_false_iff] at hW'
        have hnc : isCallO o.op = false := by
          cases e : isCallO o.op with
          | false => rfl
          | true =>
            have h2 := hW'.2
            rw [e] at h2 hct
            simp only [Bool.true_and] at h2 hct
            rw [h2] at hct
            simp at hct
        rw [opE_aOp _ hnc] at hst
        cases hl : looksO o.op with
        | true =>
          cases hls : loose all j with
          | true =>
            obtain ⟨hX, K, q1, q2, q3, q4, q5, q6⟩ := I.read d hk t lo ho hr hls (by rw [hwe]; exact hw) hev
            have hgK : GOk G (upTo μ K) := hgj.mono (upTo_mono (Map.le_refl _) q5)
            rw [← opE_aOp (call := call) _ hnc] at q4
            refine opE_sound hc q4 hgK q1 (fun x hx => (hev x hx).mono (upTo_mono (Map.le_refl _) q5)) ro (fun v' w' μ' g1 g2 g3 => hK _ _ _ (I.step_read d hk t ho hr hW ?_ g2.size ?_ g2.env))
            · have hle : μ'.le (upTo μ K) := by
                intro id loc e
                cases e2 : upTo μ K id with
                | none => have h1 := (g2.fresh id loc e e2).1; have h2 := (g2.hr.dom id loc e).1; omega
                | some l => have := g2.le id l e2; rw [e] at this; rw [this]
              exact (VR.restrict 20 q6 (g1.mono hle)).mono (upTo_mono (Map.le_refl _) (hk.next_mono (by omega) (by omega)))
            · exact fun b hb => g2.frame b hb (not_mine_protect (fun id loc e => (q1.dom id loc e).1) (by rw [q2, q3]) b)
          | false =>
          obtain ⟨h1, e1, e2⟩ := aOp_protect (Hs j).next hW'.1 hst
          have hrX := (I.hrAt d hk ho hr hl hls).protect
          rw [← opE_aOp (call := call) _ hnc] at e1
          refine opE_sound hc e1 hgj hrX hev ro (fun v' w' μ' g1 g2 g3 => hK _ _ _ (I.step_ro d hk t ho hr hW (hX := { Hs j with low := (Hs j).next }) rfl rfl ?_ ?_ hrX g1 g2 g3))
          · rw [e2]
          · intro id _; rw [e2]; rfl
        | false =>
          obtain ⟨h1, e1, e2, e3⟩ := aOp_blank hl hst
          have hrX := I.hrBlank (Hs j).next
          rw [← opE_aOp (call := call) _ hnc] at e1
          exact opE_sound hc e1 hgj hrX hev ro (fun v' w' μ' g1 g2 g3 => hK _ _ _ (I.step_ro d hk t ho hr hW (hX := blank (Hs j).next) rfl rfl e2 e3 hrX g1 g2 g3))
  · rw [if_neg hw] at hst ⊢
    obtain ⟨e1, e2⟩ := hst
    refine ⟨fun f _ => fenceAt_fn ro f, ?_⟩
    cases hW : isW all j with
    | true =>
      have hl : looksO o.op = true := by
        obtain ⟨q, hq, hql, _⟩ := W_tied d hW
        rw [ho] at hq; cases hq; exact hql
      have hrX := I.hrAt d hk ho hr hl (not_loose ho (W_reads ho hW))
      have p := Post.refl hrX
      rw [← e2] at p
      have hv : VR (upTo μ (Hs (j + 1)).next) (rv j) undef := by rw [e1]; exact .undef _
      rw [e2] at hv p
      refine hK _ _ _ (I.step_w d hk t hdom0 ho hr hW hv ?_)
      rw [e2]; exact p
    | false =>
      have hrX := I.hrBlank (Hs j).next
      refine hK _ _ _ (I.step_ro d hk t ho hr hW (hX := blank (Hs j).next) (hX1 := blank (Hs j).next) rfl rfl (by rw [e2]; rfl) ?_ hrX (by rw [e1]; exact .undef _) (Post.refl hrX) (Keeps.refl _))
      intro id hid
      rw [blank_get, e2, (Hs j).get_ge id hid]

/-- What has been listed. -/
def Lof (listed : Array Bool) : Nat → Prop := fun j => listed[j]? = some true

theorem mem_ready {ops : Array Oper} {listed : Array Bool} {i : Nat} (h : i ∈ Region.ready .any ops listed) :
    listed.getD i true = false ∧ ∃ o, ops[i]? = some o ∧ ∀ e ∈ o.after.toList, Region.binds .any e = true → listed.getD e.on false = true := by
  unfold Region.ready at h
  simp only [List.mem_filter, List.mem_range, Bool.and_eq_true, Bool.not_eq_true'] at h
  obtain ⟨h1, h2, h3⟩ := h
  refine ⟨h2, ?_⟩
  have ho := Array.getElem?_eq_getElem h1
  refine ⟨_, ho, fun e he hb => ?_⟩
  rw [ho] at h3
  simp only [Option.map_some, Option.getD_some, Array.all_eq_true'] at h3
  have := h3 e (by simpa using he)
  rw [hb] at this
  simpa using this

/-- While something is not listed, something is ready. -/
theorem ready_ne {ops : Array Oper} (d : DrawOk ops.toList) {listed : Array Bool} (hs : listed.size = ops.size) (h : Region.ready .any ops listed = []) : ∀ j, j < ops.size → Lof listed j := by
  intro j
  induction j using Nat.strongRecOn with
  | _ j ih =>
    intro hj
    unfold Lof
    cases hlj : listed[j]? with
    | none => have := Array.getElem?_eq_none_iff.1 hlj; omega
    | some b =>
      cases b with
      | true => rfl
      | false =>
        exfalso
        have : j ∈ Region.ready .any ops listed := by
          unfold Region.ready
          simp only [List.mem_filter, List.mem_range, Bool.and_eq_true, Bool.not_eq_true']
          refine ⟨hj, by simp [Array.getD_eq_getD_getElem?, hlj], ?_⟩
          have ho := Array.getElem?_eq_getElem hj
          rw [ho]
          simp only [Option.map_some, Option.getD_some, Array.all_eq_true']
          intro e he
          cases hb : Region.binds .any e with
          | false => rfl
          | true =>
          have b1 := d.back j ops[j] (by rw [Array.getElem?_toList]; exact ho) e (by simpa using he) hb
          have := ih e.on b1 (by omega)
          unfold Lof at this
          simp [Array.getD_eq_getD_getElem?, this]
        rw [h] at this
        cases this

theorem DInv.congr {L' : Nat → Prop} (I : DInv P B all Es Hs μ0 w0 a0 L μ a w) (h : ∀ j, L j ↔ L' j) : DInv P B all Es Hs μ0 w0 a0 L' μ a w := by
  have : L = L' := funext fun j => propext (h j)
  rw [← this]; exact I

theorem any_sound {ops : Array Oper} {G : Nat → Bool} {call : CallV} (hc : CallSound P G call) (d : DrawOk ops.toList) (hk : HsOk ops.toList Hs) {env : Env} {h : AHeap} {env' : Env} {h' : AHeap} (t : Trace P call ops.toList env h env' h' Es Hs rv)
    (hdom0 : ∀ id loc, μ0 id = some loc → id < (Hs 0).next) (hall : ∀ o ∈ ops.toList, OpersOk μ0 o) (hg : GOk G μ0) (lo : LooseOk P ops.toList Es Hs rv) (ro : Option Nat) {Q : Exit → Act → World → Prop}
    (hQ : ∀ μ a w, DInv P B ops.toList Es Hs μ0 w0 a0 (fun j => j < ops.size) μ a w → Q .normal a w) :
    ∀ (fuel : Nat) {listed : Array Bool} {μ : Map} {a : Act} {w : World}, listed.size = ops.size → listed.toList.count false ≤ fuel → DInv P B ops.toList Es Hs μ0 w0 a0 (Lof listed) μ a w →
      wpAnyIn (fenceAt ro) 0 P .any ops Q fuel listed a w := by
  have fin : ∀ {listed : Array Bool} {μ : Map} {a : Act} {w : World}, listed.size = ops.size → DInv P B ops.toList Es Hs μ0 w0 a0 (Lof listed) μ a w → Region.ready .any ops listed = [] → Q .normal a w := by
    intro listed μ a w hs I hnil
    have hL := ready_ne d hs hnil
    refine hQ μ a w (I.congr fun j => ⟨fun h => ?_, hL j⟩)
    have := I.lt j h; simpa using this
  intro fuel
  induction fuel with
  | zero =>
    intro listed μ a w hs hcnt I
    have hnil : Region.ready .any ops listed = [] := by
      cases e : Region.ready .any ops listed with
      | nil => rfl
      | cons x xs =>
        exfalso
        obtain ⟨h1, o, h2, _⟩ := mem_ready (i := x) (by rw [e]; simp)
        have hx : x < listed.size := by rw [hs]; exact (Array.getElem?_eq_some_iff.1 h2).1
        have h3 : listed[x]? = some false := by
          rw [Array.getD_eq_getD_getElem?, Array.getElem?_eq_getElem hx] at h1
          rw [Array.getElem?_eq_getElem hx]; simpa using h1
        have h4 : false ∈ listed.toList := List.mem_of_getElem? (by rw [Array.getElem?_toList]; exact h3)
        have := List.count_pos_iff.2 h4
        omega
    exact ⟨hnil, fin hs I hnil⟩
  | succ fuel ih =>
    intro listed μ a w hs hcnt I
    refine ⟨fin hs I, fun j hj => ?_⟩
    obtain ⟨h1, o, h2, h3⟩ := mem_ready hj
    have hx : j < listed.size := by rw [hs]; exact (Array.getElem?_eq_some_iff.1 h2).1
    have h4 : listed[j]? = some false := by
      rw [Array.getD_eq_getD_getElem?, Array.getElem?_eq_getElem hx] at h1
      rw [Array.getElem?_eq_getElem hx]; simpa using h1
    have ho : ops.toList[j]? = some o := by rw [Array.getElem?_toList]; exact h2
    have hr : ReadyD ops.toList (Lof listed) j := by
      refine ⟨fun h => ?_, fun q hq e he hb => ?_⟩
      · unfold Lof at h; rw [h4] at h; cases h
      · rw [ho] at hq; cases hq
        have := h3 e he hb
        unfold Lof
        rw [Array.getD_eq_getD_getElem?] at this
        cases e5 : listed[e.on]? with
        | none => rw [e5] at this; simp at this
        | some b => rw [e5] at this; simp at this; rw [this]
    refine wpOp_step (L := Lof listed) hc d hk t hdom0 hall hg lo I ho hr ro ?_
    intro μ' a' w' I'
    refine ih (by simpa using hs) ?_ (I'.congr fun i => ?_)
    · rw [Array.toList_setIfInBounds, List.count_set (by simpa using hx)]
      have h5 : listed.toList[j]'(by simpa using hx) = false := by
        have := Array.getElem?_eq_getElem hx
        rw [h4] at this
        simpa using (Option.some.inj this).symm
      rw [h5]
      simp only [beq_self_eq_true, if_true, Bool.true_eq_false, beq_iff_eq, if_false]
      omega
    · unfold Lof
      rw [Array.getElem?_setIfInBounds]
      by_cases e : j = i
      · subst e; simp [hx]
      · rw [if_neg e]
        constructor
        · rintro (h | h)
          · exact absurd h.symm e
          · exact h
        · exact .inr

theorem upTo_dom {μ : Map} {k : Nat} (h : ∀ id loc, μ id = some loc → id < k) : upTo μ k = μ := by
  funext id
  unfold upTo
  split
  · rfl
  · cases e : μ id with
    | none => rfl
    | some l => have := h id l e; omega

theorem DInv.init {call : CallV} {env : Env} {h : AHeap} {env' : Env} {h' : AHeap} (t : Trace P call all env h env' h' Es Hs rv) (hk : HsOk all Hs) (hr : HR P B μ h w) (he : VRs μ env a.tmps.toList) :
    DInv P B all Es Hs μ w a (fun _ => False) μ a w := by
  have z : Hs 0 = h := t.z2
  have hup : upTo μ (Hs 0).next = μ := upTo_dom fun id loc e => by rw [z]; exact (hr.dom id loc e).1
  have hb : ∀ id loc, μ id = some loc → born Hs id all.length = 0 := fun id loc e => by
    rcases Nat.eq_zero_or_pos (born Hs id all.length) with h1 | h1
    · exact h1
    · have := born_min hk id all.length 0 (Nat.le_refl _) h1
      have := (hr.dom id loc e).1
      rw [z] at *; omega
  have ct : ∀ id loc, μ id = some loc → cont Hs all.length 0 id = h.get id := fun id loc e => by unfold cont; rw [hb id loc e, Nat.max_self, z]
  refine ⟨fun _ h => h.elim, fun _ _ h => h.elim, ?_, fun s v' hv => ?_, ?_, fun id loc e => ?_, hr.base, fun _ _ h => h.elim, Map.le_refl _, fun id loc e1 e2 => (by rw [e1] at e2; cases e2), Nat.le_refl _, fun _ _ _ => rfl, rfl, SameEnv.refl w⟩
  · rw [t.z1]; have := he.1; simp at this; exact this.symm
  · refine ⟨0, Nat.zero_le _, .inl rfl, fun j o h => by omega, fun _ _ _ _ _ h => h, ?_⟩
    rw [hup, t.z1]
    have h1 : s < env.length := by rw [he.1]; simpa using (Array.getElem?_eq_some_iff.1 hv).1
    exact ⟨env[s], List.getElem?_eq_getElem h1, he.2 s _ _ (List.getElem?_eq_getElem h1) (by rw [Array.getElem?_toList]; exact hv)⟩
  · refine ⟨0, Nat.zero_le _, .inl rfl, fun j _ => ⟨fun h => h.elim, fun h => by omega⟩, fun id loc o e1 e2 => ?_, fun id loc e1 e2 e3 => ?_⟩
    · rw [ct id loc e1] at e2
      rw [hb id loc e1, Nat.max_self, hup]
      exact hr.obj id loc o e1 e2
    · rw [ct id loc e1] at e2
      rw [z] at e3
      obtain ⟨b1, b2⟩ := hr.own id loc e1 e2 e3
      refine ⟨b1, fun id' loc' f1 f2 ne => ?_⟩
      rw [ct id' loc' f1] at f2
      exact b2 id' loc' f1 f2 ne
  · obtain ⟨d1, d2⟩ := hr.dom id loc e
    have := hk.next_mono (Nat.zero_le all.length) (Nat.le_refl _)
    exact ⟨d2, by rw [z] at this; omega, .inl (by rw [z]; exact d1)⟩

theorem DInv.final {call : CallV} {env : Env} {h : AHeap} {env' : Env} {h' : AHeap} (t : Trace P call all env h env' h' Es Hs rv) (hk : HsOk all Hs) 
    (I : DInv P B all Es Hs μ0 w0 a0 (fun j => j < all.length) μ a w) : VRs μ env' a.tmps.toList ∧ a.defers = a0.defers ∧ Post P B μ0 h w0 μ h' w ∧ Keeps h h' := by
  have hkp := hk.keepsLe (Nat.zero_le all.length) (Nat.le_refl _)
  rw [t.z2, t.l2] at hkp
  obtain ⟨m0, hm, hmin, hmL, hobj, hown⟩ := I.heap
  have ca : ∀ id, id < (Hs all.length).next → cont Hs all.length m0 id = (Hs all.length).get id := fun id hid =>
    cont_at hk hm (Nat.le_refl _) (fun x a b => (hmL x a).1 b) (fun x a b => by
      obtain ⟨o, ho, _⟩ := isW_some a
      have := (List.getElem?_eq_some_iff.1 ho).1; omega) hid
  refine ⟨?_, I.defers, ⟨I.le, ?_, ⟨fun id loc e => ?_, fun id loc o e g => ?_, fun id loc e g l => ?_, ?_, I.base⟩, I.size, ?_, ?_, I.env⟩, hkp⟩
  · have hsz := I.slotsize t all.length (Nat.le_refl _)
    rw [t.l1] at hsz
    refine ⟨by simpa using hsz, fun s x x' h1 h2 => ?_⟩
    rw [Array.getElem?_toList] at h2
    obtain ⟨m, hm, _, _, k2, v, v1, v2⟩ := I.temps s x' h2
    have key : ∀ k, m ≤ k → k ≤ all.length → (Es k)[s]? = some v := by
      intro k
      induction k with
      | zero => intro h3 _; have : m = 0 := by omega
                subst this; exact v1
      | succ k ih =>
        intro h3 h4
        rcases Nat.lt_or_ge m (k + 1) with h5 | h5
        · have e := ih (by omega) (by omega)
          have hp := List.getElem?_eq_getElem (show k < all.length by omega)
          obtain ⟨e1, _⟩ := t.st k _ hp
          rw [e1]
          cases hd : all[k].dst with
          | none => exact e
          | some s' =>
            simp only [putE]
            by_cases hss : s' = s
            · subst hss
              exact absurd (show k < all.length by omega) (k2 k _ (by omega) hp hd)
            · rw [List.getElem?_set_ne hss]; exact e
        · have : m = k + 1 := by omega
          subst this; exact v1
    have := key all.length hm (Nat.le_refl _)
    rw [t.l1, h1] at this
    cases this
    exact v2.mono (upTo_le _ _)
  · intro id loc e1 e2
    have := I.fresh id loc e1 e2
    rw [t.z2] at this; exact this
  · obtain ⟨d1, d2, _⟩ := I.dom id loc e
    rw [t.l2] at d2; exact ⟨d2, d1⟩
  · have hid := (I.dom id loc e).2.1
    rw [← t.l2, ← ca id hid] at g
    obtain ⟨O, o1, o2⟩ := hobj id loc o e g
    exact ⟨O, o1, o2.mono (upTo_le _ _)⟩
  · have hid := (I.dom id loc e).2.1
    rw [← t.l2, ← ca id hid] at g
    obtain ⟨b1, b2⟩ := hown id loc e g (by rw [← hk.low all.length (Nat.le_refl _), t.l2]; exact l)
    refine ⟨b1, fun id' loc' f1 f2 ne => ?_⟩
    have hid' := (I.dom id' loc' f1).2.1
    rw [← t.l2, ← ca id' hid'] at f2
    exact b2 id' loc' f1 f2 ne
  · have := hk.lowN all.length (Nat.le_refl _); rw [t.l2] at this; exact this
  · intro b hb hm'
    rw [← t.z2] at hm'
    exact I.frame b hb hm'
  · intro id hid hn
    have hn' : μ id = none := by
      cases e : μ id with
      | none => rfl
      | some l =>
        have := (I.fresh id l e hn).1
        rw [t.z2] at this; omega
    rw [← t.z2] at hid ⊢
    rw [← t.l2]
    refine hk.between (Nat.zero_le _) (Nat.le_refl _) hid (fun x _ h2 h3 => ?_)
    exact I.still x h3 h2 id (Nat.lt_of_lt_of_le hid (hk.next_mono (Nat.zero_le x) (by omega))) hn'
end

theorem schedule_any {ops : Array Oper} (t : Nat) : Region.schedule true ops t = Region.linearise .any ops t := by
  unfold Region.schedule
  simp

theorem draw_core (hmix : P.follows .mixedOrders = true) {G : Nat → Bool} {call : CallV} (hc : CallSound P G call) (hkc : CallKeeps call) {ops : Array Oper} {id : Nat} {ro : Option Nat} {env : Env} {h : AHeap} {env' : Env} {h' : AHeap} {μ : Map} {w : World} {a : Act} {Q : Exit → Act → World → Prop}
    {l : List (Env × AHeap × Value)} {Es : Nat → Env} {Hs : Nat → AHeap} {rv : Nat → Value} (d : DrawOk ops.toList) (hall : ∀ o ∈ ops.toList, OpersOk μ o) (hg : GOk G μ) (hr : HR P B μ h w) (he : VRs μ env a.tmps.toList)
    (hq : ∀ μ' a' w', VRs μ' env' a'.tmps.toList → a'.defers = a.defers → Post P B μ h w μ' h' w' → Keeps h h' → Q .normal a' w') (hlo : looseOk P ops.toList l h' = true)
    (z1 : Es 0 = env) (z2 : Hs 0 = h) (l1 : Es ops.toList.length = env') (l2 : Hs ops.toList.length = h') (len : l.length = ops.toList.length) (nth : ∀ j, j < ops.toList.length → l[j]? = some (Es j, Hs j, rv j))
    (st : ∀ j o, ops.toList[j]? = some o → Es (j + 1) = putE (Es j) o.dst (rv j) ∧
        (if Region.wanted o (yieldedE ops.toList (Es j)) then stepD P call ops.toList j o (Es j) (Hs j) (rv j) (Hs (j + 1)) else rv j = undef ∧ Hs (j + 1) = Hs j)) : (Code.region id ops true).wpIn (fenceAt ro) 0 P Q a w := by
  have t : Trace P call ops.toList env h env' h' Es Hs rv := ⟨z1, z2, l1, l2, st⟩
  have lo : LooseOk P ops.toList Es Hs rv := by
    intro i o h1 ho hw k hk hf
    unfold looseOk at hlo
    simp only [List.all_eq_true, List.mem_range] at hlo
    have hi := (List.getElem?_eq_some_iff.1 ho).1
    have h2 := hlo i hi
    rw [h1, ho, nth i hi] at h2
    simp only [Bool.not_true, Bool.false_or, hw, List.all_eq_true, List.mem_range] at h2
    have h3 := h2 k (by omega)
    rw [hf] at h3
    simp only [Bool.not_true, Bool.false_or] at h3
    rcases Nat.lt_or_ge k ops.toList.length with h4 | h4
    · rw [nth k h4] at h3; exact h3
    · have e : k = ops.toList.length := by omega
      have h5 : l[k]? = none := by rw [List.getElem?_eq_none_iff, len]; omega
      rw [h5] at h3
      rw [e, l2]; exact h3
  have hk := trace_heaps hkc hr.low t
  have hdom0 : ∀ id loc, μ id = some loc → id < (Hs 0).next := fun id loc e => by rw [t.z2]; exact (hr.dom id loc e).1
  refine wpIn_region_draw fun n => ?_
  rw [hmix, schedule_any]
  refine wpAnyIn_sound ops.size n _ a _ ?_
  have hr' : HR P B μ h { w with drawn := w.drawn + 1 } := ⟨hr.dom, hr.obj, hr.own, hr.low, hr.base⟩
  refine any_sound (w0 := { w with drawn := w.drawn + 1 }) (a0 := a) hc d hk t hdom0 hall hg lo ro ?_ ops.size (by simp) (by simp) ((DInv.init t hk hr' he).congr fun j => ?_)
  · intro μ' a' w' I
    obtain ⟨q1, q2, q3, q4⟩ := DInv.final t hk (I.congr fun j => by simp)
    exact hq μ' a' w' q1 q2 ⟨q3.le, q3.fresh, q3.hr, q3.size, q3.frame, q3.still, q3.env⟩ q4
  · unfold Lof
    constructor
    · exact fun h => h.elim
    · intro h1
      rw [Array.getElem?_replicate] at h1
      split at h1 <;> cases h1

theorem draw_sound (hmix : P.follows .mixedOrders = true) {G : Nat → Bool} {call : CallV} (hc : CallSound P G call) (hkc : CallKeeps call) : DrawSound P G call := by
  intro B ops id ro env h env' h' μ w a Q hall hh hg hr he hq
  unfold regionE at hh
  rw [if_pos rfl] at hh
  split at hh
  · rename_i hd
    have d := drawOk_spec hd
    split at hh
    · rename_i l env1 h1 hdr
      split at hh
      · rename_i hlo
        cases hh
        obtain ⟨Es, Hs, rv, z1, z2, l1, l2, len, nth, st⟩ := trace_of ops.toList 0 (by simp) hdr
        exact draw_core hmix hc hkc d hall hg hr he hq hlo z1 z2 (by simpa using l1) (by simpa using l2) len (by simpa using nth) (fun j o ho => st j o (Nat.zero_le _) ho)
      · cases hh
    · cases hh
  · cases hh
end Go.AM
