/- AM: slices.Insert. First: what stands for it. -/
import Derived.Test.YtnkbdbopiancmaaAMLaw
set_option linter.unusedSimpArgs false
set_option linter.unusedVariables false
namespace Go.AM

/-- slices.Insert at elements of type 'e'. -/
def pInsert (P : Program) (e : TypeId) : CallV → List Value → AHeap → R Value := fun _ all h =>
  match all with
  | [.slice base n c, .int .i64 i, .slice (some ⟨vid, voff, none⟩) m _] =>
    (P.info? e).bind fun inf =>
    match h.get vid with
    | some (.cells vc ve _) =>
      if 0 < m ∧ ve = e ∧ 0 < inf.size ∧ voff + m * inf.size ≤ vc.length ∧ h.low ≤ vid ∧ 0 ≤ i ∧ i ≤ n ∧ (n + m) * (inf.bytes + 1) ≤ roomy ∧ n + m ≤ roomy then
        match base with
        | none => if n = 0 ∧ c = 0 then some (sliceTo h.next 0 m m, h.alloc (.cells ((vc.drop voff).take (m * inf.size)) e true)) else none
        | some ⟨id, off, none⟩ =>
          match h.get id with
          | some (.cells cs e' o) =>
            if e' = e ∧ id ≠ vid ∧ 0 < c ∧ off + n * inf.size ≤ cs.length ∧ h.low ≤ id then
              if n + m ≤ c then
                (if h.low ≤ id ∧ off + (n + m) * inf.size ≤ cs.length then
                  some (.slice base (n + m) c, h.put id (some (.cells (setRow cs off (((cs.drop off).take (n * inf.size)).take (i.toNat * inf.size) ++ (vc.drop voff).take (m * inf.size) ++ ((cs.drop off).take (n * inf.size)).drop (i.toNat * inf.size))) e o)))
                else none)
              else if n = c then
                (if o = true ∧ off + n * inf.size = cs.length then
                  (if h.low ≤ id then some (sliceTo h.next 0 (n + m) (n + m), (h.put id none).alloc (.cells (((cs.drop off).take (n * inf.size)).take (i.toNat * inf.size) ++ (vc.drop voff).take (m * inf.size) ++ ((cs.drop off).take (n * inf.size)).drop (i.toNat * inf.size)) e true)) else none)
                else some (sliceTo h.next 0 (n + m) (n + m), h.alloc (.cells (((cs.drop off).take (n * inf.size)).take (i.toNat * inf.size) ++ (vc.drop voff).take (m * inf.size) ++ ((cs.drop off).take (n * inf.size)).drop (i.toNat * inf.size)) e true)))
              else none
            else none
          | _ => none
        | _ => none
      else none
    | _ => none
  | _ => none

/-! ### What the model's own run of it does -/

/-- The contract, by blocks. -/
def InsSpec (P : Program) (g : FuncId) (e : TypeId) (sz bytes : Nat) : Prop :=
  ∀ (base : Option (Nat × Nat)) (n c i vb voff m vc : Nat) (cs vs VC : List Value) (ve : TypeId) (vfr : Nat × Nat) (w : World) (C : Array Value) (fr : Nat × Nat),
    i ≤ n → 0 < m → n ≤ c → (n + m) * bytes ≤ 140737488355328 → c ≤ 9223372036854775807 → cs.length = n * sz → vs.length = m * sz →
    (base = none → n = 0 ∧ c = 0) →
    (∀ b off, base = some (b, off) → w.heap[b]? = some (.cells C e fr) ∧ off + c * sz ≤ C.size ∧ cs = (C.toList.drop off).take (n * sz) ∧ (n + m ≤ c → vb ≠ b ∧ ∀ k, ¬ (fr.1 ≤ k ∧ k < fr.2))) →
    w.heap[vb]? = some (.cells VC.toArray ve vfr) → voff + m * sz ≤ VC.length → vs = (VC.drop voff).take (m * sz) → (∀ k, ¬ (vfr.1 ≤ k ∧ k < vfr.2)) → (∀ v ∈ cs, v.oneCell' = true) → (∀ v ∈ vs, v.oneCell' = true) →
    Calls P g #[.slice (base.map fun p => ⟨p.1, p.2, none⟩) n c, .int .i64 i, .slice (some ⟨vb, voff, none⟩) m vc] w fun x w' => SameEnv w w' ∧
      if n + m ≤ c then ∃ b off, base = some (b, off) ∧ x = .returned (.slice (some ⟨b, off, none⟩) (n + m) c) ∧ w'.heap.size = w.heap.size ∧ (∀ k, k ≠ b → w'.heap[k]? = w.heap[k]?) ∧
        ∃ C' : Array Value, w'.heap[b]? = some (.cells C' e fr) ∧ C'.size = C.size ∧ C'.toList = setRow C.toList off (cs.take (i * sz) ++ vs ++ cs.drop (i * sz))
      else ∃ c' pad, n + m ≤ c' ∧ c' ≤ 9223372036854775807 ∧ x = .returned (.slice (some ⟨w.heap.size, 0, none⟩) (n + m) c') ∧ pad.length = (c' - (n + m)) * sz ∧
        w'.heap = w.heap.push (.cells ((cs.take (i * sz) ++ vs ++ cs.drop (i * sz)) ++ pad).toArray e (0, 0))

variable {P : Program} {B : Nat} {μ : Map} {h : AHeap} {w : World}

/-- A slice's cells in the world. -/
theorem VR.ofRow (hr : HR P B μ h w) {id off : Nat} {loc : Loc} {c : List Value} {e : TypeId} {b : Bool} (hm : μ id = some loc) (hg : h.get id = some (.cells c e b)) {k : Nat} (hk : off + k ≤ c.length) (hlow : h.low ≤ id) :
    ∃ C fr, w.heap[loc.blk]? = some (.cells C e fr) ∧ C.size = loc.csize ∧ loc.base + loc.size ≤ loc.csize ∧ c.length = loc.size ∧ loc.opn = b ∧ loc.esize = P.cellsOf e ∧ VRs μ ((c.drop off).take k) ((C.toList.drop (loc.base + off)).take k) ∧
      (∀ v ∈ (C.toList.drop (loc.base + off)).take k, v.oneCell' = true) ∧ c.all (·.oneCell') = true ∧ (loc.ro = true ∨ Melted P e C fr) ∧ VRs μ c ((C.toList.drop loc.base).take loc.size) := by
  obtain ⟨C, fr, hb, hcl, ho, hes, hcs, hbs, hvv, hall, hfr⟩ := hr.rowOwn hm hg hlow
  have hv : VRs μ ((c.drop off).take k) ((C.toList.drop (loc.base + off)).take k) := by
    have q := (hvv.drop off).take k
    rw [List.drop_take, List.drop_drop, List.take_take] at q
    have e1 : min k (loc.size - off) = k := by omega
    rwa [e1] at q
  refine ⟨C, fr, hb, hcs, hbs, hcl, ho, hes, hv, ?_, hall, hfr, hvv⟩
  have h1 : ((c.drop off).take k).all (·.oneCell') = true := by
    simp only [List.all_eq_true] at hall ⊢
    exact fun x hx => hall x (List.mem_of_mem_drop (List.mem_of_mem_take hx))
  rw [hv.oneCell] at h1
  exact fun v hv' => List.all_eq_true.1 h1 v hv'

/-- The pieces, one by one. -/
theorem VRs.pieces {o o' v v' : List Value} (ho : VRs μ o o') (hv : VRs μ v v') (k : Nat) : VRs μ (o.take k ++ v ++ o.drop k) (o'.take k ++ v' ++ o'.drop k) := ((ho.take k).append hv).append (ho.drop k)

theorem pieces_length (o v : List Value) (k : Nat) (hk : k ≤ o.length) : (o.take k ++ v ++ o.drop k).length = o.length + v.length := by simp; omega

theorem pieces_one {o v : List Value} (k : Nat) (ho : o.all (·.oneCell') = true) (hv : v.all (·.oneCell') = true) : (o.take k ++ v ++ o.drop k).all (·.oneCell') = true := by
  simp only [List.all_eq_true] at *
  intro x hx
  rcases List.mem_append.1 hx with hx | hx
  · rcases List.mem_append.1 hx with hx | hx
    · exact ho x (List.mem_of_mem_take hx)
    · exact hv x hx
  · exact ho x (List.mem_of_mem_drop hx)

/-- A new row, with room behind it. -/
theorem growFin (hr : HR P B μ h w) {e : TypeId} {sz k c' : Nat} (hsz : P.cellsOf e = sz) {new new' pad : List Value} (hv : VRs μ new new') (hl : new.length = k * sz) (hone : new.all (·.oneCell') = true) (hk : k ≤ c') (hp : pad.length = (c' - k) * sz) (hmx : c' ≤ 9223372036854775807) {w' : World}
    (hw : w'.heap = w.heap.push (.cells (new' ++ pad).toArray e (0, 0))) (he : SameEnv w w') :
    ∃ μ', Post P B μ h w μ' (h.alloc (.cells new e true)) w' ∧ Keeps h (h.alloc (.cells new e true)) ∧ VR μ' (sliceTo h.next 0 k k) (.slice (some ⟨w.heap.size, 0, none⟩) k c') := by
  obtain ⟨μ', hm, p1, p2, _⟩ := hr.alloc (O := .cells (new' ++ pad).toArray e (0, 0)) (loc := ⟨w.heap.size, 0, new.length, new.length + pad.length, P.cellsOf e, true, false⟩) (o := .cells new e true) ⟨rfl, rfl⟩ (fun μ' hle hm' => by
    refine ⟨.inr rfl, rfl, rfl, rfl, ?_, by simp, ?_, hone, .inr (Melted.all fun j hh => by simp at hh)⟩
    · have := hv.1; simp; omega
    · simp only [List.drop_zero, List.take_append]
      rw [List.take_of_length_le (Nat.le_of_eq hv.1.symm), show new.length - new'.length = 0 from by rw [hv.1]; omega]
      simpa using hv.mono hle)
  refine ⟨μ', p1.congr hw ?_, p2, ?_⟩
  · exact ⟨he.1, he.2.1, he.2.2⟩
  · have h1 : (c' - k) * sz + k * sz = c' * sz := by rw [← Nat.add_mul]; congr 1; omega
    have := VR.slice (μ := μ') h.next 0 k k c' _ hm (Nat.le_refl _) hk (.inr ⟨rfl, by simp only [hsz, hl]; omega⟩) (by simp only [hsz, hl, hp]; omega) (by simp only [hsz, hl]; omega) hmx
    exact this

theorem insert_ok {G : Nat → Bool} {g : FuncId} {fn : Func} {c : Code} (hfn : P.funcs[g]? = some fn) (hb : fn.body = some c) (hname : (fn.name == "runtime.NumGoroutine") = false) {e : TypeId} {inf : TypeInfo} (hi : P.info? e = some inf) (hu : P.underlying e ≠ some (.int .u8))
    (spec : InsSpec P g e inf.size inf.bytes) : PrimOk P G g (pInsert P e) := by
  intro call _ B μ h w all r h' hh hg hr all' hall
  have hcell : P.cellsOf e = inf.size := cellsOf_info hi
  have enter : ∀ (as : Array Value), (callFunc g as).run P w = .ok (.enter g as) w := by
    intro as
    simp only [callFunc, Sem.run_bind, run_program, Result.andThen_ok, hfn, hname, hb]
    simp
  unfold pInsert at hh
  split at hh
  · rename_i base n c i vid voff m mc
    obtain ⟨s', l1, e1, hs, hall⟩ := hall.cons_inv
    obtain ⟨i', l2, e2, hiv, hall⟩ := hall.cons_inv
    obtain ⟨v', l3, e3, hvv, hall⟩ := hall.cons_inv
    have e4 := hall.nil_inv
    subst e4; subst e3; subst e2
    obtain rfl : all' = #[s', i', v'] := by cases all'; simp_all
    cases hiv
    rw [hi] at hh
    simp only [Option.bind_some] at hh
    split at hh
    · rename_i vc ve vo hgv
      split at hh
      · rename_i hc
        obtain ⟨c1, c2, c3, c4, c5, c6, c7, c8, c9⟩ := hc
        subst c2
        obtain ⟨i, rfl⟩ := Int.eq_ofNat_of_zero_le c6
        have hin : i ≤ n := by omega
        simp only [Int.toNat_natCast] at hh
        cases hvv with
        | slice0 _ _ _ _ _ => omega
        | slice _ _ _ _ mc' locv hlv b1 b2 b3 b4 b5 b6 =>
        obtain ⟨VC, vfr, v1, v2, v3, v4, v5, v6, v7, v8, v9, v10, v11⟩ := VR.ofRow hr hlv hgv c4 c5
        have vro : ∀ k, ¬ (vfr.1 ≤ k ∧ k < vfr.2) := (v10.resolve_left (by rw [(hr.own vid locv hlv (by rw [hgv]; simp) c5).1]; simp)).2 hu
        have hvl : ((vc.drop voff).take (m * inf.size)).length = m * inf.size := by simp; omega
        have hvl' : ((VC.toList.drop (locv.base + voff)).take (m * inf.size)).length = m * inf.size := by rw [← v7.1]; exact hvl
        have hvone : ((vc.drop voff).take (m * inf.size)).all (·.oneCell') = true := by
          simp only [List.all_eq_true] at v9 ⊢
          exact fun x hx => v9 x (List.mem_of_mem_drop (List.mem_of_mem_take hx))
        have hbig : (n + m) * inf.bytes ≤ 140737488355328 := by
          have : (n + m) * inf.bytes ≤ (n + m) * (inf.bytes + 1) := Nat.mul_le_mul_left _ (by omega)
          unfold roomy at c8; omega
        have hv1' : w.heap[locv.blk]? = some (.cells VC.toList.toArray ve vfr) := by simpa using v1
        have hvfit : locv.base + voff + m * inf.size ≤ VC.toList.length := by simp only [Array.length_toList]; omega
        split at hh
        · -- a nil slice
          split at hh
          · rename_i hn
            obtain ⟨rfl, rfl⟩ := hn
            cases hh
            cases hs
            obtain rfl : i = 0 := by omega
            refine .inr ⟨g, _, w, enter _, callsIn_wide.2 ?_⟩
            refine (spec none 0 0 0 locv.blk (locv.base + voff) m mc' [] _ VC.toList ve vfr w #[] (0, 0) (by omega) c1 (by omega) hbig (by omega) (by simp) hvl' (fun _ => ⟨rfl, rfl⟩) (fun _ _ h => by cases h) hv1' hvfit rfl vro (by simp) v8).mono ?_
            rintro x w' ⟨henv, hx⟩
            rw [if_neg (by omega)] at hx
            obtain ⟨c', pad, k1, k5, k2, k3, k4⟩ := hx
            simp only [Nat.zero_add, List.take_nil, List.drop_nil, List.nil_append, List.append_nil, Nat.zero_mul] at k1 k2 k3 k4
            obtain ⟨μ', p1, p2, p3⟩ := growFin hr hcell v7 hvl hvone k1 k3 k5 k4 henv
            exact ⟨_, k2, μ', p3, p1, p2⟩
          · cases hh
        · rename_i id off
          split at hh
          · rename_i cs e' o hgs
            split at hh
            · rename_i hcs
              obtain ⟨rfl, hne, hc0, hfit, hlow0⟩ := hcs
              cases hs with
              | slice0 _ _ _ _ _ => omega
              | slice _ _ _ _ cap' loc hl a1 a2 a3 a4 a5 a6 =>
              obtain ⟨C, fr, s1, s2, s3, s4, s5, s6, s7, s8, s9, s10, s11⟩ := VR.ofRow hr hl hgs hfit hlow0
              have hol : ((cs.drop off).take (n * inf.size)).length = n * inf.size := by simp; omega
              have hol' : ((C.toList.drop (loc.base + off)).take (n * inf.size)).length = n * inf.size := by rw [← s7.1]; exact hol
              have hoone : ((cs.drop off).take (n * inf.size)).all (·.oneCell') = true := by
                simp only [List.all_eq_true] at s9 ⊢
                exact fun x hx => s9 x (List.mem_of_mem_drop (List.mem_of_mem_take hx))
              have hik : i * inf.size ≤ n * inf.size := Nat.mul_le_mul_right _ hin
              have hnm : (n + m) * inf.size = n * inf.size + m * inf.size := Nat.add_mul _ _ _
              have hpl := pieces_length ((cs.drop off).take (n * inf.size)) ((vc.drop voff).take (m * inf.size)) (i * inf.size) (by rw [hol]; exact hik)
              rw [hol, hvl, ← hnm] at hpl
              have hpv := VRs.pieces s7 v7 (i * inf.size)
              have hpo := pieces_one (i * inf.size) hoone hvone
              rw [s6, hcell] at a4 a5
              have run := fun (hroom' : n + m ≤ cap' → h.low ≤ id) => spec (some (loc.blk, loc.base + off)) n cap' i locv.blk (locv.base + voff) m mc' _ _ VC.toList e' vfr w C fr hin c1 (by omega) hbig a6 hol' hvl' (fun h => by cases h)
                (fun b o' hbo => by
                  cases hbo
                  refine ⟨s1, by omega, rfl, fun hroom => ?_⟩
                  have own := hr.own id loc hl (by rw [hgs]; simp) (hroom' hroom)
                  exact ⟨own.2 vid locv hlv (by rw [hgv]; simp) (fun e => hne e.symm), (s10.resolve_left (by rw [own.1]; simp)).2 hu⟩) hv1' hvfit rfl vro s8 v8
              have fin : ∀ {R : Value → World → Prop}, Calls P g #[.slice (some ⟨loc.blk, loc.base + off, none⟩) n cap', .int .i64 i, .slice (some ⟨locv.blk, locv.base + voff, none⟩) m mc'] w (fun e w' => ∃ v, e = .returned v ∧ R v w') →
                  CallFOk P g #[.slice (some ⟨loc.blk, loc.base + off, none⟩) n cap', .int .i64 i, .slice (some ⟨locv.blk, locv.base + voff, none⟩) m mc'] w (hasBody P g) R := fun hc => .inr ⟨g, _, w, enter _, callsIn_wide.2 hc⟩
              refine fin ?_
              split at hh
              · -- there surely is room
                rename_i hroom
                split at hh
                · rename_i hc3
                  obtain ⟨hlow, hfit3⟩ := hc3
                  cases hh
                  refine (run (fun _ => hlow)).mono ?_
                  rintro x w' ⟨henv, hx⟩
                  rw [if_pos (by omega)] at hx
                  obtain ⟨b0, o0, k1, k2, k3, k4, C', k5, k6, k7⟩ := hx
                  cases k1
                  obtain ⟨p1, p2⟩ := hr.put (o := .cells (setRow cs off (((cs.drop off).take (n * inf.size)).take (i * inf.size) ++ (vc.drop voff).take (m * inf.size) ++ ((cs.drop off).take (n * inf.size)).drop (i * inf.size))) e' o) (O := .cells C' e' fr) hl (by rw [hgs]; simp) hlow k3 k4 k5
                    ⟨.inr rfl, by rw [setRow_length]; exact s4, s5, s6, by rw [k6]; exact s2, ⟨s3, hr.flat hl hgs⟩, by rw [k7, setRow_drop, setRow_take]; exact s11.setRow off hpv, setRow_all _ _ _ s9 hpo, by exact Or.imp (fun q => q) (fun q => q.size k6) s10⟩ (fun r hr' => by rw [hgs] at hr'; cases hr') henv
                  exact ⟨_, k2, μ, .slice id off _ _ cap' loc hl (by omega) a2 a3 (by rw [s6, hcell]; exact a4) (by rw [s6, hcell]; exact a5) a6, p1, p2⟩
                · cases hh
              · split at hh
                · rename_i hnroom hnc
                  subst hnc
                  split at hh
                  · -- nobody knows whether there is room
                    rename_i hopen
                    obtain ⟨rfl, hend⟩ := hopen
                    have hlow := hlow0
                    try rw [if_pos hlow0] at hh
                    · cases hh
                      refine (run (fun _ => hlow)).mono ?_
                      rintro x w' ⟨henv, hx⟩
                      by_cases hroom : n + m ≤ cap'
                      · rw [if_pos hroom] at hx
                        obtain ⟨b0, o0, k1, k2, k3, k4, C', k5, k6, k7⟩ := hx
                        cases k1
                        have hk : (n + m) * inf.size ≤ cap' * inf.size := Nat.mul_le_mul_right _ hroom
                        obtain ⟨μ', hm', p1, p2⟩ := hr.adopt (loc' := ⟨loc.blk, loc.base + off, (n + m) * inf.size, loc.csize, loc.esize, true, false⟩) (o := .cells (((cs.drop off).take (n * inf.size)).take (i * inf.size) ++ (vc.drop voff).take (m * inf.size) ++ ((cs.drop off).take (n * inf.size)).drop (i * inf.size)) e' true) (O := .cells C' e' fr) hl hgs hlow rfl rfl k3 k4 k5 henv (by
                          intro μ' hle' hm'
                          refine ⟨.inr rfl, hpl, rfl, s6, by rw [k6]; exact s2, ⟨by simp only; omega, .inr (.inl rfl)⟩, ?_, hpo, .inr ((s10.resolve_left (by rw [(hr.own id loc hl (by rw [hgs]; simp) hlow).1]; simp)).size k6)⟩
                          simp only
                          have hpl' : (((C.toList.drop (loc.base + off)).take (n * inf.size)).take (i * inf.size) ++ (VC.toList.drop (locv.base + voff)).take (m * inf.size) ++ ((C.toList.drop (loc.base + off)).take (n * inf.size)).drop (i * inf.size)).length = (n + m) * inf.size := by rw [← hpv.1]; exact hpl
                          have e0 := setRow_drop (((C.toList.drop (loc.base + off)).take (n * inf.size)).take (i * inf.size) ++ (VC.toList.drop (locv.base + voff)).take (m * inf.size) ++ ((C.toList.drop (loc.base + off)).take (n * inf.size)).drop (i * inf.size)) C.toList (loc.base + off) 0
                          rw [Nat.add_zero] at e0
                          rw [k7, e0, setRow_take, setRow_tail _ _ 0 (by rw [hpl']; simp; omega)]
                          simpa using hpv.mono hle')
                        refine ⟨_, k2, μ', ?_, p1, p2⟩
                        have := VR.slice (μ := μ') h.next 0 (n + m) (n + m) cap' _ hm' (Nat.le_refl _) hroom (.inr ⟨rfl, by simp only [s6, hcell]; omega⟩) (by simp only [s6, hcell]; omega) (by simp only [s6, hcell]; omega) a6
                        exact this
                      · rw [if_neg hroom] at hx
                        obtain ⟨c', pad, k1, k5, k2, k3, k4⟩ := hx
                        obtain ⟨q1, q2⟩ := hr.kill hl hgs hlow
                        obtain ⟨μ', p1, p2, p3⟩ := growFin q1.hr hcell hpv hpl hpo k1 k3 k5 k4 henv
                        exact ⟨_, k2, μ', p3, Post.trans hr q2 q1 p1, q2.trans p2⟩
                  · -- there is none
                    rename_i hno
                    cases hh
                    have hcc : n = cap' := by
                      rcases a3 with a3 | ⟨o1, o2⟩
                      · exact a3
                      · refine absurd ⟨by rw [← s5]; exact o1, ?_⟩ hno
                        rw [s6, hcell] at o2; omega
                    refine (run (fun hx => by omega)).mono ?_
                    rintro x w' ⟨henv, hx⟩
                    rw [if_neg (by omega)] at hx
                    obtain ⟨c', pad, k1, k5, k2, k3, k4⟩ := hx
                    obtain ⟨μ', p1, p2, p3⟩ := growFin hr hcell hpv hpl hpo k1 k3 k5 k4 henv
                    exact ⟨_, k2, μ', p3, p1, p2⟩
                · cases hh
            · cases hh
          · cases hh
        · cases hh
      · cases hh
    · cases hh
  · cases hh

theorem insert_keeps {e : TypeId} {call : CallV} {all : List Value} {h : AHeap} {r : Value} {h' : AHeap} (hl : h.low ≤ h.next) (hh : pInsert P e call all h = some (r, h')) : Keeps h h' := by
  unfold pInsert at hh
  split at hh
  · obtain ⟨inf, _, hh⟩ := bindSome hh
    split at hh
    · split at hh
      · split at hh
        · split at hh
          · cases hh; exact Keeps.ofAlloc hl _
          · cases hh
        · split at hh
          · rename_i hg
            split at hh
            · split at hh
              · split at hh
                · rename_i hc; cases hh; exact Keeps.ofPut hg hc.1 (fun r e => by cases e)
                · cases hh
              · split at hh
                · split at hh
                  · split at hh
                    · rename_i hlow; cases hh; exact (Keeps.ofKill hg hlow).trans (Keeps.ofAlloc (by simpa using hl) _)
                    · cases hh
                  · cases hh; exact Keeps.ofAlloc hl _
                · cases hh
            · cases hh
          · cases hh
        · cases hh
      · cases hh
    · cases hh
  · cases hh

end Go.AM
