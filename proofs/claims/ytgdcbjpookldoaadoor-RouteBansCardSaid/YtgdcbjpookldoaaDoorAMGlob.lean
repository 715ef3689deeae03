/- AM: laws whose program reads a package-level variable of plain data, which is laid. -/
import Derived.Test.YtgdcbjpookldoaaDoorAMLift
import Derived.FnData
import Derived.LaidMore
import Derived.MakeChecks
set_option linter.unusedSimpArgs false
set_option linter.unusedVariables false
namespace Go.AM
open Go Go.RowKit Go.ChangeShapes
variable {P : Program} {H : Type} {enc : TypeId × Value → H} {B : Nat} {w : World}

/-! ### What plain data that is known lies as -/
mutual
def litD : DataW H → List Value
  | .lit (.bool b) => [.bool b]
  | .lit (.int k n) => [.int k n]
  | .lit (.string l) => [.string ⟨l.toArray⟩]
  | .agg ds => litDs ds
  | _ => []
def litDs : List (DataW H) → List Value
  | [] => []
  | d :: ds => litD d ++ litDs ds
end
/-- Types of plain data without slices. -/
def flatT (P : Program) : Nat → TypeId → Bool
  | 0, _ => false
  | n + 1, t => match P.underlying t with
    | some .bool | some (.int _) | some .string => true
    | some (.struct fs) => laysOut P fs.toList 0 (P.cellsOf t) && fs.toList.all fun f => flatT P n f.type
    | some (.array m e) => P.cellsOf t == m * P.cellsOf e && flatT P n e
    | _ => false
theorem fields_lit (cs : List Value) : ∀ (fs : List Field) (xs : List (DataW H)) (o n : Nat), laysOut P fs o n = true → cs.length = n → fs.length = xs.length →
    (∀ (i : Nat) (f : Field) (x : DataW H), fs[i]? = some f → xs[i]? = some x → (cs.drop f.offset).take (P.cellsOf f.type) = litD x) → o ≤ n → cs.drop o = litDs xs
  | [], xs, o, n, h, hl, hx, _, _ => by
    simp only [laysOut, beq_iff_eq] at h
    have : xs = [] := List.length_eq_zero_iff.1 hx.symm
    subst this
    rw [litDs, List.drop_eq_nil_iff]; omega
  | f :: fs, [], _, _, _, _, hx, _, _ => by simp at hx
  | f :: fs, x :: xs, o, n, h, hl, hx, hf, ho => by
    simp only [laysOut, Bool.and_eq_true, beq_iff_eq] at h
    obtain ⟨h1, h2⟩ := h
    have hle := laysOut_le fs _ _ h2
    have h0 := hf 0 f x rfl rfl
    rw [h1] at h0
    rw [litDs, ← h0, ← fields_lit cs fs xs _ n h2 hl (by simpa using hx) (fun i g y hg hy => hf (i + 1) g y (by simpa using hg) (by simpa using hy)) hle, ← List.drop_drop, List.take_append_drop]
theorem rep_lit (sz : Nat) : ∀ (m : Nat) (cs : List Value) (xs : List (DataW H)), cs.length = m * sz → xs.length = m → (∀ (i : Nat) (x : DataW H), xs[i]? = some x → (cs.drop (i * sz)).take sz = litD x) → cs = litDs xs
  | 0, cs, xs, hl, hx, _ => by
    have : xs = [] := List.length_eq_zero_iff.1 hx
    subst this
    rw [litDs]; exact List.length_eq_zero_iff.1 (by simpa using hl)
  | m + 1, cs, [], _, hx, _ => by simp at hx
  | m + 1, cs, x :: xs, hl, hx, hf => by
    rw [Nat.add_mul, Nat.one_mul] at hl
    have h0 := hf 0 x rfl
    rw [Nat.zero_mul, List.drop_zero] at h0
    rw [litDs, ← h0, ← rep_lit sz m (cs.drop sz) xs (by simp; omega) (by simpa using hx) (fun i y hy => by
      have := hf (i + 1) y (by simpa using hy)
      rw [Nat.add_mul, Nat.one_mul, Nat.add_comm, ← List.drop_drop] at this
      exact this), List.take_append_drop]
theorem trod_lit {base : Nat} {sp : Nat → Bool} {held : Bool} : ∀ (n d : Nat) (t : TypeId) (cs : List Value) (x : DataW H × List MemPlace), flatT P d t = true → DataW.trod enc P w base sp held n t cs = some x → cs = litD x.1 := by
  intro n
  induction n with
  | zero => intro d t cs x _ hx; simp [DataW.trod] at hx
  | succ n ih =>
    intro d t cs x hdt hx
    cases d with
    | zero => cases hdt
    | succ d =>
    unfold flatT at hdt
    split at hdt
    · rename_i ht
      obtain ⟨b, rfl, rfl⟩ := DataW.trod_bool ht hx
      rw [litD]
    · rename_i k ht
      obtain ⟨q, rfl, rfl, hw⟩ := DataW.trod_int ht hx
      rw [litD]
    · rename_i ht
      obtain ⟨s, rfl, rfl, hs⟩ := DataW.trod_string ht hx
      rw [litD]
    · rename_i fs ht
      simp only [Bool.and_eq_true, List.all_eq_true] at hdt
      obtain ⟨hlay, hfs⟩ := hdt
      obtain ⟨xs, m, hm, rfl, hlen, hxl, hf⟩ := DataW.trod_struct ht hx
      obtain rfl : m = n := by omega
      have := fields_lit (P := P) cs fs.toList (xs.map (·.1)) 0 _ hlay hlen (by simp [hxl]) (fun i f x h1 h2 => by
        rw [List.getElem?_map] at h2
        obtain ⟨y, hy, rfl⟩ := Option.map_eq_some_iff.1 h2
        have h3 := hf i f (by simpa using h1)
        rw [hy] at h3
        exact ih d f.type _ _ (hfs f (List.mem_of_getElem? h1)) h3) (Nat.zero_le _)
      rw [List.drop_zero] at this
      rw [litD]; exact this
    · rename_i k e ht
      simp only [Bool.and_eq_true, beq_iff_eq] at hdt
      obtain ⟨hsz, hde⟩ := hdt
      obtain ⟨xs, m, hm, rfl, hlen, hxl, hf⟩ := DataW.trod_array ht hx
      obtain rfl : m = n := by omega
      rw [litD]
      refine rep_lit (P.cellsOf e) k cs (xs.map (·.1)) (by rw [hlen, hsz]) (by simp [hxl]) (fun i x h2 => ?_)
      rw [List.getElem?_map] at h2
      obtain ⟨y, hy, rfl⟩ := Option.map_eq_some_iff.1 h2
      have hi : i < k := by rw [← hxl]; exact (List.getElem?_eq_some_iff.1 hy).1
      have h3 := hf i hi
      rw [hy] at h3
      exact ih d e _ _ hde h3
    · cases hdt

/-- The block of a variable that is laid. -/
theorem laid_block {nm : String} {d : DataW Unit} {g : Nat} {t : TypeId} (hg : P.globalNamed nm = some g) (ht : (P.globals[g]?).map (·.type) = some t) (hf : flatT P 10 t = true) (h0 : litD d ≠ []) (hn : d.handleName?.isNone = true)
    (h : laidMetH P [(nm, d)] w) : ∃ (C : Array Value) (e : TypeId) (fr : Nat × Nat), w.heap[g]? = some (.cells C e fr) ∧ C.toList = litD d := by
  rw [MakeChecks.laidMetH_plain _ _ _ (by simp [hn])] at h
  obtain ⟨ps, ⟨g', t', cs, f, p, q, hg', ht', hv, hd, _, rfl⟩, _, hps⟩ := h
  obtain rfl := Option.some.inj (hg.symm.trans hg')
  obtain rfl := Option.some.inj (ht.symm.trans ht')
  have hcs := trod_lit f 10 t cs.toList _ hf hd
  have hc := fun i => World.var?_cell hg hv i
  have hsz : 0 < cs.size := by
    rcases Nat.eq_zero_or_pos cs.size with e | e
    · rw [Array.eq_empty_of_size_eq_zero e] at hcs
      exact absurd hcs.symm h0
    · exact e
  have h1 := hc 0
  rw [Array.getElem?_eq_getElem hsz] at h1
  unfold World.cell? at h1
  split at h1
  · rename_i C e fr hb
    refine ⟨C, e, fr, hb, ?_⟩
    rw [← hcs]
    have : C = cs := by
      apply Array.ext_getElem?
      intro i
      rw [← hc i, cell_of_row w g i C e fr hb]
    rw [this]
  · cases h1

theorem ro_pad {b : Nat} {C : Array Value} {e : TypeId} {fr : Nat × Nat} (hb : w.heap[b]? = some (.cells C e fr)) : ∀ n, ∃ (h : AHeap) (μ : Map), HR P w.heap.size μ h w ∧ h.low = h.next ∧ h.next = n
  | 0 => ⟨_, _, HR.blank (P := P) w, rfl, rfl⟩
  | n + 1 => by
    obtain ⟨h, μ, hr, hl, hn⟩ := ro_pad hb n
    obtain ⟨μ', _, r, _⟩ := hr.addRo (e := e) (off := 0) (c := []) hl hb (by simp) (VRs.nil _) rfl
    exact ⟨_, μ', r, rfl, by show h.next + 1 = n + 1; rw [hn]⟩

theorem law_runG (hmix : P.follows .mixedOrders = true) {gl : Nat} {prims : Prims} (hP : ProgOk P (fun g => g == gl) prims) (hprims : ∀ g p, prims g = some p → PrimOk P (fun g => g == gl) g p) (hkeep : PrimsKeep prims) {f : FuncId} {fn : Func} {c : Code}
    (hfn : P.funcs[f]? = some fn) (hb : fn.body = some c) (hname : (fn.name == "runtime.NumGoroutine") = false) {ts : List TypeId} {args : Array Value} {ds : List (DataW H)} {ps : List MemPlace} {base : Nat} (hdt : ∀ t ∈ ts, dataT P 10 t = true)
    (hT : DataW.TrodAll enc P w 0 (fun _ => true) true ts args.toList ds ps) (hval : ∀ (j : Nat) t v, ts[j]? = some t → args[j]? = some v → Value.okWide P w .any base t v)
    {gc : List Value} (e0 : TypeId) (hgc : gc.all plainV = true) (hblk : ∃ (C : Array Value) (e : TypeId) (fr : Nat × Nat), w.heap[gl]? = some (.cells C e fr) ∧ C.toList = gc)
    (run : ∀ h as, h.low = h.next → h.get gl = some (.cells gc e0 false) → ADs P h ts as → CallW P prims (.func (.func f) #[] #[]) as h fun v _ => v = .bool true) :
    Calls P f args w fun e w' => e = .returned (.bool true) ∧ Below w.heap.size w w' := by
  obtain ⟨C, e, fr, hblk, hC⟩ := hblk
  obtain ⟨h0, μ0, r0, l0, n0⟩ := ro_pad (P := P) hblk gl
  obtain ⟨μ1, m1, r1, hself⟩ := r0.addRo (e := e0) (off := 0) (c := gc) l0 hblk (by rw [← hC]; simp) (by rw [List.drop_zero, ← hC, Array.length_toList, ← Array.length_toList, List.take_length, hC]; exact VRs.plain hgc) (all_oneCell_plain hgc)
  rw [n0] at hself
  have hg0 : ({ h0.alloc (.cells gc e0 false) with low := h0.next + 1 } : AHeap).get gl = some (.cells gc e0 false) := by
    have : (h0.alloc (.cells gc e0 false)).get gl = some (.cells gc e0 false) := get_alloc_self n0.symm
    exact this
  obtain ⟨h', μ', as, r', l', m', x', v', a'⟩ := args_in ts args.toList ds ps μ1 _ hdt hT (fun j t v h1 h2 => ⟨fun h3 => agg_of_okWide (hval j t v h1 (by simpa using h2)) h3, fun h3 => nonagg_of_okWide (hval j t v h1 (by simpa using h2)) h3⟩) r1 rfl ⟨_, _, _, _, hself, hg0⟩
  obtain ⟨n, v, h2, hh, rfl⟩ := run h' as l' (x'.get hg0) a'
  refine law_sound hmix hP hprims hkeep hfn hb hname hh (fun g hg => ?_) r' l' v'
  have : g = gl := by simpa using hg
  subst this
  exact ⟨_, m' _ _ hself, rfl, rfl⟩

end Go.AM
