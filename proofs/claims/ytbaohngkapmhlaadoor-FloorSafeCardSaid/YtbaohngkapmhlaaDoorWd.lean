/- Walks of this claim's functions, and plain laws. -/
import Derived.Test.YtbaohngkapmhlaaDoorWc
import Derived.Test.YtbaohngkapmhlaaDoorAMOps8
set_option linter.unusedSimpArgs false
set_option linter.unusedVariables false
namespace Go.Proofs.YtbaohngkapmhlaaDoor
open Go.AM
set_option maxRecDepth 8000
theorem b17_FW2 : type_of% (And.intro (@AM.bin_geq) (And.intro (@AM.bin_lss) (And.intro (@AM.fa_ptr) (And.intro (@fd_91_1) (And.intro (@AM.iaO_ok) (And.intro (AM.ia_slice el_22) (And.intro (@AM.ldO_agg) (And.intro (@AM.ldO_one) (And.intro (@AM.ld_ptr) (And.intro (AM.len_slice ul_22) (And.intro (@lk_22) (And.intro (@lk_3) (And.intro (@AM.op_binOp) (And.intro (@AM.op_call) (And.intro (@AM.op_fieldAddr) (And.intro (@AM.op_indexAddr) (And.intro (@AM.op_len) (And.intro (@AM.op_load) (@AM.op_nilCheck))))))))))))))))))) := And.intro (@AM.bin_geq) (And.intro (@AM.bin_lss) (And.intro (@AM.fa_ptr) (And.intro (@fd_91_1) (And.intro (@AM.iaO_ok) (And.intro (AM.ia_slice el_22) (And.intro (@AM.ldO_agg) (And.intro (@AM.ldO_one) (And.intro (@AM.ld_ptr) (And.intro (AM.len_slice ul_22) (And.intro (@lk_22) (And.intro (@lk_3) (And.intro (@AM.op_binOp) (And.intro (@AM.op_call) (And.intro (@AM.op_fieldAddr) (And.intro (@AM.op_indexAddr) (And.intro (@AM.op_len) (And.intro (@AM.op_load) (@AM.op_nilCheck))))))))))))))))))
theorem b16_FW2 : type_of% (And.intro (@AM.bin_geq) (And.intro (@AM.bin_lss) (And.intro (@AM.fa_ptr) (And.intro (@fd_91_0) (And.intro (@AM.ldO_agg) (And.intro (@AM.ldO_one) (And.intro (@AM.ld_ptr) (And.intro (@lk_26) (And.intro (@AM.op_binOp) (And.intro (@AM.op_call) (And.intro (@AM.op_fieldAddr) (And.intro (@AM.op_load) (And.intro (@AM.op_nilCheck) (And.intro (@AM.op_unOp) (And.intro (@AM.un_neg) (@AM.un_not)))))))))))))))) := And.intro (@AM.bin_geq) (And.intro (@AM.bin_lss) (And.intro (@AM.fa_ptr) (And.intro (@fd_91_0) (And.intro (@AM.ldO_agg) (And.intro (@AM.ldO_one) (And.intro (@AM.ld_ptr) (And.intro (@lk_26) (And.intro (@AM.op_binOp) (And.intro (@AM.op_call) (And.intro (@AM.op_fieldAddr) (And.intro (@AM.op_load) (And.intro (@AM.op_nilCheck) (And.intro (@AM.op_unOp) (And.intro (@AM.un_neg) (@AM.un_not)))))))))))))))
theorem b18_FW2 : type_of% (And.intro (@AM.bin_add) (And.intro (@AM.bin_eql) (And.intro (@AM.fa_ptr) (And.intro (@fd_91_1) (And.intro (@fd_91_2) (And.intro (@AM.iaO_ok) (And.intro (AM.ia_slice el_22) (And.intro (@AM.ldO_agg) (And.intro (@AM.ldO_one) (And.intro (@AM.ld_ptr) (And.intro (@lk_22) (And.intro (@lk_3) (And.intro (@AM.op_binOp) (And.intro (@AM.op_call) (And.intro (@AM.op_fieldAddr) (And.intro (@AM.op_indexAddr) (And.intro (@AM.op_load) (And.intro (@AM.op_nilCheck) (And.intro (@AM.op_store) (And.intro (@AM.stO_agg) (And.intro (@AM.stO_bool) (And.intro (@AM.stO_int) (And.intro (@AM.stO_map) (And.intro (@AM.stO_pointer) (And.intro (@AM.stO_slice) (And.intro (@AM.stO_string) (And.intro (@AM.st_ptr) (@sz_3)))))))))))))))))))))))))))) := And.intro (@AM.bin_add) (And.intro (@AM.bin_eql) (And.intro (@AM.fa_ptr) (And.intro (@fd_91_1) (And.intro (@fd_91_2) (And.intro (@AM.iaO_ok) (And.intro (AM.ia_slice el_22) (And.intro (@AM.ldO_agg) (And.intro (@AM.ldO_one) (And.intro (@AM.ld_ptr) (And.intro (@lk_22) (And.intro (@lk_3) (And.intro (@AM.op_binOp) (And.intro (@AM.op_call) (And.intro (@AM.op_fieldAddr) (And.intro (@AM.op_indexAddr) (And.intro (@AM.op_load) (And.intro (@AM.op_nilCheck) (And.intro (@AM.op_store) (And.intro (@AM.stO_agg) (And.intro (@AM.stO_bool) (And.intro (@AM.stO_int) (And.intro (@AM.stO_map) (And.intro (@AM.stO_pointer) (And.intro (@AM.stO_slice) (And.intro (@AM.stO_string) (And.intro (@AM.st_ptr) (@sz_3)))))))))))))))))))))))))))
theorem b22_FW2 : type_of% (And.intro (@AM.fa_ptr) (And.intro (@fd_91_2) (And.intro (@AM.ldO_agg) (And.intro (@AM.ldO_one) (And.intro (@AM.ld_ptr) (And.intro (@lk_3) (And.intro (@AM.op_call) (And.intro (@AM.op_fieldAddr) (And.intro (@AM.op_load) (@AM.op_nilCheck)))))))))) := And.intro (@AM.fa_ptr) (And.intro (@fd_91_2) (And.intro (@AM.ldO_agg) (And.intro (@AM.ldO_one) (And.intro (@AM.ld_ptr) (And.intro (@lk_3) (And.intro (@AM.op_call) (And.intro (@AM.op_fieldAddr) (And.intro (@AM.op_load) (@AM.op_nilCheck)))))))))
theorem b21_FW2 : type_of% (And.intro (@AM.fa_ptr) (And.intro (@fd_91_1) (And.intro (@AM.ldO_agg) (And.intro (@AM.ldO_one) (And.intro (@AM.ld_ptr) (And.intro (@lk_22) (And.intro (@AM.op_call) (And.intro (@AM.op_fieldAddr) (And.intro (@AM.op_load) (@AM.op_nilCheck)))))))))) := And.intro (@AM.fa_ptr) (And.intro (@fd_91_1) (And.intro (@AM.ldO_agg) (And.intro (@AM.ldO_one) (And.intro (@AM.ld_ptr) (And.intro (@lk_22) (And.intro (@AM.op_call) (And.intro (@AM.op_fieldAddr) (And.intro (@AM.op_load) (@AM.op_nilCheck)))))))))


theorem Mk.subF {h : AHeap} {p : Nat} {L : List (List UInt8)} {B C : Nat → Prop} (m : Mk h p L B) (hC : ∀ id, C id → B id) : Mk h p L C := by
  obtain ⟨⟨S, m, hB⟩, hb⟩ := m
  exact ⟨⟨S, m, fun id q => hB id (hC id q)⟩, fun id q => hb id (hC id q)⟩
/-- New ones are none of a map's own. -/
theorem Mk.freshF {h : AHeap} {p : Nat} {L : List (List UInt8)} {B : Nat → Prop} (m : Mk h p L B) {h' : AHeap} (fr : Fr none' h h') : Mk h' p L (fun id => B id ∨ (h.next ≤ id ∧ id < h'.next)) := m.more fr fun id q => q
/-- A floor in memory, which owns nothing of B. -/
def Fl (h : AHeap) (q p : Nat) (L : List (List UInt8)) (P : List Int) (mv : Nat) (B : Nat → Prop) : Prop :=
  ∃ aa ac, h.get q = some (.cells [pv p, .slice aa P.length ac, .int .i64 mv] 91 false) ∧ Ow h 3 1 (.slice aa P.length ac) P.length (P.map (.int .i64)) ∧ ¬ idOf (.slice aa P.length ac) q ∧ h.low ≤ q ∧
    (∀ id, B id → id ≠ q ∧ ¬ idOf (.slice aa P.length ac) id) ∧ Mk h p L (fun id => B id ∨ id = q ∨ idOf (.slice aa P.length ac) id)
theorem Mk.no {h : AHeap} {p : Nat} {L : List (List UInt8)} {B : Nat → Prop} (m : Mk h p L B) : ¬ B p := by
  obtain ⟨⟨S, m, hB⟩, _⟩ := m
  exact fun q => hB p q m.self
theorem Fl.frB {h h' : AHeap} {q p : Nat} {L : List (List UInt8)} {P : List Int} {mv : Nat} {B T : Nat → Prop} (x : Fl h q p L P mv B) (fr : Fr T h h') (hT : ∀ id, T id → B id) : Fl h' q p L P mv B := by
  obtain ⟨aa, ac, g, o, hne, hlo, hB, m⟩ := x
  exact ⟨aa, ac, fr.get g (fun t => (hB _ (hT _ t)).1 rfl), o.fr fr (fun id q t => (hB _ (hT _ t)).2 q), hne, by rw [fr.low]; exact hlo, hB, m.frB fr fun id t => .inl (hT id t)⟩
theorem Fl.fr0 {h h' : AHeap} {q p : Nat} {L : List (List UInt8)} {P : List Int} {mv : Nat} {B : Nat → Prop} (x : Fl h q p L P mv B) (fr : Fr none' h h') : Fl h' q p L P mv B := x.frB fr fun _ q => q.elim
theorem Fl.fresh {h h' : AHeap} {q p : Nat} {L : List (List UInt8)} {P : List Int} {mv : Nat} {B : Nat → Prop} (x : Fl h q p L P mv B) (fr : Fr none' h h') : Fl h' q p L P mv (fun id => B id ∨ (h.next ≤ id ∧ id < h'.next)) := by
  obtain ⟨aa, ac, g, o, hne, hlo, hB, m⟩ := x
  have lt := AM.get_some_lt g
  refine ⟨aa, ac, g.fr0 fr, o.fr0 fr, hne, by rw [fr.low]; exact hlo, fun id q => ?_, (m.freshF fr).subF fun id q => ?_⟩
  · rcases q with q | q
    · exact hB id q
    · exact ⟨by omega, fun t => by have := o.lt t; omega⟩
  · rcases q with (q | q) | q
    · exact .inl (.inl q)
    · exact .inr q
    · exact .inl (.inr q)
theorem Fl.sub {h : AHeap} {q p : Nat} {L : List (List UInt8)} {P : List Int} {mv : Nat} {B C : Nat → Prop} (x : Fl h q p L P mv B) (hC : ∀ id, C id → B id) : Fl h q p L P mv C := by
  obtain ⟨aa, ac, g, o, hne, hlo, hB, m⟩ := x
  exact ⟨aa, ac, g, o, hne, hlo, fun id q => hB id (hC id q), m.subF fun id q => q.imp (hC id) (fun q => q)⟩
theorem Fl.lt {h : AHeap} {q p : Nat} {L : List (List UInt8)} {P : List Int} {mv : Nat} {B : Nat → Prop} (x : Fl h q p L P mv B) {id : Nat} (hB : B id) : id < h.next := by
  obtain ⟨aa, ac, g, o, hne, hlo, _, m⟩ := x
  exact m.2 id (.inl hB)
/-- A write of the map's own keeps what the others have. -/
theorem Fr.notB {h h' : AHeap} {p : Nat} {L : List (List UInt8)} {B : Nat → Prop} (m : Mk h p L B) (fr : Fr (fun id => id = p) h h') : Fr (fun id => ¬ B id) h h' := fr.mono fun id _ e q => by
  have e : id = p := e
  subst e
  exact m.no q
theorem at_w {h : AHeap} {q p : Nat} {L : List (List UInt8)} {P : List Int} {mv : Nat} {B : Nat → Prop} (x : Fl h q p L P mv B) (hn : P.length ≤ 4000000) (r : Int) {Q : VQ} (hq : Q (.int .i64 (atF P r)) h) : W 17 [pv q, .int .i64 r] h Q := by
  obtain ⟨aa, ac, g, o, hne, hlo, hB, m⟩ := x
  have rd := o.rd
  refine AM.enter hp (fn := Tryd.f17) (rs := [.tmp 4]) (nt := 27) (by kernel_rfl) Tryd.func17 rfl rfl rfl (by kernel_rfl) ?_
  (first | (simp (maxSteps := 1000000) (disch := first | omega | (simp only [AM.DB, List.length_set, List.length_map]; first | done | omega)) only [AM.RB, Nat.reduceAdd, Nat.reduceMul, Nat.reduceEqDiff, reduceCtorEq, b17_FW2]) | skip)
  refine fnone_w g ?_
  unfold atF at hq
  by_cases h0 : r < 0
  · rw [if_neg (by omega)] at hq
    (first | (simp (maxSteps := 1000000) (disch := first | omega | (simp only [AM.DB, List.length_set, List.length_map]; first | done | omega)) only [AM.RB, Nat.reduceAdd, Nat.reduceMul, Nat.reduceEqDiff, reduceCtorEq, b17_FW2, decide_eq_true h0]) | skip)
    exact hq
  by_cases h1 : (P.length : Int) ≤ r
  · rw [if_neg (by omega)] at hq
    (first | (simp (maxSteps := 1000000) (disch := first | omega | (simp only [AM.DB, List.length_set, List.length_map]; first | done | omega)) only [AM.RB, Nat.reduceAdd, Nat.reduceMul, Nat.reduceEqDiff, reduceCtorEq, b17_FW2, g, decide_eq_false h0, decide_eq_true h1]) | skip)
    exact hq
  · rw [if_pos (by omega)] at hq
    (first | (simp (maxSteps := 1000000) (disch := first | omega | (simp only [AM.DB, List.length_set, List.length_map]; first | done | omega)) only [AM.RB, Nat.reduceAdd, Nat.reduceMul, Nat.reduceEqDiff, reduceCtorEq, b17_FW2, g, decide_eq_false h0, decide_eq_false h1, rd.ia el_22, Rd.ldi rd lk_3]) | skip)
    exact hq
set_option maxHeartbeats 2000000 in
theorem fcheck_w {h : AHeap} {q p : Nat} {L : List (List UInt8)} {P : List Int} {mv : Nat} {B : Nat → Prop} (x : Fl h q p L P mv B) (f : Fit L) (ok : Fok L.flatten P) (hw : h.get GW = some (.cells waysC 166 false)) (hgl : GW < h.low) (hl : h.low ≤ h.next) (hn : P.length ≤ 4000000) (r c : Int) {Q : VQ}
    (hq : ∀ h', Fl h' q p L P mv B → Fr (fun id => id = p) h h' → Q (.int .i64 (chkF L P r c)) h') : W 16 [pv q, .int .i64 r, .int .i64 c] h Q := by
  obtain ⟨aa, ac, g, o, hne, hlo, hB, m⟩ := id x
  have frp : Fr (fun id => id = p) h h := Fr.refl _ _
  refine AM.enter hp (fn := Tryd.f16) (rs := [.tmp 6]) (nt := 33) (by kernel_rfl) Tryd.func16 rfl rfl rfl (by kernel_rfl) ?_
  (first | (simp (maxSteps := 1000000) (disch := first | omega | (simp only [AM.DB, List.length_set, List.length_map]; first | done | omega)) only [AM.RB, Nat.reduceAdd, Nat.reduceMul, Nat.reduceEqDiff, reduceCtorEq, b16_FW2]) | skip)
  refine at_w x hn r ?_
  (first | (simp (maxSteps := 1000000) (disch := first | omega | (simp only [AM.DB, List.length_set, List.length_map]; first | done | omega)) only [AM.RB, Nat.reduceAdd, Nat.reduceMul, Nat.reduceEqDiff, reduceCtorEq, b16_FW2]) | skip)
  refine fnone_w g ?_
  unfold atF
  by_cases hr : 0 ≤ r ∧ r < P.length
  case neg =>
    have e : chkF L P r c = 220 := by unfold chkF; rw [if_neg (fun q => hr q.1)]
    have d1 : decide ((-1 : Int) < 0) = true := rfl
    rw [e] at hq
    rw [if_neg hr]
    (first | (simp (maxSteps := 1000000) (disch := first | omega | (simp only [AM.DB, List.length_set, List.length_map]; first | done | omega)) only [AM.RB, Nat.reduceAdd, Nat.reduceMul, Nat.reduceEqDiff, reduceCtorEq, b16_FW2, d1]) | skip)
    exact hq _ x frp
  obtain ⟨r0, r1⟩ := hr
  obtain ⟨r, rfl⟩ := Int.eq_ofNat_of_zero_le r0
  have hrl : r < P.length := by omega
  obtain ⟨a, ea, hal⟩ := ok.cell hrl
  rw [if_pos ⟨r0, r1⟩, Int.toNat_natCast, ea]
  have da : decide ((a : Int) < 0) = false := decide_eq_false (by omega)
  have ec : chkF L P r c = if edgeL L (a : Int) c = true ∧ whoL P c < 0 then 0 else 220 := by
    unfold chkF
    rw [Int.toNat_natCast, ea]
    by_cases hh : edgeL L (a : Int) c = true ∧ whoL P c < 0
    · rw [if_pos ⟨⟨r0, r1⟩, hh⟩, if_pos hh]
    · rw [if_neg (fun q => hh q.2), if_neg hh]
  rw [ec] at hq
  (first | (simp (maxSteps := 1000000) (disch := first | omega | (simp only [AM.DB, List.length_set, List.length_map]; first | done | omega)) only [AM.RB, Nat.reduceAdd, Nat.reduceMul, Nat.reduceEqDiff, reduceCtorEq, b16_FW2, g, da]) | skip)
  refine edgeK_w m f hw hgl hl _ _ fun h1 m1 fr1 => ?_
  have qp : q ≠ p := fun e => m.no (.inr (.inl e.symm))
  have g1 := fr1.get g qp
  have o1 := o.fr fr1 (fun id t e => by have e : id = p := e; subst e; exact m.no (.inr (.inr t)))
  have x1 : Fl h1 q p L P mv B := ⟨aa, ac, g1, o1, hne, by rw [fr1.low]; exact hlo, hB, m1⟩
  have nx1 := fr1.next
  have lw1 := fr1.low
  cases he : edgeL L (a : Int) c
  · rw [if_neg (fun q => by rw [he] at q; cases q.1)] at hq
    (first | (simp (maxSteps := 1000000) (disch := first | omega | (simp only [AM.DB, List.length_set, List.length_map]; first | done | omega)) only [AM.RB, Nat.reduceAdd, Nat.reduceMul, Nat.reduceEqDiff, reduceCtorEq, b16_FW2]) | skip)
    exact hq _ x1 fr1
  (first | (simp (maxSteps := 1000000) (disch := first | omega | (simp only [AM.DB, List.length_set, List.length_map]; first | done | omega)) only [AM.RB, Nat.reduceAdd, Nat.reduceMul, Nat.reduceEqDiff, reduceCtorEq, b16_FW2]) | skip)
  refine who_w g1 o1.rd hn (by omega) c fun h2 fr2 => ?_
  by_cases hwh : 0 ≤ whoL P c
  · rw [if_neg (by omega)] at hq
    (first | (simp (maxSteps := 1000000) (disch := first | omega | (simp only [AM.DB, List.length_set, List.length_map]; first | done | omega)) only [AM.RB, Nat.reduceAdd, Nat.reduceMul, Nat.reduceEqDiff, reduceCtorEq, b16_FW2, decide_eq_true hwh]) | skip)
    exact hq _ (x1.fr0 fr2) (fr1.trans (fr2.mono fun _ _ q => q.elim))
  · rw [if_pos ⟨he, by omega⟩] at hq
    (first | (simp (maxSteps := 1000000) (disch := first | omega | (simp only [AM.DB, List.length_set, List.length_map]; first | done | omega)) only [AM.RB, Nat.reduceAdd, Nat.reduceMul, Nat.reduceEqDiff, reduceCtorEq, b16_FW2, decide_eq_false hwh]) | skip)
    exact hq _ (x1.fr0 fr2) (fr1.trans (fr2.mono fun _ _ q => q.elim))
theorem mset' (l : List Int) (i : Nat) (v : Int) : (l.map (Value.int .i64)).set i (.int .i64 v) = (l.set i v).map (.int .i64) := by rw [List.map_set]
set_option maxHeartbeats 2000000 in
theorem move_w {h : AHeap} {q p : Nat} {L : List (List UInt8)} {P : List Int} {mv : Nat} {B : Nat → Prop} (x : Fl h q p L P mv B) (f : Fit L) (ok : Fok L.flatten P) (hw : h.get GW = some (.cells waysC 166 false)) (hgl : GW < h.low) (hl : h.low ≤ h.next) (hn : P.length ≤ 4000000) (hmv : mv ≤ 4000000) (r c : Int) {Q : VQ}
    (hq : ∀ h', Fl h' q p L (movF L P r c) (if chkF L P r c = 0 then mv + 1 else mv) B → Fr (fun id => ¬ B id) h h' → Q (.int .i64 (chkF L P r c)) h') : W 18 [pv q, .int .i64 r, .int .i64 c] h Q := by
  have hgp : ∀ {h'}, Fl h' q p L P mv B → True := fun _ => trivial
  obtain ⟨_, _, _, _, _, _, _, m0⟩ := id x
  have nb : ∀ {h'}, Fr (fun id => id = p) h h' → Fr (fun id => ¬ B id) h h' := fun fr => (Fr.notB m0 fr).mono fun id _ q t => q (.inl t)
  refine AM.enter hp (fn := Tryd.f18) (rs := [.tmp 6]) (nt := 29) (by kernel_rfl) Tryd.func18 rfl rfl rfl (by kernel_rfl) ?_
  (first | (simp (maxSteps := 1000000) (disch := first | omega | (simp only [AM.DB, List.length_set, List.length_map]; first | done | omega)) only [AM.RB, Nat.reduceAdd, Nat.reduceMul, Nat.reduceEqDiff, reduceCtorEq, b18_FW2]) | skip)
  refine fcheck_w x f ok hw hgl hl hn r c fun h1 x1 fr1 => ?_
  obtain ⟨aa, ac, g, o, hne, hlo, hB, m⟩ := x1
  have nx1 := fr1.next
  have lw1 := fr1.low
  rcases chkF_or L P r c with ⟨e, ⟨r0, r1⟩, h2, h3⟩ | ⟨e, _⟩
  · have d0 : decide ((0 : Int) = 0) = true := rfl
    unfold movF at hq
    rw [e, if_pos rfl, if_pos rfl] at hq
    obtain ⟨r, rfl⟩ := Int.eq_ofNat_of_zero_le r0
    rw [e]
    (first | (simp (maxSteps := 1000000) (disch := first | omega | (simp only [AM.DB, List.length_set, List.length_map]; first | done | omega)) only [AM.RB, Nat.reduceAdd, Nat.reduceMul, Nat.reduceEqDiff, reduceCtorEq, b18_FW2, d0, g, o.ia el_22, Int.toNat_natCast]) | skip)
    refine o.st sz_3 (j := r) (by omega) rfl rfl fun h2 o2 fr2 n2 => ?_
    rw [mset'] at o2
    have g2 := fr2.get g hne
    have lw2 := fr2.low
    have ltq := AM.get_some_lt g2
    (first | (simp (maxSteps := 1000000) (disch := first | omega | (simp only [AM.DB, List.length_set, List.length_map]; first | done | omega)) only [AM.RB, Nat.reduceAdd, Nat.reduceMul, Nat.reduceEqDiff, reduceCtorEq, b18_FW2, g2, AM.wrap_i64]) | skip)
    generalize hE_ : AHeap.put h2 _ _ = h3; obtain ⟨g3, fr3, n3, l3⟩ := AM.put_get hE_ (by omega); clear hE_
    (first | (simp (maxSteps := 1000000) (disch := first | omega | (simp only [AM.DB, List.length_set, List.length_map]; first | done | omega)) only [AM.RB, Nat.reduceAdd, Nat.reduceMul, Nat.reduceEqDiff, reduceCtorEq, b18_FW2]) | skip)
    refine hq _ ⟨aa, ac, ?_, ?_, ?_, by omega, ?_, ?_⟩ (((nb fr1).trans (fr2.mono fun id _ t b => (hB id b).2 t)).trans (fr3.mono fun id _ t b => (hB id b).1 t))
    · rw [Int.toNat_natCast, List.length_set]; exact g3
    · rw [Int.toNat_natCast, List.length_set]; exact o2.fr fr3 (fun id t e => by have e : id = q := e; subst e; exact hne t)
    · rw [Int.toNat_natCast, List.length_set]; exact hne
    · rw [Int.toNat_natCast, List.length_set]; exact hB
    · rw [Int.toNat_natCast, List.length_set]; exact (m.frB fr2 fun id t => .inr (.inr t)).frB fr3 fun id t => .inr (.inl t)
  · have d0 : decide ((220 : Int) = 0) = false := rfl
    unfold movF at hq
    rw [e, if_neg (by decide), if_neg (by decide)] at hq
    rw [e]
    (first | (simp (maxSteps := 1000000) (disch := first | omega | (simp only [AM.DB, List.length_set, List.length_map]; first | done | omega)) only [AM.RB, Nat.reduceAdd, Nat.reduceMul, Nat.reduceEqDiff, reduceCtorEq, b18_FW2, d0]) | skip)
    exact hq _ ⟨aa, ac, g, o, hne, hlo, hB, m⟩ (nb fr1)
theorem moves_w {h : AHeap} {q p : Nat} {L : List (List UInt8)} {P : List Int} {mv : Nat} {B : Nat → Prop} (x : Fl h q p L P mv B) {Q : VQ} (hq : Q (.int .i64 mv) h) : W 22 [pv q] h Q := by
  obtain ⟨aa, ac, g, o, hne, hlo, hB, m⟩ := x
  refine AM.enter hp (fn := Tryd.f22) (rs := [.tmp 2]) (nt := 9) (by kernel_rfl) Tryd.func22 rfl rfl rfl (by kernel_rfl) ?_
  (first | (simp (maxSteps := 1000000) (disch := first | omega | (simp only [AM.DB, List.length_set, List.length_map]; first | done | omega)) only [AM.RB, Nat.reduceAdd, Nat.reduceMul, Nat.reduceEqDiff, reduceCtorEq, b22_FW2]) | skip)
  refine fnone_w g ?_
  (first | (simp (maxSteps := 1000000) (disch := first | omega | (simp only [AM.DB, List.length_set, List.length_map]; first | done | omega)) only [AM.RB, Nat.reduceAdd, Nat.reduceMul, Nat.reduceEqDiff, reduceCtorEq, b22_FW2, g]) | skip)
  exact hq
theorem places_w {h : AHeap} {q p : Nat} {L : List (List UInt8)} {P : List Int} {mv : Nat} {B : Nat → Prop} (x : Fl h q p L P mv B) (hl : h.low ≤ h.next) (hn : P.length ≤ 4000000) {Q : VQ}
    (hq : ∀ v h', Ow h' 3 1 v P.length (P.map (.int .i64)) → Fr none' h h' → (∀ id, idOf v id → h.next ≤ id) → Q v h') : W 21 [pv q] h Q := by
  obtain ⟨aa, ac, g, o, hne, hlo, hB, m⟩ := x
  refine AM.enter hp (fn := Tryd.f21) (rs := [.tmp 2]) (nt := 10) (by kernel_rfl) Tryd.func21 rfl rfl rfl (by kernel_rfl) ?_
  (first | (simp (maxSteps := 1000000) (disch := first | omega | (simp only [AM.DB, List.length_set, List.length_map]; first | done | omega)) only [AM.RB, Nat.reduceAdd, Nat.reduceMul, Nat.reduceEqDiff, reduceCtorEq, b21_FW2]) | skip)
  refine fnone_w g ?_
  (first | (simp (maxSteps := 1000000) (disch := first | omega | (simp only [AM.DB, List.length_set, List.length_map]; first | done | omega)) only [AM.RB, Nat.reduceAdd, Nat.reduceMul, Nat.reduceEqDiff, reduceCtorEq, b21_FW2, g]) | skip)
  refine clone_w o.rd (AM.ints_one _ _) (by omega) hl fun v h1 o1 fr1 hid1 => ?_
  (first | (simp (maxSteps := 1000000) (disch := first | omega | (simp only [AM.DB, List.length_set, List.length_map]; first | done | omega)) only [AM.RB, Nat.reduceAdd, Nat.reduceMul, Nat.reduceEqDiff, reduceCtorEq, b21_FW2]) | skip)
  exact hq _ _ o1 fr1 hid1

end Go.Proofs.YtbaohngkapmhlaaDoor

namespace Go.Proofs.YtbaohngkapmhlaaDoor
open Go.AM
set_option maxRecDepth 8000
theorem b57_FW3 : type_of% (And.intro (@AM.bin_geq) (And.intro (@AM.ldO_agg) (And.intro (@AM.ldO_one) (And.intro (@AM.ld_ptr) (And.intro (@lk_25) (And.intro (@AM.op_binOp) (And.intro (@AM.op_call) (@AM.op_load)))))))) := And.intro (@AM.bin_geq) (And.intro (@AM.ldO_agg) (And.intro (@AM.ldO_one) (And.intro (@AM.ld_ptr) (And.intro (@lk_25) (And.intro (@AM.op_binOp) (And.intro (@AM.op_call) (@AM.op_load)))))))
theorem b91_FW3 : type_of% (And.intro (@AM.bin_add) (And.intro (@AM.bin_lss) (And.intro (@AM.iaO_ok) (And.intro (AM.ia_slice el_22) (And.intro (@AM.ldO_agg) (And.intro (@AM.ldO_one) (And.intro (@AM.ld_ptr) (And.intro (AM.len_slice ul_22) (And.intro (@lk_3) (And.intro (@AM.op_binOp) (And.intro (@AM.op_call) (And.intro (@AM.op_indexAddr) (And.intro (@AM.op_len) (@AM.op_load)))))))))))))) := And.intro (@AM.bin_add) (And.intro (@AM.bin_lss) (And.intro (@AM.iaO_ok) (And.intro (AM.ia_slice el_22) (And.intro (@AM.ldO_agg) (And.intro (@AM.ldO_one) (And.intro (@AM.ld_ptr) (And.intro (AM.len_slice ul_22) (And.intro (@lk_3) (And.intro (@AM.op_binOp) (And.intro (@AM.op_call) (And.intro (@AM.op_indexAddr) (And.intro (@AM.op_len) (@AM.op_load)))))))))))))
theorem b55_FW3 : type_of% (And.intro (@AM.bin_add) (And.intro (@AM.bin_eql) (And.intro (@AM.bin_lss) (And.intro (@AM.iaO_ok) (And.intro (AM.ia_slice el_22) (And.intro (@AM.ldO_agg) (And.intro (@AM.ldO_one) (And.intro (@AM.ld_ptr) (And.intro (AM.len_slice ul_22) (And.intro (@lk_3) (And.intro (@AM.op_binOp) (And.intro (@AM.op_call) (And.intro (@AM.op_clear) (And.intro (@AM.op_indexAddr) (And.intro (@AM.op_len) (And.intro (@AM.op_load) (And.intro (@AM.op_slice) (And.intro (@AM.op_store) (And.intro (@AM.op_unOp) (And.intro (@AM.stO_agg) (And.intro (@AM.stO_bool) (And.intro (@AM.stO_int) (And.intro (@AM.stO_map) (And.intro (@AM.stO_pointer) (And.intro (@AM.stO_slice) (And.intro (@AM.stO_string) (And.intro (@AM.st_ptr) (And.intro (@sz_3) (And.intro (@AM.un_neg) (@AM.un_not)))))))))))))))))))))))))))))) := And.intro (@AM.bin_add) (And.intro (@AM.bin_eql) (And.intro (@AM.bin_lss) (And.intro (@AM.iaO_ok) (And.intro (AM.ia_slice el_22) (And.intro (@AM.ldO_agg) (And.intro (@AM.ldO_one) (And.intro (@AM.ld_ptr) (And.intro (AM.len_slice ul_22) (And.intro (@lk_3) (And.intro (@AM.op_binOp) (And.intro (@AM.op_call) (And.intro (@AM.op_clear) (And.intro (@AM.op_indexAddr) (And.intro (@AM.op_len) (And.intro (@AM.op_load) (And.intro (@AM.op_slice) (And.intro (@AM.op_store) (And.intro (@AM.op_unOp) (And.intro (@AM.stO_agg) (And.intro (@AM.stO_bool) (And.intro (@AM.stO_int) (And.intro (@AM.stO_map) (And.intro (@AM.stO_pointer) (And.intro (@AM.stO_slice) (And.intro (@AM.stO_string) (And.intro (@AM.st_ptr) (And.intro (@sz_3) (And.intro (@AM.un_neg) (@AM.un_not)))))))))))))))))))))))))))))


/-! ### Cells that are open -/
def pWho (P : List Int) (c : Int) : Bool := decide (0 ≤ whoL P c)
def kWho (P : List Int) (c : Int) : Bool := decide (whoL P c < 0)
theorem kWho_eq (P : List Int) (c : Int) : kWho P c = !pWho P c := by
  unfold kWho pWho
  by_cases h : 0 ≤ whoL P c
  · rw [decide_eq_true h, decide_eq_false (by omega)]; rfl
  · rw [decide_eq_false h, decide_eq_true (by omega)]; rfl
/-- What the closure reads. -/
structure Clo (h : AHeap) (w q p : Nat) (aa : Option Addr) (ac : Nat) (P : List Int) (mv : Value) : Prop where
  gw : h.get w = some (.cells [pv q] 25 false)
  gq : h.get q = some (.cells [pv p, .slice aa P.length ac, mv] 91 false)
  rd : Rd h 3 1 (.slice aa P.length ac) P.length (P.map (.int .i64))
theorem Clo.fr {h h' : AHeap} {w q p : Nat} {aa : Option Addr} {ac : Nat} {P : List Int} {mv : Value} {T : Nat → Prop} (x : Clo h w q p aa ac P mv) (fr : Fr T h h') (hT : ∀ id, T id → id ≠ w ∧ id ≠ q ∧ ¬ idOf (.slice aa P.length ac) id) : Clo h' w q p aa ac P mv :=
  ⟨fr.get x.gw (fun t => (hT _ t).1 rfl), fr.get x.gq (fun t => (hT _ t).2.1 rfl), x.rd.fr fr (fun id a t => (hT _ t).2.2 a)⟩
theorem Clo.fr0 {h h' : AHeap} {w q p : Nat} {aa : Option Addr} {ac : Nat} {P : List Int} {mv : Value} (x : Clo h w q p aa ac P mv) (fr : Fr none' h h') : Clo h' w q p aa ac P mv := x.fr fr fun _ t => t.elim
theorem open1_w {h : AHeap} {w q p : Nat} {aa : Option Addr} {ac : Nat} {P : List Int} {mv : Value} (x : Clo h w q p aa ac P mv) (hn : P.length ≤ 4000000) (hl : h.low ≤ h.next) (c : Int) {Q : VQ} (hq : ∀ h', Fr none' h h' → Q (.bool (pWho P c)) h') : CallW Tryd.prog prims (.func (.func 57) #[] #[pv w]) [.int .i64 c] h Q := by
  refine AM.enter hp (fn := Tryd.f57) (rs := [.tmp 3]) (nt := 8) (by kernel_rfl) Tryd.func57 rfl rfl rfl (by kernel_rfl) ?_
  (first | (simp (maxSteps := 1000000) (disch := first | omega | (simp only [AM.DB, List.length_set, List.length_map]; first | done | omega)) only [AM.RB, Nat.reduceAdd, Nat.reduceMul, Nat.reduceEqDiff, reduceCtorEq, b57_FW3, x.gw]) | skip)
  refine who_w x.gq x.rd hn hl c fun h1 fr1 => ?_
  (first | (simp (maxSteps := 1000000) (disch := first | omega | (simp only [AM.DB, List.length_set, List.length_map]; first | done | omega)) only [AM.RB, Nat.reduceAdd, Nat.reduceMul, Nat.reduceEqDiff, reduceCtorEq, b57_FW3]) | skip)
  exact hq _ fr1
set_option maxHeartbeats 2000000 in
theorem indexF_w {h : AHeap} {w q p : Nat} {aa : Option Addr} {ac : Nat} {P : List Int} {mv : Value} {sv : Value} {l : List Int} (x : Clo h w q p aa ac P mv) (hn : P.length ≤ 4000000) (hl : h.low ≤ h.next) (hs : Rd h 3 1 sv l.length (l.map (.int .i64))) (hll : l.length ≤ 4000000) {Q : VQ}
    (hno : ∀ h', Fr none' h h' → (∀ j, j < l.length → pWho P (l.getD j 0) = false) → Q (.int .i64 (-1)) h')
    (hyes : ∀ h' k, Fr none' h h' → k < l.length → pWho P (l.getD k 0) = true → (∀ j, j < k → pWho P (l.getD j 0) = false) → Q (.int .i64 (k : Nat)) h') : W 91 [sv, .func (.func 57) #[] #[pv w]] h Q := by
  obtain ⟨sa, sc, rfl⟩ := hs.form
  refine AM.enter hp (fn := Tryd.f91) (rs := [.tmp 4]) (nt := 19) (by kernel_rfl) Tryd.func91 rfl rfl rfl (by kernel_rfl) ?_
  (first | (simp (maxSteps := 1000000) (disch := first | omega | (simp only [AM.DB, List.length_set, List.length_map]; first | done | omega)) only [AM.RB, Nat.reduceAdd, Nat.reduceMul, Nat.reduceEqDiff, reduceCtorEq, b91_FW3]) | skip)
  refine AM.loop_w hp 19 (fun i : Nat => [(0, .slice sa l.length sc), (1, .func (.func 57) #[] #[pv w]), (7, .int .i64 l.length), (8, .int .i64 i)])
    (fun i h' => i ≤ l.length ∧ Fr none' h h' ∧ ∀ j, j < i → pWho P (l.getD j 0) = false) (fun i => l.length - i) (by kernel_rfl) 0 ?_ ?_ ?_
  · simp (maxSteps := 1000000) (disch := first | omega | (simp only [AM.DB, List.length_set, List.length_map]; first | done | omega)) only [AM.RB, Nat.reduceAdd, Nat.reduceMul, Nat.reduceEqDiff, reduceCtorEq, b91_FW3]
    first | rfl | skip
  · exact ⟨Nat.zero_le _, Fr.refl _ _, fun j hj => by omega⟩
  rintro i h1 ρ ⟨hi, fr1, hall⟩
  have r1 := hs.fr0 fr1
  have nx1 := fr1.next
  have lw1 := fr1.low
  simp (maxSteps := 1000000) (disch := first | omega | (simp only [AM.DB, List.length_set, List.length_map]; first | done | omega)) only [AM.RB, Nat.reduceAdd, Nat.reduceMul, Nat.reduceEqDiff, reduceCtorEq, b91_FW3]
  refine AM.condV_split (fun hlt => ?_) (fun hlt => ?_)
  · have hil : i < l.length := by omega
    obtain ⟨c, hc⟩ : ∃ c, l.getD i 0 = c := ⟨_, rfl⟩
    (first | (simp (maxSteps := 1000000) (disch := first | omega | (simp only [AM.DB, List.length_set, List.length_map]; first | done | omega)) only [AM.RB, Nat.reduceAdd, Nat.reduceMul, Nat.reduceEqDiff, reduceCtorEq, b91_FW3, r1.ia el_22, Rd.ldi r1 lk_3, Int.toNat_natCast, hc]) | skip)
    refine open1_w (x.fr0 fr1) hn (by omega) c fun h2 fr2 => ?_
    cases hp' : pWho P c
    · (first | (simp (maxSteps := 1000000) (disch := first | omega | (simp only [AM.DB, List.length_set, List.length_map]; first | done | omega)) only [AM.RB, Nat.reduceAdd, Nat.reduceMul, Nat.reduceEqDiff, reduceCtorEq, b91_FW3, AM.wrap_i64]) | skip)
      refine ⟨i + 1, by omega, congrArg _ (by omega), by omega, fr1.trans fr2, fun j hj => ?_⟩
      by_cases ej : j = i
      · subst ej; rw [hc]; exact hp'
      · exact hall j (by omega)
    · (first | (simp (maxSteps := 1000000) (disch := first | omega | (simp only [AM.DB, List.length_set, List.length_map]; first | done | omega)) only [AM.RB, Nat.reduceAdd, Nat.reduceMul, Nat.reduceEqDiff, reduceCtorEq, b91_FW3]) | skip)
      exact hyes _ i (fr1.trans fr2) hil (by rw [hc]; exact hp') hall
  · (first | (simp (maxSteps := 1000000) (disch := first | omega | (simp only [AM.DB, List.length_set, List.length_map]; first | done | omega)) only [AM.RB, Nat.reduceAdd, Nat.reduceMul, Nat.reduceEqDiff, reduceCtorEq, b91_FW3]) | skip)
    exact hno _ fr1 fun j hj => hall j (by omega)
theorem filter_take_no {P : List Int} {l : List Int} : ∀ n, n ≤ l.length → (∀ j, j < n → pWho P (l.getD j 0) = false) → (l.take n).filter (kWho P) = l.take n := fun n hn h => by
  refine List.filter_eq_self.2 fun x hx => ?_
  obtain ⟨j, hj, e⟩ := List.mem_iff_getElem.1 hx
  rw [List.length_take] at hj
  have := h j (by omega)
  rw [List.getElem_take] at e
  rw [List.getD, List.getElem?_eq_getElem (by omega), Option.getD_some, e] at this
  rw [kWho_eq, this]; rfl
theorem filter_take_succ {P : List Int} {l : List Int} {j : Nat} (hj : j < l.length) : (l.take (j + 1)).filter (kWho P) = (l.take j).filter (kWho P) ++ if pWho P (l.getD j 0) = true then [] else [l.getD j 0] := by
  rw [List.take_add_one, List.getElem?_eq_getElem hj, List.filter_append]
  congr 1
  have e : l.getD j 0 = l[j] := by simp [List.getD, hj]
  rw [e]
  show [l[j]].filter (kWho P) = _
  rw [filter_one, kWho_eq]
  cases pWho P l[j] <;> rfl
theorem set_take_succ {l : List Int} {i : Nat} {v : Int} (h : i < l.length) : (l.set i v).take (i + 1) = l.take i ++ [v] := by
  rw [List.take_add_one, List.getElem?_set_self h]
  congr 1
  rw [List.take_set_of_le (Nat.le_refl _)]
set_option maxHeartbeats 4000000 in
theorem deleteF_w {h : AHeap} {w q p : Nat} {aa : Option Addr} {ac : Nat} {P : List Int} {mv : Value} {sv : Value} {l : List Int} (x : Clo h w q p aa ac P mv) (hn : P.length ≤ 4000000) (hl : h.low ≤ h.next) (hs : Ow h 3 1 sv l.length (l.map (.int .i64))) (hll : l.length ≤ 4000000) (hd : ∀ id, idOf sv id → id ≠ w ∧ id ≠ q ∧ ¬ idOf (.slice aa P.length ac) id) {Q : VQ}
    (hq : ∀ v' h', Ow h' 3 1 v' (l.filter (kWho P)).length ((l.filter (kWho P)).map (.int .i64)) → Fr (idOf sv) h h' → (∀ id, idOf v' id → idOf sv id) → Q v' h') : W 55 [sv, .func (.func 57) #[] #[pv w]] h Q := by
  obtain ⟨sa, sc, rfl⟩ := hs.form
  refine AM.enter hp (fn := Tryd.f55) (rs := [.tmp 4]) (nt := 42) (by kernel_rfl) Tryd.func55 rfl rfl rfl (by kernel_rfl) ?_
  (first | (simp (maxSteps := 1000000) (disch := first | omega | (simp only [AM.DB, List.length_set, List.length_map]; first | done | omega)) only [AM.RB, Nat.reduceAdd, Nat.reduceMul, Nat.reduceEqDiff, reduceCtorEq, b55_FW3]) | skip)
  refine indexF_w x hn hl hs.rd hll (fun h1 fr1 hall => ?_) (fun h1 k fr1 hk hpk hall => ?_)
  · have e : l.filter (kWho P) = l := by
      have := filter_take_no l.length (Nat.le_refl _) hall
      rwa [List.take_length] at this
    rw [e] at hq
    have d1 : decide ((-1 : Int) = -1) = true := rfl
    (first | (simp (maxSteps := 1000000) (disch := first | omega | (simp only [AM.DB, List.length_set, List.length_map]; first | done | omega)) only [AM.RB, Nat.reduceAdd, Nat.reduceMul, Nat.reduceEqDiff, reduceCtorEq, b55_FW3, d1]) | skip)
    exact hq _ _ (hs.fr0 fr1) (fr1.mono fun _ _ q => q.elim) (fun id q => q)
  have dk : decide ((k : Int) = -1) = false := decide_eq_false (by omega)
  (first | (simp (maxSteps := 1000000) (disch := first | omega | (simp only [AM.DB, List.length_set, List.length_map]; first | done | omega)) only [AM.RB, Nat.reduceAdd, Nat.reduceMul, Nat.reduceEqDiff, reduceCtorEq, b55_FW3, dk, AM.wrap_i64]) | skip)
  have hkf := filter_take_no k (by omega) hall
  have hkf2 : (l.take (k + 1)).filter (kWho P) = l.take k := by rw [filter_take_succ hk, hkf, if_pos hpk, List.append_nil]
  refine AM.loop_w hp 42 (fun q : Nat × Nat => [(0, .slice sa l.length sc), (1, .func (.func 57) #[] #[pv w]), (5, .int .i64 q.2), (6, .int .i64 q.1)])
    (fun q h' => q.1 ≤ l.length ∧ q.2 < q.1 ∧ Fr (idOf (.slice sa l.length sc)) h h' ∧ ∃ cs : List Int, cs.length = l.length ∧ Ow h' 3 1 (.slice sa l.length sc) l.length (cs.map (.int .i64)) ∧ cs.take q.2 = (l.take q.1).filter (kWho P) ∧ ∀ j, q.1 ≤ j → cs.getD j 0 = l.getD j 0) (fun q => l.length - q.1) (by kernel_rfl) (k + 1, k) ?_ ?_ ?_
  · simp (maxSteps := 1000000) (disch := first | omega | (simp only [AM.DB, List.length_set, List.length_map]; first | done | omega)) only [AM.RB, Nat.reduceAdd, Nat.reduceMul, Nat.reduceEqDiff, reduceCtorEq, b55_FW3]
    first | exact ⟨rfl, congrArg _ (by omega)⟩ | exact congrArg _ (by omega) | rfl | skip
  · exact ⟨by simp only; omega, by simp only; omega, fr1.mono fun _ _ q => q.elim, l, rfl, hs.fr0 fr1, hkf2.symm, fun _ _ => rfl⟩
  rintro ⟨j, i⟩ h2 ρ ⟨hj, hij, fr2, cs, hcl, o2, htk, hrest⟩
  simp only at hj hij htk hrest ⊢
  have nx2 := fr2.next
  have lw2 := fr2.low
  have r2 := o2.rd
  have x2 := x.fr fr2 hd
  simp (maxSteps := 1000000) (disch := first | omega | (simp only [AM.DB, List.length_set, List.length_map]; first | done | omega)) only [AM.RB, Nat.reduceAdd, Nat.reduceMul, Nat.reduceEqDiff, reduceCtorEq, b55_FW3]
  refine AM.condV_split (fun hlt => ?_) (fun hlt => ?_)
  · have hjl : j < l.length := by omega
    obtain ⟨c, hc⟩ : ∃ c, l.getD j 0 = c := ⟨_, rfl⟩
    have hcc : cs.getD j 0 = c := by rw [hrest j (Nat.le_refl _), hc]
    have hs1 := filter_take_succ (P := P) hjl
    rw [hc] at hs1
    (first | (simp (maxSteps := 1000000) (disch := first | omega | (simp only [AM.DB, List.length_set, List.length_map]; first | done | omega)) only [AM.RB, Nat.reduceAdd, Nat.reduceMul, Nat.reduceEqDiff, reduceCtorEq, b55_FW3, r2.ia el_22, Rd.ldi r2 lk_3, Int.toNat_natCast, hcc]) | skip)
    refine open1_w x2 hn (by omega) c fun h3 fr3 => ?_
    have o3 := o2.fr0 fr3
    have lw3 := fr3.low
    cases hp' : pWho P c
    · rw [hp', if_neg (by decide)] at hs1
      (first | (simp (maxSteps := 1000000) (disch := first | omega | (simp only [AM.DB, List.length_set, List.length_map]; first | done | omega)) only [AM.RB, Nat.reduceAdd, Nat.reduceMul, Nat.reduceEqDiff, reduceCtorEq, b55_FW3, o3.ia el_22, Int.toNat_natCast]) | skip)
      refine o3.st sz_3 (j := i) (by omega) rfl rfl fun h4 o4 fr4 n4 => ?_
      rw [mset'] at o4
      (first | (simp (maxSteps := 1000000) (disch := first | omega | (simp only [AM.DB, List.length_set, List.length_map]; first | done | omega)) only [AM.RB, Nat.reduceAdd, Nat.reduceMul, Nat.reduceEqDiff, reduceCtorEq, b55_FW3, AM.wrap_i64]) | skip)
      refine ⟨(j + 1, i + 1), by simp only; omega, ⟨congrArg _ (by simp only; omega), congrArg _ (by simp only; omega)⟩, by simp only; omega, by simp only; omega, ?_, cs.set i c, by rw [List.length_set]; exact hcl, o4, ?_, fun m hm => ?_⟩
      · exact (fr2.trans (fr3.mono fun _ _ q => q.elim)).trans fr4
      · simp only
        rw [set_take_succ (by omega), htk, hs1]
      · simp only at hm
        rw [getD_set, if_neg (by omega)]
        exact hrest m (by omega)
    · rw [hp', if_pos rfl, List.append_nil] at hs1
      (first | (simp (maxSteps := 1000000) (disch := first | omega | (simp only [AM.DB, List.length_set, List.length_map]; first | done | omega)) only [AM.RB, Nat.reduceAdd, Nat.reduceMul, Nat.reduceEqDiff, reduceCtorEq, b55_FW3, AM.wrap_i64]) | skip)
      refine ⟨(j + 1, i), by simp only; omega, ⟨rfl, congrArg _ (by omega)⟩, by simp only; omega, by simp only; omega, fr2.trans (fr3.mono fun _ _ q => q.elim), cs, hcl, o3, ?_, fun m hm => ?_⟩
      · simp only
        rw [htk, hs1]
      · simp only at hm
        exact hrest m (by omega)
  have ej : j = l.length := by omega
  rw [ej, List.take_length] at htk
  have hil : (l.filter (kWho P)).length = i := by rw [← htk, List.length_take]; omega
  have oo := o2
  rcases oo with ⟨e, _⟩ | ⟨id, off, cap, c, o, e, hnc, hg, hf, hd2, hlo⟩
  · simp only [Value.slice.injEq] at e; omega
  cases e
  have hi0 : (i : Int) ≤ l.length := by omega
  (first | (simp (maxSteps := 1000000) (disch := first | omega | (simp only [AM.DB, List.length_set, List.length_map]; first | done | omega)) only [AM.RB, Nat.reduceAdd, Nat.reduceMul, Nat.reduceEqDiff, reduceCtorEq, b55_FW3, AM.slc el_22 hg, AM.slbs_lo_i, AM.slbs_hi_i, Int.toNat_natCast, Nat.mul_one]) | skip)
  refine AM.clear_in ap_22 hg hlo (by omega) fun h3 c3 hg3 hcl3 hk3 fr3 nx3 => ?_
  have lw3 := fr3.low
  (first | (simp (maxSteps := 1000000) (disch := first | omega | (simp only [AM.DB, List.length_set, List.length_map]; first | done | omega)) only [AM.RB, Nat.reduceAdd, Nat.reduceMul, Nat.reduceEqDiff, reduceCtorEq, b55_FW3, AM.slc el_22 hg3, AM.slbs_lo_i, AM.slbs_hi_i, Int.toNat_natCast, Nat.mul_one, Nat.sub_zero, Nat.zero_mul, Nat.add_zero]) | skip)
  refine hq _ _ ?_ (fr2.trans (fr3.mono fun k _ e => e)) (fun id q => q)
  rw [hil, ← htk]
  refine .inr ⟨id, off, sc, c3, o, rfl, by omega, hg3, by omega, ?_, by omega⟩
  have e3 : (c3.drop off).take (i * 1) = (c.drop off).take (i * 1) := by
    apply List.ext_getElem?
    intro m
    rw [List.getElem?_take, List.getElem?_take]
    by_cases hm : m < i * 1
    · rw [if_pos hm, if_pos hm, List.getElem?_drop, List.getElem?_drop]
      exact hk3 _ (by omega)
    · rw [if_neg hm, if_neg hm]
  rw [e3, List.map_take, ← hd2, List.take_take, Nat.mul_one, Nat.mul_one, Nat.min_eq_left (by omega)]

end Go.Proofs.YtbaohngkapmhlaaDoor

namespace Go.Proofs.YtbaohngkapmhlaaDoor
open Go.AM
set_option maxRecDepth 8000
theorem b14_FW4 : type_of% (And.intro (@List.map_toArray.{0,0}) (And.intro (@AM.bin_lss) (And.intro (@AM.boxK_agg) (And.intro (@AM.boxK_bool) (And.intro (@AM.boxK_func) (And.intro (@AM.boxK_int) (And.intro (@AM.boxK_map) (And.intro (@AM.boxK_pointer) (And.intro (@AM.boxK_slice) (And.intro (@AM.boxK_string) (And.intro (@AM.fa_ptr) (And.intro (@fd_91_0) (And.intro (@AM.ldO_agg) (And.intro (@AM.ldO_one) (And.intro (@AM.ld_ptr) (And.intro (@lk_25) (And.intro (@lk_26) (And.intro (@AM.op_binOp) (And.intro (@AM.op_box) (And.intro (@AM.op_call) (And.intro (@AM.op_fieldAddr) (And.intro (@AM.op_load) (And.intro (@AM.op_makeFunc) (@AM.op_nilCheck)))))))))))))))))))))))) := And.intro (@List.map_toArray.{0,0}) (And.intro (@AM.bin_lss) (And.intro (@AM.boxK_agg) (And.intro (@AM.boxK_bool) (And.intro (@AM.boxK_func) (And.intro (@AM.boxK_int) (And.intro (@AM.boxK_map) (And.intro (@AM.boxK_pointer) (And.intro (@AM.boxK_slice) (And.intro (@AM.boxK_string) (And.intro (@AM.fa_ptr) (And.intro (@fd_91_0) (And.intro (@AM.ldO_agg) (And.intro (@AM.ldO_one) (And.intro (@AM.ld_ptr) (And.intro (@lk_25) (And.intro (@lk_26) (And.intro (@AM.op_binOp) (And.intro (@AM.op_box) (And.intro (@AM.op_call) (And.intro (@AM.op_fieldAddr) (And.intro (@AM.op_load) (And.intro (@AM.op_makeFunc) (@AM.op_nilCheck)))))))))))))))))))))))
theorem b27_FW4 : type_of% (And.intro (@Option.isNone_none.{0}) (And.intro (@Option.isNone_some.{0}) (And.intro (@AM.bdV_some) (And.intro (@bd_91) (And.intro (@AM.bin_add) (And.intro (@AM.bin_eql) (And.intro (@AM.bin_geq) (And.intro (@AM.bin_gtr) (And.intro (@AM.bin_lss) (And.intro (AM.bin_pnil ul_26) (And.intro (@AM.boxK_agg) (And.intro (@AM.boxK_bool) (And.intro (@AM.boxK_func) (And.intro (@AM.boxK_int) (And.intro (@AM.boxK_map) (And.intro (@AM.boxK_pointer) (And.intro (@AM.boxK_slice) (And.intro (@AM.boxK_string) (And.intro (AM.bsW_int bs_22) (And.intro (AM.bsW_nil bs_22) (And.intro (AM.bsW_slice bs_22) (And.intro (AM.bsW_string bs_22) (And.intro (@AM.fa_ptr) (And.intro (@fd_91_1) (And.intro (@AM.fillL_cons) (And.intro (@AM.fillL_nil) (And.intro (@AM.fillS_agg) (And.intro (@AM.fillS_bool) (And.intro (@AM.fillS_func) (And.intro (@AM.fillS_int) (And.intro (@AM.fillS_map) (And.intro (@AM.fillS_pointer) (And.intro (@AM.fillS_slice) (And.intro (@AM.fillS_string) (And.intro (@AM.iaO_ok) (And.intro (AM.ia_slice el_22) (And.intro (@AM.ldO_agg) (And.intro (@AM.ldO_one) (And.intro (@AM.ld_ptr) (And.intro (AM.len_slice ul_22) (And.intro (@lk_22) (And.intro (@lk_3) (And.intro (@AM.op_append) (And.intro (@AM.op_binOp) (And.intro (@AM.op_box) (And.intro (@AM.op_build) (And.intro (@AM.op_buildSlice) (And.intro (@AM.op_call) (And.intro (@AM.op_fieldAddr) (And.intro (@AM.op_indexAddr) (And.intro (@AM.op_len) (And.intro (@AM.op_load) (And.intro (@AM.op_nilCheck) (And.intro (@AM.op_store) (And.intro (@AM.op_unOp) (And.intro (@AM.resL_two) (And.intro (@AM.stO_agg) (And.intro (@AM.stO_bool) (And.intro (@AM.stO_int) (And.intro (@AM.stO_map) (And.intro (@AM.stO_pointer) (And.intro (@AM.stO_slice) (And.intro (@AM.stO_string) (And.intro (@AM.st_ptr) (And.intro (@sz_22) (And.intro (@AM.un_neg) (@AM.un_not))))))))))))))))))))))))))))))))))))))))))))))))))))))))))))))))))) := And.intro (@Option.isNone_none.{0}) (And.intro (@Option.isNone_some.{0}) (And.intro (@AM.bdV_some) (And.intro (@bd_91) (And.intro (@AM.bin_add) (And.intro (@AM.bin_eql) (And.intro (@AM.bin_geq) (And.intro (@AM.bin_gtr) (And.intro (@AM.bin_lss) (And.intro (AM.bin_pnil ul_26) (And.intro (@AM.boxK_agg) (And.intro (@AM.boxK_bool) (And.intro (@AM.boxK_func) (And.intro (@AM.boxK_int) (And.intro (@AM.boxK_map) (And.intro (@AM.boxK_pointer) (And.intro (@AM.boxK_slice) (And.intro (@AM.boxK_string) (And.intro (AM.bsW_int bs_22) (And.intro (AM.bsW_nil bs_22) (And.intro (AM.bsW_slice bs_22) (And.intro (AM.bsW_string bs_22) (And.intro (@AM.fa_ptr) (And.intro (@fd_91_1) (And.intro (@AM.fillL_cons) (And.intro (@AM.fillL_nil) (And.intro (@AM.fillS_agg) (And.intro (@AM.fillS_bool) (And.intro (@AM.fillS_func) (And.intro (@AM.fillS_int) (And.intro (@AM.fillS_map) (And.intro (@AM.fillS_pointer) (And.intro (@AM.fillS_slice) (And.intro (@AM.fillS_string) (And.intro (@AM.iaO_ok) (And.intro (AM.ia_slice el_22) (And.intro (@AM.ldO_agg) (And.intro (@AM.ldO_one) (And.intro (@AM.ld_ptr) (And.intro (AM.len_slice ul_22) (And.intro (@lk_22) (And.intro (@lk_3) (And.intro (@AM.op_append) (And.intro (@AM.op_binOp) (And.intro (@AM.op_box) (And.intro (@AM.op_build) (And.intro (@AM.op_buildSlice) (And.intro (@AM.op_call) (And.intro (@AM.op_fieldAddr) (And.intro (@AM.op_indexAddr) (And.intro (@AM.op_len) (And.intro (@AM.op_load) (And.intro (@AM.op_nilCheck) (And.intro (@AM.op_store) (And.intro (@AM.op_unOp) (And.intro (@AM.resL_two) (And.intro (@AM.stO_agg) (And.intro (@AM.stO_bool) (And.intro (@AM.stO_int) (And.intro (@AM.stO_map) (And.intro (@AM.stO_pointer) (And.intro (@AM.stO_slice) (And.intro (@AM.stO_string) (And.intro (@AM.st_ptr) (And.intro (@sz_22) (And.intro (@AM.un_neg) (@AM.un_not))))))))))))))))))))))))))))))))))))))))))))))))))))))))))))))))))


theorem nextD_w {h : AHeap} {p : Nat} {L : List (List UInt8)} {B : Nat → Prop} (m : Mk h p L B) (f : Fit L) (hw : h.get GW = some (.cells waysC 166 false)) (hgl : GW < h.low) (hl : h.low ≤ h.next) (i : Int) {Q : VQ}
    (hq : ∀ v h', Mk h' p L (fun id => B id ∨ idOf v id) → Ow h' 3 1 v (nextL L i).length ((nextL L i).map (.int .i64)) → Fr (fun id => id = p) h h' → (∀ id, idOf v id → h.next ≤ id) → Q v h') : W 56 [pv p, .int .i64 i] h Q := by
  obtain ⟨⟨S, m, hB⟩, hb⟩ := m
  refine next_w m f hw hgl hl i fun v h' S' m' hS' o fr hid => hq v h' ⟨⟨S', m', fun id q1 q2 => ?_⟩, fun id q => ?_⟩ o fr fun id q => (hid id q).1
  · rcases q1 with q1 | q1
    · have := hb id q1
      rcases hS' id q2 with q | q
      · exact hB id q1 q
      · omega
    · exact (hid id q1).2 q2
  · have := fr.next
    rcases q with q | q
    · have := hb id q; omega
    · exact o.lt q
set_option maxHeartbeats 2000000 in
theorem open_w {h : AHeap} {q p : Nat} {L : List (List UInt8)} {P : List Int} {mv : Nat} {B : Nat → Prop} (x : Fl h q p L P mv B) (f : Fit L) (hw : h.get GW = some (.cells waysC 166 false)) (hgl : GW < h.low) (hl : h.low ≤ h.next) (ok : Fok L.flatten P) (hn : P.length ≤ 4000000) (r : Int) {Q : VQ}
    (hq : ∀ v h', Ow h' 3 1 v (openF L P r).length ((openF L P r).map (.int .i64)) → Fl h' q p L P mv B → Fr (fun id => ¬ B id) h h' → (∀ id, idOf v id → h.next ≤ id) → Q v h') : W 14 [pv q, .int .i64 r] h Q := by
  refine AM.enter hp (fn := Tryd.f14) (rs := [.tmp 4]) (nt := 19) (by kernel_rfl) Tryd.func14 rfl rfl rfl (by kernel_rfl) ?_
  simp (maxSteps := 1000000) (disch := first | omega | (simp only [AM.DB, List.length_set, List.length_map]; first | done | omega)) only [AM.RB, Nat.reduceAdd, Nat.reduceMul, Nat.reduceEqDiff, reduceCtorEq, b14_FW4]
  generalize hE_ : AHeap.alloc h _ = h1; obtain ⟨g1, fr1, n1, l1⟩ := AM.new_get hE_; clear hE_
  have nx1 := fr1.next
  have lw1 := fr1.low
  have x1 := x.fresh fr1
  (first | (simp (maxSteps := 1000000) (disch := first | omega | (simp only [AM.DB, List.length_set, List.length_map]; first | done | omega)) only [AM.RB, Nat.reduceAdd, Nat.reduceMul, Nat.reduceEqDiff, reduceCtorEq, b14_FW4, g1]) | skip)
  refine at_w x1 hn r ?_
  unfold atF
  unfold openF at hq
  by_cases hr : 0 ≤ r ∧ r < P.length
  case neg =>
    have d1 : decide ((-1 : Int) < 0) = true := rfl
    rw [if_neg hr] at hq
    rw [if_neg hr]
    (first | (simp (maxSteps := 1000000) (disch := first | omega | (simp only [AM.DB, List.length_set, List.length_map]; first | done | omega)) only [AM.RB, Nat.reduceAdd, Nat.reduceMul, Nat.reduceEqDiff, reduceCtorEq, b14_FW4, d1]) | skip)
    exact hq _ _ (AM.Ow.nil _ _ _) (x.fr0 fr1) (fr1.mono fun _ _ q => q.elim) (fun id q => q.elim)
  rw [if_pos hr] at hq
  rw [if_pos hr]
  obtain ⟨r0, r1⟩ := hr
  obtain ⟨r, rfl⟩ := Int.eq_ofNat_of_zero_le r0
  rw [Int.toNat_natCast] at hq ⊢
  have hrl : r < P.length := by omega
  obtain ⟨a, ea, hal⟩ := ok.cell hrl
  rw [ea] at hq ⊢
  have da : decide ((a : Int) < 0) = false := decide_eq_false (by omega)
  obtain ⟨aa, ac, g, o, hne, hlo, hB, m⟩ := x1
  have ltq := AM.get_some_lt g
  (first | (simp (maxSteps := 1000000) (disch := first | omega | (simp only [AM.DB, List.length_set, List.length_map]; first | done | omega)) only [AM.RB, Nat.reduceAdd, Nat.reduceMul, Nat.reduceEqDiff, reduceCtorEq, b14_FW4, da, g1, g]) | skip)
  refine nextD_w m f (hw.fr0 fr1) (by omega) (by omega) a fun v h2 m2 o2 fr2 hid2 => ?_
  have nx2 := fr2.next
  have lw2 := fr2.low
  have nl := nextL_len f a
  have hK := f.k1024
  obtain ⟨va, vc, rfl⟩ := o2.form
  have pno := m.no
  have g12 := fr2.get g1 (fun e => pno (.inl (.inr (by omega))))
  have qp : q ≠ p := fun e => pno (.inr (.inl e.symm))
  have g2 := fr2.get g qp
  have of2 := o.fr fr2 (fun id t e => by have e : id = p := e; subst e; exact pno (.inr (.inr t)))
  have ofl : ∀ id, idOf (.slice aa P.length ac) id → id < h1.next := fun id t => o.lt t
  (first | (simp (maxSteps := 1000000) (disch := first | omega | (simp only [AM.DB, List.length_set, List.length_map]; first | done | omega)) only [AM.RB, Nat.reduceAdd, Nat.reduceMul, Nat.reduceEqDiff, reduceCtorEq, b14_FW4]) | skip)
  refine deleteF_w (x := ⟨g12, g2, of2.rd⟩) hn (by omega) o2 (by omega) (fun id t => ?_) fun w h3 o3 fr3 hid3 => ?_
  · have := hid2 id t
    exact ⟨by omega, by omega, fun u => by have := ofl _ u; omega⟩
  (first | (simp (maxSteps := 1000000) (disch := first | omega | (simp only [AM.DB, List.length_set, List.length_map]; first | done | omega)) only [AM.RB, Nat.reduceAdd, Nat.reduceMul, Nat.reduceEqDiff, reduceCtorEq, b14_FW4]) | skip)
  have e : (nextL L (a : Int)).filter (kWho P) = (nextL L (a : Int)).filter fun c => decide (whoL P c < 0) := rfl
  rw [e] at o3
  have hlt1 : ∀ id, idOf (.slice va (nextL L (a : Int)).length vc) id → h1.next ≤ id := hid2
  refine hq _ _ o3 ⟨aa, ac, fr3.get g2 (fun t => by have := hlt1 _ t; omega), of2.fr fr3 (fun id u t => by have := hlt1 _ t; have := ofl _ u; omega), hne, ?_, fun id t => hB id (.inl t), ?_⟩ ?_ (fun id t => by have := hlt1 id (hid3 id t); omega)
  · have := fr3.low; omega
  · refine (m2.frB fr3 (fun id t => .inr t)).subF fun id t => ?_
    rcases t with t | t
    · exact .inl (.inl (.inl t))
    · exact .inl (.inr t)
  · refine (((fr1.mono fun _ _ q => q.elim).trans (fr2.mono fun id _ e b => ?_)).then fr3 (fun id t u => by have := hlt1 id u; omega))
    have e : id = p := e
    subst e
    exact pno (.inl (.inl b))
theorem take_getD {P : List Int} {i j : Nat} (h : j < i) : (P.take i).getD j 0 = P.getD j 0 := by
  rw [List.getD, List.getD, List.getElem?_take, if_pos h]
set_option maxHeartbeats 4000000 in
theorem new_w {h : AHeap} {p : Nat} {L : List (List UInt8)} {B : Nat → Prop} {v : Value} {P : List Int} (m : Mk h p L B) (f : Fit L) (hP : Rd h 3 1 v P.length (P.map (.int .i64))) (hn : P.length ≤ 4000000) (hl : h.low ≤ h.next) {Q : VQ}
    (hno : ∀ h', Fr none' h h' → ¬ (1 ≤ P.length ∧ P.length ≤ 64 ∧ Fok L.flatten P) → Q (.tuple #[.pointer none, .int .i64 220]) h')
    (hok : ∀ q h', 1 ≤ P.length → P.length ≤ 64 → Fok L.flatten P → Fl h' q p L P 0 B → Fr none' h h' → h.next ≤ q → Q (.tuple #[pv q, .int .i64 0]) h') : W 27 [pv p, v] h Q := by
  obtain ⟨pa, pc, rfl⟩ := hP.form
  have hK := f.k1024
  have flen := f.len
  have hbd : L.length ≤ 4000000 ∧ (L.getD 0 []).length ≤ 4000000 := by have := f.r32; have := f.c32; omega
  have hpos : 0 < L.length * (L.getD 0 []).length := Nat.mul_pos f.rows f.cols
  have dc0 : decide (((L.length * (L.getD 0 []).length : Nat) : Int) = 0) = false := decide_eq_false (by omega)
  obtain ⟨kv, tl, mm⟩ := m.mp
  refine AM.enter hp (fn := Tryd.f27) (rs := [.tmp 4, .tmp 5]) (nt := 55) (by kernel_rfl) Tryd.func27 rfl rfl rfl (by kernel_rfl) ?_
  (repeat' (first | (simp (maxSteps := 1000000) (disch := first | omega | (simp only [AM.DB, List.length_set, List.length_map]; first | done | omega)) only [AM.RB, Nat.reduceAdd, Nat.reduceMul, Nat.reduceEqDiff, reduceCtorEq, b27_FW4]) | refine AM.build_w ?_))
  refine cells_w mm f.rows hbd _ ?_
  by_cases c1 : (P.length : Int) < 1
  · (repeat' (first | (simp (maxSteps := 1000000) (disch := first | omega | (simp only [AM.DB, List.length_set, List.length_map]; first | done | omega)) only [AM.RB, Nat.reduceAdd, Nat.reduceMul, Nat.reduceEqDiff, reduceCtorEq, b27_FW4, dc0, decide_eq_true c1]) | refine AM.build_w ?_))
    exact hno _ (Fr.refl _ _) (fun q => by omega)
  by_cases c2 : (64 : Int) < P.length
  · (repeat' (first | (simp (maxSteps := 1000000) (disch := first | omega | (simp only [AM.DB, List.length_set, List.length_map]; first | done | omega)) only [AM.RB, Nat.reduceAdd, Nat.reduceMul, Nat.reduceEqDiff, reduceCtorEq, b27_FW4, dc0, decide_eq_false c1, decide_eq_true c2]) | refine AM.build_w ?_))
    exact hno _ (Fr.refl _ _) (fun q => by omega)
  (repeat' (first | (simp (maxSteps := 1000000) (disch := first | omega | (simp only [AM.DB, List.length_set, List.length_map]; first | done | omega)) only [AM.RB, Nat.reduceAdd, Nat.reduceMul, Nat.reduceEqDiff, reduceCtorEq, b27_FW4, dc0, decide_eq_false c1, decide_eq_false c2]) | refine AM.build_w ?_))
  generalize hE_ : AHeap.alloc h _ = h1; obtain ⟨g1, fr1, n1, l1⟩ := AM.new_get hE_; clear hE_
  have nx1 := fr1.next
  have lw1 := fr1.low
  have plt := m.lt
  (repeat' (first | (simp (maxSteps := 1000000) (disch := first | omega | (simp only [AM.DB, List.length_set, List.length_map]; first | done | omega)) only [AM.RB, Nat.reduceAdd, Nat.reduceMul, Nat.reduceEqDiff, reduceCtorEq, b27_FW4]) | refine AM.build_w ?_))
  refine AM.loop_w hp 55 (fun i : Nat => [(0, pv p), (6, pv h.next), (27, .slice pa P.length pc), (28, .int .i64 P.length), (29, .int .i64 i)])
    (fun i h' => i ≤ P.length ∧ Fr (fun id => id = h.next) h1 h' ∧ (∃ aa ac, h'.get h.next = some (.cells [pv p, .slice aa (P.take i).length ac, .int .i64 0] 91 false) ∧ Ow h' 3 1 (.slice aa (P.take i).length ac) (P.take i).length ((P.take i).map (.int .i64)) ∧ ∀ id, idOf (.slice aa (P.take i).length ac) id → h1.next ≤ id) ∧ (∀ j, j < i → freeP L.flatten (P.getD j 0) = true) ∧ ∀ j k, j < i → k < i → P.getD j 0 = P.getD k 0 → j = k) (fun i => P.length - i) (by kernel_rfl) 0 ?_ ?_ ?_
  · simp (maxSteps := 1000000) (disch := first | omega | (simp only [AM.DB, List.length_set, List.length_map]; first | done | omega)) only [AM.RB, Nat.reduceAdd, Nat.reduceMul, Nat.reduceEqDiff, reduceCtorEq, b27_FW4]
    first | rfl | skip
  · exact ⟨Nat.zero_le _, Fr.refl _ _, ⟨none, 0, g1, AM.Ow.nil _ _ _, fun id q => q.elim⟩, fun j hj => by omega, fun j k hj => by omega⟩
  rintro i h2 ρ ⟨hi, fr2, ⟨aa, ac, g2, o2, hid2⟩, hfree, happ⟩
  have nx2 := fr2.next
  have lw2 := fr2.low
  have fr02 : Fr none' h h2 := Fr.fresh fr1 fr2 (fun id e => by have e : id = h.next := e; omega)
  have hP2 := hP.fr0 fr02
  have mm2 := mm.fr0 fr02
  have hti : (P.take i).length = i := by rw [List.length_take]; omega
  simp (maxSteps := 1000000) (disch := first | omega | (simp only [AM.DB, List.length_set, List.length_map]; first | done | omega)) only [AM.RB, Nat.reduceAdd, Nat.reduceMul, Nat.reduceEqDiff, reduceCtorEq, b27_FW4]
  refine AM.condV_split (fun hlt => ?_) (fun hlt => ?_)
  · have hil : i < P.length := by omega
    obtain ⟨c, hc⟩ : ∃ c, P.getD i 0 = c := ⟨_, rfl⟩
    (repeat' (first | (simp (maxSteps := 1000000) (disch := first | omega | (simp only [AM.DB, List.length_set, List.length_map]; first | done | omega)) only [AM.RB, Nat.reduceAdd, Nat.reduceMul, Nat.reduceEqDiff, reduceCtorEq, b27_FW4, hP2.ia el_22, Rd.ldi hP2 lk_3, Int.toNat_natCast, hc]) | refine AM.build_w ?_))
    refine free_w mm2 f.rows c _ ?_
    cases hf : freeP L.flatten c
    · (repeat' (first | (simp (maxSteps := 1000000) (disch := first | omega | (simp only [AM.DB, List.length_set, List.length_map]; first | done | omega)) only [AM.RB, Nat.reduceAdd, Nat.reduceMul, Nat.reduceEqDiff, reduceCtorEq, b27_FW4]) | refine AM.build_w ?_))
      exact hno _ fr02 (fun q => by have := q.2.2.free i hil; rw [hc, hf] at this; cases this)
    (repeat' (first | (simp (maxSteps := 1000000) (disch := first | omega | (simp only [AM.DB, List.length_set, List.length_map]; first | done | omega)) only [AM.RB, Nat.reduceAdd, Nat.reduceMul, Nat.reduceEqDiff, reduceCtorEq, b27_FW4]) | refine AM.build_w ?_))
    refine who_w g2 o2.rd (by omega) (by omega) c fun h3 fr3 => ?_
    have nx3 := fr3.next
    have lw3 := fr3.low
    have g3 := g2.fr0 fr3
    have o3 := o2.fr0 fr3
    by_cases hw : 0 ≤ whoL (P.take i) c
    · have hex : ∃ j, j < i ∧ P.getD j 0 = c := by
        by_cases q : ∃ j, j < i ∧ P.getD j 0 = c
        · exact q
        · exfalso
          have : whoL (P.take i) c < 0 := whoL_no.2 fun j hj e => q ⟨j, by omega, by rwa [take_getD (by omega)] at e⟩
          omega
      (repeat' (first | (simp (maxSteps := 1000000) (disch := first | omega | (simp only [AM.DB, List.length_set, List.length_map]; first | done | omega)) only [AM.RB, Nat.reduceAdd, Nat.reduceMul, Nat.reduceEqDiff, reduceCtorEq, b27_FW4, decide_eq_true hw]) | refine AM.build_w ?_))
      obtain ⟨j, hj, e⟩ := hex
      exact hno _ (fr02.trans fr3) (fun q => by have := q.2.2.apart j i (by omega) hil (by rw [e, hc]); omega)
    have hne : ∀ j, j < i → P.getD j 0 ≠ c := fun j hj e => by
      have := whoL_no.1 (show whoL (P.take i) c < 0 by omega) j (by omega)
      rw [take_getD hj] at this
      exact this e
    (repeat' (first | (simp (maxSteps := 1000000) (disch := first | omega | (simp only [AM.DB, List.length_set, List.length_map]; first | done | omega)) only [AM.RB, Nat.reduceAdd, Nat.reduceMul, Nat.reduceEqDiff, reduceCtorEq, b27_FW4, decide_eq_false hw, g3]) | refine AM.build_w ?_))
    generalize hE_ : AHeap.alloc h3 _ = h4; obtain ⟨g4, fr4, n4, l4⟩ := AM.new_get hE_; clear hE_
    have nx4 := fr4.next
    have lw4 := fr4.low
    refine AM.appends_w ap_22 ap_22 (o3.fr0 fr4) (AM.Rd.whole (n := 1) (c := [.int .i64 c]) g4 rfl) rfl (by omega) (AM.fits (by omega) (by omega)) (AM.fits' (by omega)) fun w h5 o5 fr5 hid5 => ?_
    obtain ⟨wa, wc, rfl⟩ := o5.form
    have nx5 := fr5.next
    have lw5 := fr5.low
    have g5 := fr5.get (g3.fr0 fr4) (fun t => by have := hid2 _ t; omega)
    (repeat' (first | (simp (maxSteps := 1000000) (disch := first | omega | (simp only [AM.DB, List.length_set, List.length_map]; first | done | omega)) only [AM.RB, Nat.reduceAdd, Nat.reduceMul, Nat.reduceEqDiff, reduceCtorEq, b27_FW4, g5]) | refine AM.build_w ?_))
    generalize hE_ : AHeap.put h5 _ _ = h6; obtain ⟨g6, fr6, n6, l6⟩ := AM.put_get hE_ (by omega); clear hE_
    have hid5' : ∀ id, idOf (.slice wa ((P.take i).length + 1) wc) id → h1.next ≤ id := fun id t => by
      rcases hid5 id t with t' | t'
      · exact hid2 id t'
      · omega
    have et : P.take (i + 1) = P.take i ++ [c] := by
      rw [List.take_add_one, List.getElem?_eq_getElem hil]
      congr 1
      have : P.getD i 0 = P[i] := by simp [List.getD, hil]
      rw [← hc, this]; rfl
    have etl : (P.take (i + 1)).length = (P.take i).length + 1 := by rw [et, List.length_append]; rfl
    (repeat' (first | (simp (maxSteps := 1000000) (disch := first | omega | (simp only [AM.DB, List.length_set, List.length_map]; first | done | omega)) only [AM.RB, Nat.reduceAdd, Nat.reduceMul, Nat.reduceEqDiff, reduceCtorEq, b27_FW4, AM.wrap_i64]) | refine AM.build_w ?_))
    refine ⟨i + 1, by omega, congrArg _ (by omega), by omega, ?_, ⟨wa, wc, ?_, ?_, ?_⟩, fun j hj => ?_, fun j k hj hk e => ?_⟩
    · exact ((fr2.trans ((fr3.trans fr4).mono fun _ _ q => q.elim)).then fr5 (fun id t u => by have := hid2 id u; omega)).trans fr6
    · rw [etl] <;> first | exact g6 | rfl
    · rw [etl, et, List.map_append]
      exact o5.fr fr6 (fun id t e => by have e : id = h.next := e; have := hid5' id t; omega)
    · rw [etl]; exact hid5'
    · by_cases ej : j = i
      · subst ej; rw [hc]; exact hf
      · exact hfree j (by omega)
    · by_cases ej : j = i
      · by_cases ek : k = i
        · first | omega | exact ej.trans ek.symm
        · subst ej; exact absurd (e.symm.trans hc) (hne k (by omega))
      · by_cases ek : k = i
        · subst ek; exact absurd (e.trans hc) (hne j (by omega))
        · exact happ j k (by omega) (by omega) e
  have ei : i = P.length := by omega
  subst ei
  rw [List.take_length] at g2 o2 hid2
  (repeat' (first | (simp (maxSteps := 1000000) (disch := first | omega | (simp only [AM.DB, List.length_set, List.length_map]; first | done | omega)) only [AM.RB, Nat.reduceAdd, Nat.reduceMul, Nat.reduceEqDiff, reduceCtorEq, b27_FW4]) | refine AM.build_w ?_))
  refine hok _ _ (by omega) (by omega) ⟨hfree, happ⟩ ⟨aa, ac, g2, o2, fun t => by have := hid2 _ t; omega, by omega, fun id b => ?_, ?_⟩ fr02 (Nat.le_refl _)
  · have := m.2 id b
    exact ⟨by omega, fun t => by have := hid2 _ t; omega⟩
  · refine (m.freshF fr02).subF fun id t => ?_
    rcases t with t | t | t
    · exact .inl t
    · exact .inr (by have := AM.get_some_lt g2; omega)
    · exact .inr ⟨by have := hid2 id t; omega, o2.lt t⟩

end Go.Proofs.YtbaohngkapmhlaaDoor

namespace Go.Proofs.YtbaohngkapmhlaaDoor
open Go.AM

/-! ### A text out of cells, and where a cell stands in it -/
def genT (g : Nat → UInt8) (C : Nat) : Nat → List UInt8
  | 0 => []
  | n + 1 => genT g C n ++ [g n] ++ if (n + 1) % C = 0 then [10] else []
abbrev posT (C a : Nat) : Nat := a + a / C
theorem div_succ' {C n : Nat} (hC : 0 < C) : (n + 1) / C = n / C + if (n + 1) % C = 0 then 1 else 0 := by
  have h1 := Nat.div_add_mod n C
  have h2 := Nat.mod_lt n hC
  by_cases h : n % C + 1 = C
  · have e : n + 1 = C * (n / C + 1) := by rw [Nat.mul_add, Nat.mul_one]; omega
    rw [e, Nat.mul_div_cancel_left _ hC, Nat.mul_mod_right, if_pos rfl]
  · have e : n + 1 = C * (n / C) + (n % C + 1) := by omega
    have hlt : n % C + 1 < C := by
      clear e h1
      generalize n % C = x at *
      omega
    have e1 : (n + 1) / C = n / C := by
      conv => lhs; rw [e]
      rw [Nat.mul_add_div hC, Nat.div_eq_of_lt hlt, Nat.add_zero]
    have e2 : (n + 1) % C = n % C + 1 := by
      conv => lhs; rw [e]
      rw [Nat.mul_add_mod, Nat.mod_eq_of_lt hlt]
    rw [e1, e2, if_neg (by omega)]; rfl
theorem genT_len (g : Nat → UInt8) {C : Nat} (hC : 0 < C) : ∀ n, (genT g C n).length = n + n / C
  | 0 => by simp [genT]
  | n + 1 => by
    have hd := div_succ' (n := n) hC
    rw [genT, List.length_append, List.length_append, genT_len g hC n, List.length_singleton, hd]
    split <;> simp <;> omega
theorem genT_congr {g g' : Nat → UInt8} (C : Nat) : ∀ n, (∀ a, a < n → g a = g' a) → genT g C n = genT g' C n
  | 0, _ => rfl
  | n + 1, h => by rw [genT, genT, genT_congr C n fun a ha => h a (by omega), h n (by omega)]
theorem genT_set (g : Nat → UInt8) {C : Nat} (hC : 0 < C) (a : Nat) (v : UInt8) : ∀ n, a < n → (genT g C n).set (posT C a) v = genT (fun b => if b = a then v else g b) C n
  | 0, h => by omega
  | n + 1, h => by
    have hl := genT_len g hC n
    rw [genT, genT]
    by_cases e : a = n
    · subst e
      rw [List.append_assoc, List.set_append_right _ _ (by rw [hl]; exact Nat.le_refl _), hl, show posT C a - (a + a / C) = 0 from Nat.sub_self _, if_pos rfl]
      rw [genT_congr (g := fun b => if b = a then v else g b) (g' := g) C a fun b hb => if_neg (by omega), List.append_assoc]
      rfl
    · have h2 : a / C ≤ n / C := Nat.div_le_div_right (by omega)
      have h3 : posT C a < n + n / C := by
        show a + a / C < n + n / C
        generalize a / C = x at *
        generalize n / C = y at *
        omega
      rw [List.append_assoc, List.set_append_left _ _ (by rw [hl]; exact h3), genT_set g hC a v n (by omega), if_neg (show ¬ n = a from fun q => e q.symm), List.append_assoc]
theorem getD_el {T : List UInt8} {c : Nat} (h : c < T.length) : T.getD c 0 = T[c] := by simp [List.getD, h]
/-- A map's text is its cells'. -/
theorem genT_rows {L : List (List UInt8)} {C : Nat} (hC : 0 < C) (h : ∀ T ∈ L, T.length = C) : ∀ k, k ≤ L.length → genT (fun a => L.flatten.getD a 0) C (k * C) = textL (L.take k)
  | 0, _ => by rw [Nat.zero_mul]; rfl
  | k + 1, hk => by
    have hkl : k < L.length := by omega
    have hg : L.getD k [] = L[k] := by simp [List.getD, hkl]
    have hTl : (L.getD k []).length = C := by rw [hg]; exact h _ (List.getElem_mem hkl)
    have row : ∀ c, c < C → genT (fun a => L.flatten.getD a 0) C (k * C + c) = textL (L.take k) ++ (L.getD k []).take c := by
      intro c
      induction c with
      | zero => intro _; rw [Nat.add_zero, genT_rows hC h k (by omega), List.take_zero, List.append_nil]
      | succ c ih =>
        intro hc
        rw [← Nat.add_assoc, genT, ih (by omega)]
        have hm : (k * C + c + 1) % C = c + 1 := by rw [Nat.add_assoc, Nat.mul_comm, Nat.mul_add_mod, Nat.mod_eq_of_lt hc]
        have hv : L.flatten.getD (k * C + c) 0 = (L.getD k []).getD c 0 := by
          have hlt : k * C + c < L.length * C := by
            have : (k + 1) * C ≤ L.length * C := Nat.mul_le_mul_right _ (by omega)
            rw [Nat.succ_mul] at this; omega
          rw [flat_get h hC hlt, Nat.mul_comm, Nat.mul_add_div hC, Nat.div_eq_of_lt (by omega), Nat.mul_add_mod, Nat.mod_eq_of_lt (by omega), Nat.add_zero]
        have hcg : (L.getD k []).getD c 0 = (L.getD k [])[c]'(by omega) := getD_el (by omega)
        rw [hm, if_neg (by omega), List.append_nil, hv, List.append_assoc, List.take_add_one, List.getElem?_eq_getElem (show c < (L.getD k []).length by omega), hcg]; rfl
    obtain ⟨C', rfl⟩ : ∃ C', C = C' + 1 := ⟨C - 1, by omega⟩
    have hlast := row C' (by omega)
    have hm : (k * (C' + 1) + C' + 1) % (C' + 1) = 0 := by rw [Nat.add_assoc, ← Nat.succ_mul]; exact Nat.mul_mod_left _ _
    have hv : L.flatten.getD (k * (C' + 1) + C') 0 = (L.getD k []).getD C' 0 := by
      have hlt : k * (C' + 1) + C' < L.length * (C' + 1) := by
        have : (k + 1) * (C' + 1) ≤ L.length * (C' + 1) := Nat.mul_le_mul_right _ (by omega)
        rw [Nat.succ_mul] at this; omega
      rw [flat_get h hC hlt, Nat.mul_comm, Nat.mul_add_div hC, Nat.div_eq_of_lt (by omega), Nat.mul_add_mod, Nat.mod_eq_of_lt (by omega), Nat.add_zero]
    have hcg : (L.getD k []).getD C' 0 = (L.getD k [])[C']'(by omega) := getD_el (by omega)
    have hw : (L.getD k []).take C' ++ [(L.getD k []).getD C' 0] = L.getD k [] := by
      rw [hcg]
      have := List.take_append_getElem (l := L.getD k []) (i := C') (by omega)
      rw [this]; exact List.take_of_length_le (by omega)
    rw [Nat.succ_mul, ← Nat.add_assoc, genT, hlast, hm, if_pos rfl, hv, List.append_assoc (textL _), hw]
    unfold textL
    rw [List.take_add_one, List.getElem?_eq_getElem hkl, List.map_append, List.flatten_append, ← hg]
    simp
theorem Good.genT {l : List UInt8} {L : List (List UInt8)} (g : Good l L) : l = genT (fun a => L.flatten.getD a 0) (colsL L) L.flatten.length := by
  have h := genT_rows (L := L) g.cols g.all L.length (Nat.le_refl _)
  rw [List.take_length] at h
  have e : L.flatten.length = L.length * colsL L := g.len
  rw [e, h]; exact g.text'

/-! ### Signs -/
def signs : List UInt8 := [48, 49, 50, 51, 52, 53, 54, 55, 56, 57, 97, 98, 99, 100, 101, 102, 103, 104, 105, 106, 107, 108, 109, 110, 111, 112, 113, 114, 115, 116, 117, 118, 119, 120, 121, 122, 65, 66, 67, 68, 69, 70, 71, 72, 73, 74, 75, 76, 77, 78, 79, 80, 81, 82, 83, 84, 85, 86, 87, 88, 89, 90, 64, 38]
/-- What is told of a cell, the first robots on it. -/
def overF (K : List UInt8) (P : List Int) : Nat → Nat → UInt8
  | 0, a => K.getD a 0
  | k + 1, a => if P.getD k 0 = (a : Int) then signs.getD k 0 else overF K P k a
def textF (L : List (List UInt8)) (P : List Int) (k : Nat) : List UInt8 := genT (overF L.flatten P k) (colsL L) L.flatten.length
theorem textF_succ {L : List (List UInt8)} (hC : 0 < colsL L) {P : List Int} {k c : Nat} (hc : P.getD k 0 = (c : Int)) (hl : c < L.flatten.length) : (textF L P k).set (posT (colsL L) c) (signs.getD k 0) = textF L P (k + 1) := by
  unfold textF
  rw [genT_set _ hC c _ _ hl]
  refine genT_congr _ _ fun a _ => ?_
  rw [overF, hc]
  by_cases e : a = c
  · rw [if_pos e, if_pos (by omega)]
  · rw [if_neg e, if_neg (by omega)]

end Go.Proofs.YtbaohngkapmhlaaDoor

namespace Go.Proofs.YtbaohngkapmhlaaDoor
open Go.AM
set_option maxRecDepth 8000
theorem b30_FW5 : type_of% (And.intro (@AM.alK_some) (And.intro (@al_3) (And.intro (@al_94) (And.intro (@AM.bin_add) (And.intro (@AM.bin_mul) (And.intro (@AM.bin_quo) (And.intro (@AM.bin_rem) (And.intro (@AM.cvW_slice) (And.intro (@AM.fa_ptr) (And.intro (@fd_91_0) (And.intro (@AM.iaO_ok) (And.intro (AM.ia_slice el_94) (And.intro (@AM.ldO_agg) (And.intro (@AM.ldO_one) (And.intro (@AM.ld_ptr) (And.intro (@lk_26) (And.intro (@lk_3) (And.intro (@lk_94) (And.intro (@AM.op_alloc) (And.intro (@AM.op_binOp) (And.intro (@AM.op_call) (And.intro (@AM.op_convert) (And.intro (@AM.op_fieldAddr) (And.intro (@AM.op_index) (And.intro (@AM.op_indexAddr) (And.intro (@AM.op_load) (And.intro (@AM.op_nilCheck) (And.intro (@AM.op_store) (And.intro (@AM.stO_agg) (And.intro (@AM.stO_bool) (And.intro (@AM.stO_int) (And.intro (@AM.stO_map) (And.intro (@AM.stO_pointer) (And.intro (@AM.stO_slice) (And.intro (@AM.stO_string) (And.intro (@AM.st_ptr) (And.intro (AM.str_idx ul_9) (And.intro (@sz_3) (And.intro (@sz_5) (@sz_94)))))))))))))))))))))))))))))))))))))))) := And.intro (@AM.alK_some) (And.intro (@al_3) (And.intro (@al_94) (And.intro (@AM.bin_add) (And.intro (@AM.bin_mul) (And.intro (@AM.bin_quo) (And.intro (@AM.bin_rem) (And.intro (@AM.cvW_slice) (And.intro (@AM.fa_ptr) (And.intro (@fd_91_0) (And.intro (@AM.iaO_ok) (And.intro (AM.ia_slice el_94) (And.intro (@AM.ldO_agg) (And.intro (@AM.ldO_one) (And.intro (@AM.ld_ptr) (And.intro (@lk_26) (And.intro (@lk_3) (And.intro (@lk_94) (And.intro (@AM.op_alloc) (And.intro (@AM.op_binOp) (And.intro (@AM.op_call) (And.intro (@AM.op_convert) (And.intro (@AM.op_fieldAddr) (And.intro (@AM.op_index) (And.intro (@AM.op_indexAddr) (And.intro (@AM.op_load) (And.intro (@AM.op_nilCheck) (And.intro (@AM.op_store) (And.intro (@AM.stO_agg) (And.intro (@AM.stO_bool) (And.intro (@AM.stO_int) (And.intro (@AM.stO_map) (And.intro (@AM.stO_pointer) (And.intro (@AM.stO_slice) (And.intro (@AM.stO_string) (And.intro (@AM.st_ptr) (And.intro (AM.str_idx ul_9) (And.intro (@sz_3) (And.intro (@sz_5) (@sz_94)))))))))))))))))))))))))))))))))))))))


/-! ### Text -/
theorem bsOf_bytes (l : List UInt8) : bsOf (l.map fun c => (c.toNat : Int)) = ⟨l.toArray⟩ := by
  have key : ∀ (l : List UInt8) (s : ByteArray), (l.map fun c => (c.toNat : Int)).foldl (fun s n => s.push (UInt8.ofNat n.toNat)) s = ⟨s.data ++ l.toArray⟩ := by
    intro l
    induction l with
    | nil => intro s; cases s; simp
    | cons c l ih =>
      intro s
      rw [List.map_cons, List.foldl_cons, ih, Int.toNat_natCast, UInt8.ofNat_toNat]
      cases s
      simp [ByteArray.push]
  unfold bsOf
  rw [key]
  simp
theorem bytes_ints (l : List UInt8) : l.map bV = (l.map fun c => (c.toNat : Int)).map (.int .u8) := by
  rw [List.map_map]; rfl
theorem bset (l : List UInt8) (i : Nat) (c : UInt8) : (l.map bV).set i (bV c) = (l.set i c).map bV := by rw [List.map_set]
theorem textF_len {l : List UInt8} {L : List (List UInt8)} (G : Good l L) (P : List Int) (k : Nat) : (textF L P k).length = L.flatten.length + L.flatten.length / colsL L := genT_len _ G.cols _
theorem textF_zero {l : List UInt8} {L : List (List UInt8)} (G : Good l L) (P : List Int) : textF L P 0 = l := G.genT.symm
theorem pos_lt {l : List UInt8} {L : List (List UInt8)} (G : Good l L) {c : Nat} (h : c < L.flatten.length) : posT (colsL L) c < L.flatten.length + L.flatten.length / colsL L := by
  have := Nat.div_le_div_right (c := colsL L) (Nat.le_of_lt h)
  unfold posT; omega
theorem sign_idx {i : Nat} (h : i < 64) : aIndex Tryd.prog 9 (.string ⟨#[48, 49, 50, 51, 52, 53, 54, 55, 56, 57, 97, 98, 99, 100, 101, 102, 103, 104, 105, 106, 107, 108, 109, 110, 111, 112, 113, 114, 115, 116, 117, 118, 119, 120, 121, 122, 65, 66, 67, 68, 69, 70, 71, 72, 73, 74, 75, 76, 77, 78, 79, 80, 81, 82, 83, 84, 85, 86, 87, 88, 89, 90, 64, 38]⟩) (.int .i64 i) = some (bV (signs.getD i 0)) := by
  have hl : signs.length = 64 := rfl
  have := AM.str_idx (P := Tryd.prog) ul_9 signs .i64 (i := (i : Int)) (by omega) (by rw [hl]; omega)
  rw [Int.toNat_natCast] at this
  exact this
theorem posT_eq {C c : Nat} (hC : 0 < C) : c / C * (C + 1) + c % C = posT C c := by
  have := Nat.div_add_mod c C
  rw [Nat.mul_add, Nat.mul_one, Nat.mul_comm]
  unfold posT; omega
/-- What a round of Text knows. -/
def txtK (h : AHeap) (b t3 t4 C : Nat) (s : List UInt8) (_ : Nat → Prop) (h' : AHeap) : Prop :=
  Ow h' 5 1 (.slice (some ⟨b, 0, none⟩) s.length s.length) s.length (s.map bV) ∧ h'.get t3 = some (.cells [.slice (some ⟨b, 0, none⟩) s.length s.length] 94 false) ∧ h'.get t4 = some (.cells [.int .i64 C] 3 false) ∧ Fr none' h h'
theorem txtK.keep {h : AHeap} {N b t3 t4 C : Nat} {s : List UInt8} {S : Nat → Prop} {h1 h2 : AHeap} (hN : h.next ≤ N) (hb : b < N ∧ t3 < N ∧ t4 < N) (k : txtK h b t3 t4 C s S h1) (hB : ∀ id, id < N → h2.get id = h1.get id) (hn : h1.next ≤ h2.next) (hl : h2.low = h1.low) : txtK h b t3 t4 C s S h2 := by
  obtain ⟨o, g3, g4, fr⟩ := k
  refine ⟨o.same (fun id q => hB id ?_) hl, by rw [hB _ hb.2.1]; exact g3, by rw [hB _ hb.2.2]; exact g4, fr.ext hB hN hn hl⟩
  have q : id = b := q
  omega
set_option maxHeartbeats 4000000 in
theorem ftext_w {h : AHeap} {q p : Nat} {L : List (List UInt8)} {l : List UInt8} {P : List Int} {mv : Nat} {B : Nat → Prop} (x : Fl h q p L P mv B) (G : Good l L) (ok : Fok L.flatten P) (hn : P.length ≤ 64) (hl : h.low ≤ h.next) {Q : VQ}
    (hq : ∀ h', Fr none' h h' → Q (strV (textF L P P.length)) h') : W 30 [pv q] h Q := by
  have f := G.fit
  have hC := f.cols
  have r32 := f.r32
  have c32 := f.c32
  have flen := f.len
  have hK := f.k1024
  obtain ⟨aa, ac, g, o, hne, hlo, hB, m⟩ := x
  obtain ⟨kv, tl, mm⟩ := m.mp
  have et : textP L.flatten (L.getD 0 []).length L.length = l := by
    have := textP_text G.all L.length (Nat.le_refl _)
    rw [List.take_length, ← G.text'] at this
    exact this
  have el0 := textF_zero G P
  have hll := textF_len G P 0
  rw [el0] at hll
  have eC : colsL L = (L.getD 0 []).length := rfl
  have hdiv : L.flatten.length / colsL L ≤ L.flatten.length := Nat.div_le_self _ _
  have hpos : 0 < L.flatten.length := by rw [flen]; exact Nat.mul_pos f.rows hC
  obtain ⟨i8, hi8, hs8⟩ : ∃ i, Tryd.prog.info? 5 = some i ∧ i.size = 1 := by
    have h0 : (Tryd.prog.info? 5).map (·.size) = some 1 := by kernel_rfl
    obtain ⟨i, e1, e2⟩ := Option.map_eq_some_iff.1 h0
    exact ⟨i, e1, e2⟩
  refine AM.enter hp (fn := Tryd.f30) (rs := [.tmp 2]) (nt := 40) (by kernel_rfl) Tryd.func30 rfl rfl rfl (by kernel_rfl) ?_
  (repeat' (first | (simp (maxSteps := 1000000) (disch := first | omega | (simp only [AM.DB, List.length_set, List.length_map]; first | done | omega)) only [AM.RB, Nat.reduceAdd, Nat.reduceMul, Nat.reduceEqDiff, reduceCtorEq, b30_FW5]) | refine AM.drawW_fine hp (by kernel_rfl) (by kernel_rfl) (by kernel_rfl) ?_ | refine AM.opW_tied (by kernel_rfl) ?_ | refine AM.opW_untied (by kernel_rfl) ?_))
  refine fnone_w g ?_
  (repeat' (first | (simp (maxSteps := 1000000) (disch := first | omega | (simp only [AM.DB, List.length_set, List.length_map]; first | done | omega)) only [AM.RB, Nat.reduceAdd, Nat.reduceMul, Nat.reduceEqDiff, reduceCtorEq, b30_FW5, g]) | refine AM.drawW_fine hp (by kernel_rfl) (by kernel_rfl) (by kernel_rfl) ?_ | refine AM.opW_tied (by kernel_rfl) ?_ | refine AM.opW_untied (by kernel_rfl) ?_))
  refine text_w mm f.rows hC flen ⟨r32, c32⟩ hl fun h1 fr1 => ?_
  rw [et]
  have nx1 := fr1.next
  have lw1 := fr1.low
  obtain ⟨D, hD⟩ : ∃ D, L.flatten.length / colsL L = D := ⟨_, rfl⟩
  rw [hD] at hll hdiv
  have hl0 : 0 < l.length := by omega
  have hl1 : l.length ≤ 2048 := by omega
  (repeat' (first | (simp (maxSteps := 1000000) (disch := first | omega | (simp only [AM.DB, List.length_set, List.length_map]; first | done | omega)) only [AM.RB, Nat.reduceAdd, Nat.reduceMul, Nat.reduceEqDiff, reduceCtorEq, b30_FW5]) | refine AM.drawW_fine hp (by kernel_rfl) (by kernel_rfl) (by kernel_rfl) ?_ | refine AM.opW_tied (by kernel_rfl) ?_ | refine AM.opW_untied (by kernel_rfl) ?_))
  rw [AM.cvW_new ul_9 ul_94 ul_5 hi8 hs8 hl0 (by omega)]
  have hx_1 := g.fr0 fr1
  (repeat' (first | (simp (maxSteps := 1000000) (disch := first | omega | (simp only [AM.DB, List.length_set, List.length_map]; first | done | omega)) only [AM.RB, Nat.reduceAdd, Nat.reduceMul, Nat.reduceEqDiff, reduceCtorEq, b30_FW5, hx_1]) | refine AM.drawW_fine hp (by kernel_rfl) (by kernel_rfl) (by kernel_rfl) ?_ | refine AM.opW_tied (by kernel_rfl) ?_ | refine AM.opW_untied (by kernel_rfl) ?_))
  generalize hE_ : AHeap.alloc h1 _ = h2; obtain ⟨g2, fr2, n2, l2⟩ := AM.new_get hE_; clear hE_
  have nx2 := fr2.next
  have lw2 := fr2.low
  rw [← n2]
  generalize hE_ : AHeap.put (AHeap.alloc h2 _) _ _ = h3; obtain ⟨g3, fr3, n3, l3⟩ := AM.box_get hE_ (by omega); clear hE_
  have nx3 := fr3.next
  have lw3 := fr3.low
  have fr13 := fr2.trans fr3
  have fr03 := fr1.trans fr13
  have ltg := AM.get_some_lt g
  have hx_2 := g.fr0 fr03
  (repeat' (first | (simp (maxSteps := 1000000) (disch := first | omega | (simp only [AM.DB, List.length_set, List.length_map]; first | done | omega)) only [AM.RB, Nat.reduceAdd, Nat.reduceMul, Nat.reduceEqDiff, reduceCtorEq, b30_FW5, hx_2]) | refine AM.drawW_fine hp (by kernel_rfl) (by kernel_rfl) (by kernel_rfl) ?_ | refine AM.opW_tied (by kernel_rfl) ?_ | refine AM.opW_untied (by kernel_rfl) ?_))
  refine cols_w (mm.fr0 fr03) f.rows _ ?_
  (repeat' (first | (simp (maxSteps := 1000000) (disch := first | omega | (simp only [AM.DB, List.length_set, List.length_map]; first | done | omega)) only [AM.RB, Nat.reduceAdd, Nat.reduceMul, Nat.reduceEqDiff, reduceCtorEq, b30_FW5]) | refine AM.drawW_fine hp (by kernel_rfl) (by kernel_rfl) (by kernel_rfl) ?_ | refine AM.opW_tied (by kernel_rfl) ?_ | refine AM.opW_untied (by kernel_rfl) ?_))
  generalize hE_ : AHeap.put (AHeap.alloc h3 _) _ _ = h4; obtain ⟨g4, fr4, n4, l4⟩ := AM.box_get hE_ (by omega); clear hE_
  have nx4 := fr4.next
  have lw4 := fr4.low
  have lt3 : h2.next < h3.next := AM.get_some_lt g3
  have lt4 : h3.next < h4.next := AM.get_some_lt g4
  refine frobots_w fun h5 g5 fr5 n5 l5 => ?_
  have fr05 := (fr03.trans fr4).trans fr5
  have fr25 := (fr3.trans fr4).trans fr5
  have nx5 := fr5.next
  have lw5 := fr5.low
  have hl5 : h5.low ≤ h5.next := by omega
  have o5 : Ow h5 5 1 (.slice (some ⟨h1.next, 0, none⟩) l.length l.length) l.length (l.map bV) := .inr ⟨_, _, _, _, _, rfl, Nat.le_refl _, g2.fr0 fr25, by simp, by rw [Nat.mul_one, List.drop_zero]; exact List.take_of_length_le (by rw [List.length_map]; exact Nat.le_refl _), by omega⟩
  have g35 := (g3.fr0 fr4).fr0 fr5
  have g45 := g4.fr0 fr5
  have olt : ∀ id, idOf (.slice aa P.length ac) id → id < h.next := fun id t => o.lt t
  have tlen : ∀ k, (textF L P k).length = l.length := fun k => by rw [textF_len G, hD]; omega
  simp (maxSteps := 1000000) (disch := first | omega | (simp only [AM.DB, List.length_set, List.length_map]; first | done | omega)) only [AM.RB, Nat.reduceAdd, Nat.reduceMul, Nat.reduceEqDiff, reduceCtorEq, b30_FW5]
  refine AM.range_iter2 hp (R := fun id => id = h4.next ∨ id = q ∨ idOf (.slice aa P.length ac) id) (xs := xsF P) (AM.entersV_of Tryd.func95 rfl) (by kernel_rfl) (by kernel_rfl) ?_ ?_ hl5 (robots1_w g5 (g.fr0 fr05) (o.rd.fr0 fr05) (by omega))
    (fun i A h' => AM.JK h5.next (txtK h h1.next h2.next h3.next (L.getD 0 []).length (textF L P i)) A h') (fun _ _ _ => False) ?_ (fun _ => AM.Stab.no)
    (fun i x e A h' => AM.Sh e 40 [(3, pv h2.next), (4, pv h3.next), (5, .int .i64 i), (6, .int .i64 (P.getD i 0))] ∧ AM.JK h5.next (txtK h h1.next h2.next h3.next (L.getD 0 []).length (textF L P i)) A h') ?_ ?_ ?_ ?_ ?_ ?_
  · intro x hx
    obtain ⟨i, _, rfl⟩ := List.mem_map.1 hx; rfl
  · rintro id (rfl | rfl | hi)
    · omega
    · omega
    · have := olt id hi; omega
  · exact fun i => AM.JK.stab fun S a b hB k hS hBl hn hl => k.keep (by omega) ⟨by omega, by omega, by omega⟩ hBl hn hl
  · exact fun i x e => AM.Stab.and (AM.JK.stab fun S a b hB k hS hBl hn hl => k.keep (by omega) ⟨by omega, by omega, by omega⟩ hBl hn hl)
  · rintro i x A h6 hx hjk hA1 hL3 hlow3 hR3
    obtain ⟨hi, rfl⟩ := xsF_get P hx
    (repeat' (first | (simp (maxSteps := 1000000) (disch := first | omega | (simp only [AM.DB, List.length_set, List.length_map]; first | done | omega)) only [AM.RB, Nat.reduceAdd, Nat.reduceMul, Nat.reduceEqDiff, reduceCtorEq, b30_FW5]) | refine AM.drawW_fine hp (by kernel_rfl) (by kernel_rfl) (by kernel_rfl) ?_ | refine AM.opW_tied (by kernel_rfl) ?_ | refine AM.opW_untied (by kernel_rfl) ?_))
    exact ⟨Nat.le_refl _, fun _ _ _ => trivial, hjk⟩
  · intro ob
    have fra : Fr none' h5 (h5.alloc ob) := (Fr.refl _ _).alloc _
    rw [el0]
    exact ⟨Nat.le_succ _, fun id e => by omega, fun _ => False, ⟨o5.fr0 fra, g35.fr0 fra, g45.fr0 fra, fr05.trans fra⟩, fun _ q => q.elim⟩
  · rintro i x e A h6 hx ⟨he, hB6, hA, S, ⟨o6, g36, g46, fr6⟩, hS⟩ hA1 hL3 hlow3 hR3
    obtain ⟨ρ, rfl⟩ := he.open'
    obtain ⟨hi, rfl⟩ := xsF_get P hx
    obtain ⟨c, hc, hcl⟩ := ok.cell hi
    rw [hc]
    rw [tlen] at o6 g36
    have nx6 := fr6.next
    have lw6 := fr6.low
    have hs := sign_idx (i := i) (by omega)
    have e1 := tdiv_nat c (L.getD 0 []).length
    have e3 := tmod_nat c (L.getD 0 []).length
    have pe := posT_eq (c := c) hC
    have pl := pos_lt G hcl
    rw [eC, hD] at pl
    have hq1 : c / (L.getD 0 []).length ≤ c := Nat.div_le_self _ _
    have hq2 : c % (L.getD 0 []).length ≤ c := Nat.mod_le _ _
    have hmul : c / (L.getD 0 []).length * ((L.getD 0 []).length + 1) ≤ 1024 * 33 := Nat.mul_le_mul (by omega) (by omega)
    have w1 := wrap_nat (n := c / (L.getD 0 []).length) (by omega)
    have hnz : ((L.getD 0 []).length : Int) ≠ 0 := by omega
    have hmi : ((c / (L.getD 0 []).length : Nat) : Int) * (((L.getD 0 []).length : Int) + 1) = ((c / (L.getD 0 []).length * ((L.getD 0 []).length + 1) : Nat) : Int) := by rw [Int.natCast_mul, Int.natCast_add]; rfl
    have pe2 : ((c / (L.getD 0 []).length * ((L.getD 0 []).length + 1) : Nat) : Int) + ((c % (L.getD 0 []).length : Nat) : Int) = (posT (L.getD 0 []).length c : Nat) := by rw [← pe]; omega
    have ts := textF_succ (P := P) G.cols hc hcl
    rw [eC] at ts
    generalize hposn : posT (L.getD 0 []).length c = pos at *
    (repeat' (first | (simp (maxSteps := 1000000) (disch := first | omega | (simp only [AM.DB, List.length_set, List.length_map]; first | done | omega)) only [AM.RB, Nat.reduceAdd, Nat.reduceMul, Nat.reduceEqDiff, reduceCtorEq, b30_FW5, g36, g46, hs, e1, e3, w1, hmi, pe2, AM.wrap_i64, o6.ia el_94, Int.toNat_natCast]) | refine AM.drawW_fine hp (by kernel_rfl) (by kernel_rfl) (by kernel_rfl) ?_ | refine AM.opW_tied (by kernel_rfl) ?_ | refine AM.opW_untied (by kernel_rfl) ?_))
    refine o6.st sz_5 (j := pos) (by omega) rfl rfl fun h7 o7 fr7 n7 => ?_
    rw [bset, ts] at o7
    have lw7 := fr7.low
    have nb : ∀ id, idOf (.slice (some ⟨h1.next, 0, none⟩) l.length l.length) id → id = h1.next := fun id t => t
    (repeat' (first | (simp (maxSteps := 1000000) (disch := first | omega | (simp only [AM.DB, List.length_set, List.length_map]; first | done | omega)) only [AM.RB, Nat.reduceAdd, Nat.reduceMul, Nat.reduceEqDiff, reduceCtorEq, b30_FW5]) | refine AM.drawW_fine hp (by kernel_rfl) (by kernel_rfl) (by kernel_rfl) ?_ | refine AM.opW_tied (by kernel_rfl) ?_ | refine AM.opW_untied (by kernel_rfl) ?_))
    refine ⟨by omega, by omega, fun id q1 q2 => fr7.old id q1 (fun e => ?_), by omega, hA, S, ⟨by rw [tlen]; exact o7, by rw [tlen]; exact fr7.get g36 (fun e => by have := nb _ e; omega), fr7.get g46 (fun e => by have := nb _ e; omega), Fr.fresh fr6 fr7 (fun id e => by have := nb _ e; omega)⟩, fun id t => ⟨by have := (hS id t).1; omega, (hS id t).2⟩⟩
    have e := nb _ e
    rcases q2 with q2 | q2 | q2 | q2
    · have := hA id q2; omega
    · omega
    · omega
    · have := olt id q2; omega
  · rintro A h6 ⟨hB6, hA, S, ⟨o6, g36, g46, fr6⟩, hS⟩ hA1 hn6 hl6
    rw [xsF_len] at o6 g36
    have cv := AM.cv_bytes ul_94 ul_5 ul_9 (l := (textF L P P.length).map fun c => (c.toNat : Int)) (by rw [← bytes_ints]; exact o6.rd)
    rw [bsOf_bytes] at cv
    (repeat' (first | (simp (maxSteps := 1000000) (disch := first | omega | (simp only [AM.DB, List.length_set, List.length_map]; first | done | omega)) only [AM.RB, Nat.reduceAdd, Nat.reduceMul, Nat.reduceEqDiff, reduceCtorEq, b30_FW5, g36, cv]) | refine AM.drawW_fine hp (by kernel_rfl) (by kernel_rfl) (by kernel_rfl) ?_ | refine AM.opW_tied (by kernel_rfl) ?_ | refine AM.opW_untied (by kernel_rfl) ?_))
    exact hq _ fr6
  · exact fun _ _ _ q => q.elim

end Go.Proofs.YtbaohngkapmhlaaDoor

namespace Go.Proofs.YtbaohngkapmhlaaDoor
open Go.AM
set_option maxRecDepth 8000
theorem b20_FW6 : type_of% (And.intro (@AM.bin_add) (And.intro (@AM.bin_lss) (And.intro (@AM.bin_neq) (And.intro (@AM.iaO_ok) (And.intro (AM.ia_slice el_22) (And.intro (@AM.ldO_agg) (And.intro (@AM.ldO_one) (And.intro (@AM.ld_ptr) (And.intro (AM.len_slice ul_22) (And.intro (@lk_3) (And.intro (@AM.op_binOp) (And.intro (@AM.op_indexAddr) (And.intro (@AM.op_len) (@AM.op_load)))))))))))))) := And.intro (@AM.bin_add) (And.intro (@AM.bin_lss) (And.intro (@AM.bin_neq) (And.intro (@AM.iaO_ok) (And.intro (AM.ia_slice el_22) (And.intro (@AM.ldO_agg) (And.intro (@AM.ldO_one) (And.intro (@AM.ld_ptr) (And.intro (AM.len_slice ul_22) (And.intro (@lk_3) (And.intro (@AM.op_binOp) (And.intro (@AM.op_indexAddr) (And.intro (@AM.op_len) (@AM.op_load)))))))))))))
theorem b54_FW6 : type_of% (And.intro (AM.bsW_int bs_22) (And.intro (AM.bsW_int2 bs_22) (And.intro (AM.bsW_nil bs_22) (And.intro (AM.bsW_slice bs_22) (And.intro (AM.bsW_string bs_22) (And.intro (@AM.ex_tuple) (And.intro (@AM.op_buildSlice) (And.intro (@AM.op_call) (@AM.op_extract))))))))) := And.intro (AM.bsW_int bs_22) (And.intro (AM.bsW_int2 bs_22) (And.intro (AM.bsW_nil bs_22) (And.intro (AM.bsW_slice bs_22) (And.intro (AM.bsW_string bs_22) (And.intro (@AM.ex_tuple) (And.intro (@AM.op_buildSlice) (And.intro (@AM.op_call) (@AM.op_extract))))))))
theorem b12_FW6 : type_of% (And.intro (@AM.bin_eql) (And.intro (AM.bsW_int bs_22) (And.intro (AM.bsW_int2 bs_22) (And.intro (AM.bsW_nil bs_22) (And.intro (AM.bsW_slice bs_22) (And.intro (AM.bsW_string bs_22) (And.intro (AM.len_slice ul_22) (And.intro (@AM.op_binOp) (And.intro (@AM.op_buildSlice) (And.intro (@AM.op_call) (And.intro (@AM.op_len) (@AM.str_eql)))))))))))) := And.intro (@AM.bin_eql) (And.intro (AM.bsW_int bs_22) (And.intro (AM.bsW_int2 bs_22) (And.intro (AM.bsW_nil bs_22) (And.intro (AM.bsW_slice bs_22) (And.intro (AM.bsW_string bs_22) (And.intro (AM.len_slice ul_22) (And.intro (@AM.op_binOp) (And.intro (@AM.op_buildSlice) (And.intro (@AM.op_call) (And.intro (@AM.op_len) (@AM.str_eql)))))))))))
theorem b13_FW6 : type_of% (And.intro (@AM.bin_gtr) (And.intro (@AM.bin_neq) (And.intro (@AM.ex_tuple) (And.intro (AM.len_slice ul_22) (And.intro (@AM.op_binOp) (And.intro (@AM.op_call) (And.intro (@AM.op_extract) (And.intro (@AM.op_len) (And.intro (@AM.resL_two) (AM.str_len ul_9)))))))))) := And.intro (@AM.bin_gtr) (And.intro (@AM.bin_neq) (And.intro (@AM.ex_tuple) (And.intro (AM.len_slice ul_22) (And.intro (@AM.op_binOp) (And.intro (@AM.op_call) (And.intro (@AM.op_extract) (And.intro (@AM.op_len) (And.intro (@AM.resL_two) (AM.str_len ul_9)))))))))


theorem take_nextF {l t : List Int} {i : Nat} (h1 : i < l.length) (h2 : i < t.length) (h : l.take i = t.take i) (e : l.getD i 0 = t.getD i 0) : l.take (i + 1) = t.take (i + 1) := by
  rw [List.take_add_one, List.take_add_one, h]
  simp only [List.getD, List.getElem?_eq_getElem h1, List.getElem?_eq_getElem h2, Option.getD_some] at e ⊢
  rw [e]
theorem take_allF {l t : List Int} (h : l.length = t.length) (e : l.take l.length = t.take l.length) : l = t := by
  rw [List.take_length] at e
  rw [e, List.take_of_length_le (by omega)]
theorem same22_w {s t : Value} {l m : List Int} {h : AHeap} (hs : Rd h 3 1 s l.length (l.map (.int .i64))) (ht : Rd h 3 1 t m.length (m.map (.int .i64))) (hn : l.length ≤ 4000000000) {Q : VQ} (hq : Q (.bool (decide (l = m))) h) : W 20 [s, t] h Q := by
  obtain ⟨a, ac, rfl⟩ := hs.form
  obtain ⟨b, bc, rfl⟩ := ht.form
  refine AM.enter hp (fn := Tryd.f20) (rs := [.tmp 4]) (nt := 26) (by kernel_rfl) Tryd.func20 rfl rfl rfl (by kernel_rfl) ?_
  by_cases hnk : (l.length : Int) = m.length
  · have hnk' : l.length = m.length := by omega
    (repeat' (first | (simp (maxSteps := 1000000) (disch := first | omega | (simp only [AM.DB, List.length_set, List.length_map]; first | done | omega)) only [AM.RB, Nat.reduceAdd, Nat.reduceMul, Nat.reduceEqDiff, reduceCtorEq, b20_FW6, decide_eq_true hnk]) | refine AM.drawW_fine hp (by kernel_rfl) (by kernel_rfl) (by kernel_rfl) ?_ | refine AM.opW_tied (by kernel_rfl) ?_ | refine AM.opW_untied (by kernel_rfl) ?_))
    refine AM.loop_w hp 26 (fun i : Nat => [(0, .slice a l.length ac), (1, .slice b m.length bc), (12, .int .i64 l.length), (13, .int .i64 i)]) (fun i h' => h' = h ∧ i ≤ l.length ∧ l.take i = m.take i) (fun i => l.length - i) (by kernel_rfl) 0 ?_ ?_ ?_
    · simp (maxSteps := 1000000) (disch := first | omega | (simp only [AM.DB, List.length_set, List.length_map]; first | done | omega)) only [AM.RB, Nat.reduceAdd, Nat.reduceMul, Nat.reduceEqDiff, reduceCtorEq, b20_FW6]
      first | rfl | skip
    · exact ⟨rfl, Nat.zero_le _, rfl⟩
    rintro i h1 ρ ⟨rfl, hi, htk⟩
    simp (maxSteps := 1000000) (disch := first | omega | (simp only [AM.DB, List.length_set, List.length_map]; first | done | omega)) only [AM.RB, Nat.reduceAdd, Nat.reduceMul, Nat.reduceEqDiff, reduceCtorEq, b20_FW6]
    refine AM.condV_split (fun hlt => ?_) (fun hlt => ?_)
    · have hil : i < l.length := by omega
      have him : i < m.length := by omega
      by_cases e : l.getD i 0 = m.getD i 0
      · (repeat' (first | (simp (maxSteps := 1000000) (disch := first | omega | (simp only [AM.DB, List.length_set, List.length_map]; first | done | omega)) only [AM.RB, Nat.reduceAdd, Nat.reduceMul, Nat.reduceEqDiff, reduceCtorEq, b20_FW6, hs.ia el_22, ht.ia el_22, Rd.ldi hs lk_3, Rd.ldi ht lk_3, Int.toNat_natCast, decide_eq_true e, AM.wrap_i64]) | refine AM.drawW_fine hp (by kernel_rfl) (by kernel_rfl) (by kernel_rfl) ?_ | refine AM.opW_tied (by kernel_rfl) ?_ | refine AM.opW_untied (by kernel_rfl) ?_))
        exact ⟨i + 1, by omega, congrArg _ (by omega), by omega, take_nextF hil him htk e⟩
      · (repeat' (first | (simp (maxSteps := 1000000) (disch := first | omega | (simp only [AM.DB, List.length_set, List.length_map]; first | done | omega)) only [AM.RB, Nat.reduceAdd, Nat.reduceMul, Nat.reduceEqDiff, reduceCtorEq, b20_FW6, hs.ia el_22, ht.ia el_22, Rd.ldi hs lk_3, Rd.ldi ht lk_3, Int.toNat_natCast, decide_eq_false e]) | refine AM.drawW_fine hp (by kernel_rfl) (by kernel_rfl) (by kernel_rfl) ?_ | refine AM.opW_tied (by kernel_rfl) ?_ | refine AM.opW_untied (by kernel_rfl) ?_))
        rw [decide_eq_false (fun q => e (by rw [q]))] at hq
        exact hq
    · obtain rfl : i = l.length := by omega
      rw [decide_eq_true (take_allF hnk' htk)] at hq
      (repeat' (first | (simp (maxSteps := 1000000) (disch := first | omega | (simp only [AM.DB, List.length_set, List.length_map]; first | done | omega)) only [AM.RB, Nat.reduceAdd, Nat.reduceMul, Nat.reduceEqDiff, reduceCtorEq, b20_FW6]) | refine AM.drawW_fine hp (by kernel_rfl) (by kernel_rfl) (by kernel_rfl) ?_ | refine AM.opW_tied (by kernel_rfl) ?_ | refine AM.opW_untied (by kernel_rfl) ?_))
      exact hq
  · (repeat' (first | (simp (maxSteps := 1000000) (disch := first | omega | (simp only [AM.DB, List.length_set, List.length_map]; first | done | omega)) only [AM.RB, Nat.reduceAdd, Nat.reduceMul, Nat.reduceEqDiff, reduceCtorEq, b20_FW6, decide_eq_false hnk]) | refine AM.drawW_fine hp (by kernel_rfl) (by kernel_rfl) (by kernel_rfl) ?_ | refine AM.opW_tied (by kernel_rfl) ?_ | refine AM.opW_untied (by kernel_rfl) ?_))
    rw [decide_eq_false (fun q => hnk (by rw [q]))] at hq
    exact hq

/-! ### The chapter's examples -/
def fxT : List UInt8 := [46, 46, 62, 10, 35, 46, 35, 10]
def fxL : List (List UInt8) := [[46, 46, 62], [35, 46, 35]]
theorem fx_verd : verd fxT = .ok fxL := by kernel_rfl
theorem fx_text : textF fxL [0, 1] 2 = [48, 49, 62, 10, 35, 46, 35, 10] := by kernel_rfl
theorem fx_open1 : openF fxL [0, 1] 1 = [2, 4] := by kernel_rfl
theorem fx_open0 : openF fxL [0, 1] 0 = [] := by kernel_rfl
theorem fx_ok : Fok fxL.flatten [0, 1] := by
  refine ⟨fun i hi => ?_, fun i j hi hj e => ?_⟩
  · match i, hi with
    | 0, _ => exact (by kernel_rfl : freeP fxL.flatten 0 = true)
    | 1, _ => exact (by kernel_rfl : freeP fxL.flatten 1 = true)
  · match i, hi, j, hj, e with
    | 0, _, 0, _, _ => rfl
    | 0, _, 1, _, e => exact absurd e (by decide)
    | 1, _, 0, _, e => exact absurd e (by decide)
    | 1, _, 1, _, _ => rfl
set_option maxHeartbeats 2000000 in
theorem fsome_w {h : AHeap} (hl : h.low ≤ h.next) {Q : VQ} (hq : ∀ q p h', Fl h' q p fxL [0, 1] 0 (fun id => id < h.next) → Fr none' h h' → h.next ≤ q → h.next ≤ p → Q (pv q) h') : W 54 [] h Q := by
  have G := verd_good fx_verd
  have f := G.fit
  refine AM.enter hp (fn := Tryd.f54) (rs := [.tmp 0]) (nt := 20) (by kernel_rfl) Tryd.func54 rfl rfl rfl (by kernel_rfl) ?_
  (first | (simp (maxSteps := 1000000) (disch := first | omega | (simp only [AM.DB, List.length_set, List.length_map]; first | done | omega)) only [AM.RB, Nat.reduceAdd, Nat.reduceMul, Nat.reduceEqDiff, reduceCtorEq, b54_FW6]) | skip)
  refine parseV_w fxT (by decide) hl (fun a b hv => by rw [fx_verd] at hv; cases hv) (fun L hv p kv h2 m2 fr2 hp2 hid2 => ?_)
  rw [fx_verd] at hv
  cases hv
  have nx2 := fr2.next
  have lw2 := fr2.low
  have k2 : Mk h2 p fxL (fun id => id < h.next) := Mk.start m2 hp2 hid2 (by omega) (fun id q => q)
  (first | (simp (maxSteps := 1000000) (disch := first | omega | (simp only [AM.DB, List.length_set, List.length_map]; first | done | omega)) only [AM.RB, Nat.reduceAdd, Nat.reduceMul, Nat.reduceEqDiff, reduceCtorEq, b54_FW6]) | skip)
  generalize hE_ : AHeap.alloc h2 _ = h3; obtain ⟨g3, fr3, n3, l3⟩ := AM.new_get hE_; clear hE_
  refine new_w (P := [0, 1]) (k2.fr0 fr3) f (AM.Rd.whole (n := 2) g3 rfl) (by decide) (by have := fr3.next; have := fr3.low; omega) (fun h4 fr4 hno => absurd ⟨by decide, by decide, fx_ok⟩ hno) (fun q h4 _ _ _ x4 fr4 hq4 => ?_)
  (first | (simp (maxSteps := 1000000) (disch := first | omega | (simp only [AM.DB, List.length_set, List.length_map]; first | done | omega)) only [AM.RB, Nat.reduceAdd, Nat.reduceMul, Nat.reduceEqDiff, reduceCtorEq, b54_FW6]) | skip)
  exact hq _ _ _ x4 ((fr2.trans fr3).trans fr4) (by have := fr3.next; omega) hp2
set_option maxHeartbeats 4000000 in
theorem falive_w {h : AHeap} (hw : h.get GW = some (.cells waysC 166 false)) (hgl : GW < h.low) (hl : h.low ≤ h.next) {Q : VQ} (hq : ∀ h', Fr none' h h' → Q (.bool true) h') : W 12 [] h Q := by
  have G := verd_good fx_verd
  have f := G.fit
  have d00 : decide ((0 : Int) = 0) = true := rfl
  have nf : ∀ {h1 h2 : AHeap}, Fr (fun id => ¬ id < h.next) h1 h2 → Fr none' h h1 → Fr none' h h2 := fun q1 q2 => q2.then q1 (fun id a b => (b a).elim)
  refine AM.enter hp (fn := Tryd.f12) (rs := [.tmp 0]) (nt := 18) (by kernel_rfl) Tryd.func12 rfl rfl rfl (by kernel_rfl) ?_
  (first | (simp (maxSteps := 1000000) (disch := first | omega | (simp only [AM.DB, List.length_set, List.length_map]; first | done | omega)) only [AM.RB, Nat.reduceAdd, Nat.reduceMul, Nat.reduceEqDiff, reduceCtorEq, b12_FW6]) | skip)
  refine fsome_w hl fun q p h1 x1 fr1 hq1 hp1 => ?_
  have nx1 := fr1.next
  have lw1 := fr1.low
  (first | (simp (maxSteps := 1000000) (disch := first | omega | (simp only [AM.DB, List.length_set, List.length_map]; first | done | omega)) only [AM.RB, Nat.reduceAdd, Nat.reduceMul, Nat.reduceEqDiff, reduceCtorEq, b12_FW6]) | skip)
  refine ftext_w x1 G fx_ok (by decide) (by omega) fun h2 fr2 => ?_
  have et : textF fxL [0, 1] ([0, 1] : List Int).length = [48, 49, 62, 10, 35, 46, 35, 10] := fx_text
  rw [et]
  have dt : decide (([48, 49, 62, 10, 35, 46, 35, 10] : List UInt8) = [48, 49, 62, 10, 35, 46, 35, 10]) = true := decide_eq_true rfl
  have nx2 := fr2.next
  have lw2 := fr2.low
  have frh2 := fr1.trans fr2
  (first | (simp (maxSteps := 1000000) (disch := first | omega | (simp only [AM.DB, List.length_set, List.length_map]; first | done | omega)) only [AM.RB, Nat.reduceAdd, Nat.reduceMul, Nat.reduceEqDiff, reduceCtorEq, b12_FW6, dt]) | skip)
  refine open_w (x1.fr0 fr2) f (hw.fr0 frh2) (by omega) (by omega) fx_ok (by decide) 1 fun v h3 o3 x3 fr3 hid3 => ?_
  rw [fx_open1] at o3
  obtain ⟨va, vc, rfl⟩ := o3.form
  have nx3 := fr3.next
  have lw3 := fr3.low
  have frh3 := nf fr3 frh2
  (first | (simp (maxSteps := 1000000) (disch := first | omega | (simp only [AM.DB, List.length_set, List.length_map]; first | done | omega)) only [AM.RB, Nat.reduceAdd, Nat.reduceMul, Nat.reduceEqDiff, reduceCtorEq, b12_FW6]) | skip)
  generalize hE_ : AHeap.alloc h3 _ = h4; obtain ⟨g4, fr4, n4, l4⟩ := AM.new_get hE_; clear hE_
  have nx4 := fr4.next
  have lw4 := fr4.low
  have r4 : Rd h4 3 1 (.slice (some ⟨h3.next, 0, none⟩) 2 2) 2 (([2, 4] : List Int).map (.int .i64)) := AM.Rd.whole (n := 2) g4 rfl
  refine same22_w (l := [2, 4]) (m := [2, 4]) (o3.fr0 fr4).rd r4 (by decide) ?_
  rw [decide_eq_true rfl]
  have frh4 := frh3.trans fr4
  (first | (simp (maxSteps := 1000000) (disch := first | omega | (simp only [AM.DB, List.length_set, List.length_map]; first | done | omega)) only [AM.RB, Nat.reduceAdd, Nat.reduceMul, Nat.reduceEqDiff, reduceCtorEq, b12_FW6]) | skip)
  refine open_w (x3.fr0 fr4) f (hw.fr0 frh4) (by omega) (by omega) fx_ok (by decide) 0 fun v h5 o5 x5 fr5 hid5 => ?_
  rw [fx_open0] at o5
  obtain ⟨wa, wc, rfl⟩ := o5.form
  have dl : decide (((([] : List Int).length : Nat) : Int) = 0) = true := rfl
  (first | (simp (maxSteps := 1000000) (disch := first | omega | (simp only [AM.DB, List.length_set, List.length_map]; first | done | omega)) only [AM.RB, Nat.reduceAdd, Nat.reduceMul, Nat.reduceEqDiff, reduceCtorEq, b12_FW6, dl, d00]) | skip)
  exact hq _ (nf fr5 frh4)
set_option maxHeartbeats 2000000 in
theorem built_w (l : List UInt8) {h : AHeap} {v : Value} {P : List Int} {B : Nat → Prop} (hP : Rd h 3 1 v P.length (P.map (.int .i64))) (hl : h.low ≤ h.next) (hB : ∀ id, B id → id < h.next) {Q : VQ}
    (hno : ∀ h', Fr none' h h' → Q (.tuple #[.pointer none, .pointer none]) h')
    (hok : ∀ L q p h', verd l = .ok L → L.flatten.length ≤ 200 → 1 ≤ P.length → P.length ≤ 64 → Fok L.flatten P → Fl h' q p L P 0 B → Fr none' h h' → h.next ≤ q → h.next ≤ p → Q (.tuple #[pv q, pv p]) h') : W 13 [strV l, v] h Q := by
  have d100 : decide ((10 : Int) = 0) = false := rfl
  have d220 : decide ((220 : Int) = 0) = false := rfl
  have d00 : decide ((0 : Int) = 0) = true := rfl
  obtain ⟨pa, pc, rfl⟩ := hP.form
  refine AM.enter hp (fn := Tryd.f13) (rs := [.tmp 4, .tmp 5]) (nt := 44) (by kernel_rfl) Tryd.func13 rfl rfl rfl (by kernel_rfl) ?_
  by_cases c1 : (400 : Int) < l.length
  · (first | (simp (maxSteps := 1000000) (disch := first | omega | (simp only [AM.DB, List.length_set, List.length_map]; first | done | omega)) only [AM.RB, Nat.reduceAdd, Nat.reduceMul, Nat.reduceEqDiff, reduceCtorEq, b13_FW6, decide_eq_true c1]) | skip)
    exact hno _ (Fr.refl _ _)
  by_cases c2 : (64 : Int) < P.length
  · (first | (simp (maxSteps := 1000000) (disch := first | omega | (simp only [AM.DB, List.length_set, List.length_map]; first | done | omega)) only [AM.RB, Nat.reduceAdd, Nat.reduceMul, Nat.reduceEqDiff, reduceCtorEq, b13_FW6, decide_eq_false c1, decide_eq_true c2]) | skip)
    exact hno _ (Fr.refl _ _)
  (first | (simp (maxSteps := 1000000) (disch := first | omega | (simp only [AM.DB, List.length_set, List.length_map]; first | done | omega)) only [AM.RB, Nat.reduceAdd, Nat.reduceMul, Nat.reduceEqDiff, reduceCtorEq, b13_FW6, decide_eq_false c1, decide_eq_false c2]) | skip)
  refine parseV_w l (by omega) hl (fun a' b' hv h1 fr1 => ?_) (fun L hv p kv h1 m1 fr1 hp1 hid1 => ?_)
  · (first | (simp (maxSteps := 1000000) (disch := first | omega | (simp only [AM.DB, List.length_set, List.length_map]; first | done | omega)) only [AM.RB, Nat.reduceAdd, Nat.reduceMul, Nat.reduceEqDiff, reduceCtorEq, b13_FW6, d100]) | skip)
    exact hno _ fr1
  have G := verd_good hv
  have f := G.fit
  have hbd : L.length ≤ 4000000 ∧ (L.getD 0 []).length ≤ 4000000 := by have := f.r32; have := f.c32; omega
  have flen := f.len
  have nx1 := fr1.next
  have lw1 := fr1.low
  (first | (simp (maxSteps := 1000000) (disch := first | omega | (simp only [AM.DB, List.length_set, List.length_map]; first | done | omega)) only [AM.RB, Nat.reduceAdd, Nat.reduceMul, Nat.reduceEqDiff, reduceCtorEq, b13_FW6, d00]) | skip)
  refine cells_w m1 f.rows hbd _ ?_
  by_cases c3 : (200 : Int) < ((L.length * (L.getD 0 []).length : Nat) : Int)
  · (first | (simp (maxSteps := 1000000) (disch := first | omega | (simp only [AM.DB, List.length_set, List.length_map]; first | done | omega)) only [AM.RB, Nat.reduceAdd, Nat.reduceMul, Nat.reduceEqDiff, reduceCtorEq, b13_FW6, decide_eq_true c3]) | skip)
    exact hno _ fr1
  (first | (simp (maxSteps := 1000000) (disch := first | omega | (simp only [AM.DB, List.length_set, List.length_map]; first | done | omega)) only [AM.RB, Nat.reduceAdd, Nat.reduceMul, Nat.reduceEqDiff, reduceCtorEq, b13_FW6, decide_eq_false c3]) | skip)
  have k1 : Mk h1 p L B := Mk.start m1 hp1 hid1 (by omega) hB
  refine new_w k1 f (hP.fr0 fr1) (by omega) (by omega) (fun h2 fr2 _ => ?_) (fun q h2 n1 n64 ok x2 fr2 hq2 => ?_)
  · (first | (simp (maxSteps := 1000000) (disch := first | omega | (simp only [AM.DB, List.length_set, List.length_map]; first | done | omega)) only [AM.RB, Nat.reduceAdd, Nat.reduceMul, Nat.reduceEqDiff, reduceCtorEq, b13_FW6, d220]) | skip)
    exact hno _ (fr1.trans fr2)
  · (first | (simp (maxSteps := 1000000) (disch := first | omega | (simp only [AM.DB, List.length_set, List.length_map]; first | done | omega)) only [AM.RB, Nat.reduceAdd, Nat.reduceMul, Nat.reduceEqDiff, reduceCtorEq, b13_FW6, d00]) | skip)
    exact hok _ _ _ _ hv (by omega) n1 n64 ok x2 (fr1.trans fr2) (by omega) hp1

end Go.Proofs.YtbaohngkapmhlaaDoor

namespace Go.Proofs.YtbaohngkapmhlaaDoor
open Go.AM
set_option maxRecDepth 8000
theorem fedge_w {h : AHeap} {q p : Nat} {L : List (List UInt8)} {P : List Int} {mv : Nat} {B : Nat → Prop} (x : Fl h q p L P mv B) (f : Fit L) (hw : h.get GW = some (.cells waysC 166 false)) (hgl : GW < h.low) (hl : h.low ≤ h.next) (a b : Int) {Q : VQ}
    (hq : ∀ h', Fl h' q p L P mv B → Fr (fun id => id = p) h h' → Q (.bool (edgeL L a b)) h') : W 19 [pv p, .int .i64 a, .int .i64 b] h Q := by
  obtain ⟨aa, ac, g, o, hne, hlo, hB, m⟩ := x
  refine edgeK_w m f hw hgl hl _ _ fun h1 m1 fr1 => ?_
  have qp : q ≠ p := fun e => m.no (.inr (.inl e.symm))
  exact hq _ ⟨aa, ac, fr1.get g qp, o.fr fr1 (fun id t e => by have e : id = p := e; subst e; exact m.no (.inr (.inr t))), hne, by rw [fr1.low]; exact hlo, hB, m1⟩ fr1
end Go.Proofs.YtbaohngkapmhlaaDoor
