/- Walks of this claim's functions, and plain laws. -/
import Derived.Test.YtbaohngkapmhlaaDoorWd
import Derived.Test.YtbaohngkapmhlaaDoorAMOps9
set_option linter.unusedSimpArgs false
set_option linter.unusedVariables false
namespace Go.Proofs.YtbaohngkapmhlaaDoor
open Go.AM
set_option maxRecDepth 8000
theorem b4_FS1 : type_of% (And.intro (@Option.isNone_none.{0}) (And.intro (@Option.isNone_some.{0}) (And.intro (@AM.bin_add) (And.intro (@AM.bin_eql) (And.intro (@AM.bin_gtr) (And.intro (@AM.bin_lss) (And.intro (@AM.bin_neq) (And.intro (AM.bin_pnil ul_25) (And.intro (@AM.ex_tuple) (And.intro (@AM.iaA_ok) (And.intro (@AM.iaO_ok) (And.intro (AM.ia_array ar_39) (And.intro (AM.ia_slice el_22) (And.intro (AM.ia_slice el_38) (And.intro (@AM.ldO_agg) (And.intro (@AM.ldO_one) (And.intro (@AM.ld_ptr) (And.intro (AM.len_slice ul_22) (And.intro (AM.len_slice ul_38) (And.intro (@lk_3) (And.intro (@AM.op_binOp) (And.intro (@AM.op_call) (And.intro (@AM.op_extract) (And.intro (@AM.op_indexAddr) (And.intro (@AM.op_len) (And.intro (@AM.op_load) (And.intro (@AM.op_lookup) (And.intro (@AM.op_makeMap0) (And.intro (@AM.op_mapUpdate) (And.intro (@AM.op_unOp) (And.intro (@AM.un_neg) (@AM.un_not)))))))))))))))))))))))))))))))) := And.intro (@Option.isNone_none.{0}) (And.intro (@Option.isNone_some.{0}) (And.intro (@AM.bin_add) (And.intro (@AM.bin_eql) (And.intro (@AM.bin_gtr) (And.intro (@AM.bin_lss) (And.intro (@AM.bin_neq) (And.intro (AM.bin_pnil ul_25) (And.intro (@AM.ex_tuple) (And.intro (@AM.iaA_ok) (And.intro (@AM.iaO_ok) (And.intro (AM.ia_array ar_39) (And.intro (AM.ia_slice el_22) (And.intro (AM.ia_slice el_38) (And.intro (@AM.ldO_agg) (And.intro (@AM.ldO_one) (And.intro (@AM.ld_ptr) (And.intro (AM.len_slice ul_22) (And.intro (AM.len_slice ul_38) (And.intro (@lk_3) (And.intro (@AM.op_binOp) (And.intro (@AM.op_call) (And.intro (@AM.op_extract) (And.intro (@AM.op_indexAddr) (And.intro (@AM.op_len) (And.intro (@AM.op_load) (And.intro (@AM.op_lookup) (And.intro (@AM.op_makeMap0) (And.intro (@AM.op_mapUpdate) (And.intro (@AM.op_unOp) (And.intro (@AM.un_neg) (@AM.un_not)))))))))))))))))))))))))))))))


abbrev encP (x : Int × Int) : List Value := [.int .i64 x.1, .int .i64 x.2]
theorem encP_len (x : Int × Int) : (encP x).length = 2 := rfl
/-- What a move turned among the first ones. -/
def tN (L : List (List UInt8)) (P : List Int) (r c : Int) (k : Nat) : Nat := if chkF L P r c = 0 ∧ r < k then 1 else 0
theorem mov_eq {L : List (List UInt8)} {P : List Int} {r c : Int} {k : Nat} (hk : k < P.length) (h : ¬ (chkF L P r c = 0 ∧ r = k)) : (movF L P r c).getD k 0 = P.getD k 0 ∧ tN L P r c (k + 1) = tN L P r c k := by
  unfold movF tN
  by_cases e : chkF L P r c = 0
  · rcases chkF_or L P r c with ⟨_, ⟨r0, r1⟩, _⟩ | ⟨e', _⟩
    · have hrk : r ≠ k := fun q => h ⟨e, q⟩
      rw [if_pos e, getD_set, if_neg (by omega)]
      refine ⟨rfl, ?_⟩
      by_cases q : r < k
      · rw [if_pos ⟨e, by omega⟩, if_pos ⟨e, q⟩]
      · rw [if_neg (by omega), if_neg (by omega)]
    · omega
  · rw [if_neg e, if_neg (fun q => e q.1), if_neg (fun q => e q.1)]
    exact ⟨rfl, rfl⟩
theorem mov_ne {L : List (List UInt8)} {P : List Int} (ok : Fok L.flatten P) {r c : Int} {k : Nat} (hk : k < P.length) (e : chkF L P r c = 0) (hr : r = k) : (movF L P r c).getD k 0 = c ∧ P.getD k 0 ≠ c ∧ edgeL L (P.getD k 0) c = true ∧ tN L P r c (k + 1) = tN L P r c k + 1 := by
  subst hr
  rcases chkF_or L P k c with ⟨_, _, h2, h3⟩ | ⟨e', _⟩
  · rw [Int.toNat_natCast] at h2
    unfold movF tN
    rw [if_pos e, Int.toNat_natCast, getD_set, if_pos ⟨rfl, hk⟩, if_pos ⟨e, by omega⟩, if_neg (by omega)]
    exact ⟨rfl, whoL_no.1 h3 k hk, h2, rfl⟩
  · omega
theorem tN_end {L : List (List UInt8)} {P : List Int} {r c : Int} : tN L P r c P.length = if chkF L P r c = 0 then 1 else 0 := by
  unfold tN
  rcases chkF_or L P r c with ⟨e, ⟨_, h⟩, _⟩ | ⟨e, _⟩
  · rw [if_pos ⟨e, h⟩, if_pos e]
  · rw [if_neg (by omega), if_neg (by omega)]
set_option maxHeartbeats 16000000 in
theorem safe22_w (l : List UInt8) {v lv : Value} {P : List Int} {M : List (Int × Int)} {h : AHeap} (hP : Rd h 3 1 v P.length (P.map (.int .i64))) (hM : Rd h 39 2 lv M.length (M.flatMap encP)) (hw0 : h.get GW = some (.cells waysC 166 false)) (hl0 : h.low = h.next) : W 4 [strV l, v, lv] h fun v _ => v = .bool true := by
  have hgl : GW < h.low := by have := AM.get_some_lt hw0; omega
  obtain ⟨pa, pc, rfl⟩ := hP.form
  obtain ⟨ma, mc, rfl⟩ := hM.form
  have d220 : decide ((220 : Int) = 0) = false := rfl
  have d00 : decide ((0 : Int) = 0) = true := rfl
  have t0 : (0 : Int).toNat = 0 := rfl
  have t1 : (1 : Int).toNat = 1 := rfl
  refine AM.enter hp (fn := Tryd.f4) (rs := [.tmp 6]) (nt := 192) (by kernel_rfl) Tryd.func4 rfl rfl rfl (by kernel_rfl) ?_
  (repeat' (first | (simp (maxSteps := 1000000) (disch := first | omega | (simp only [AM.DB, List.length_set, List.length_map]; first | done | omega)) only [AM.RB, Nat.reduceAdd, Nat.reduceMul, Nat.reduceEqDiff, reduceCtorEq, b4_FS1]) | refine AM.drawW_fine (id := 10) hp (by kernel_rfl) (by kernel_rfl) (by kernel_rfl) ?_ | refine AM.drawW_fine (id := 16) hp (by kernel_rfl) (by kernel_rfl) (by kernel_rfl) ?_ | refine AM.drawW_fine (id := 18) hp (by kernel_rfl) (by kernel_rfl) (by kernel_rfl) ?_ | refine AM.drawW_loose (id := 30) hp (by kernel_rfl) (by kernel_rfl) ?_ | refine AM.opW_tied (by kernel_rfl) ?_ | refine AM.opW_untied (by kernel_rfl) ?_))
  refine falive_w hw0 (by omega) (by omega) fun h2 fr2 => ?_
  have nx2 := fr2.next
  have lw2 := fr2.low
  (repeat' (first | (simp (maxSteps := 1000000) (disch := first | omega | (simp only [AM.DB, List.length_set, List.length_map]; first | done | omega)) only [AM.RB, Nat.reduceAdd, Nat.reduceMul, Nat.reduceEqDiff, reduceCtorEq, b4_FS1]) | refine AM.drawW_fine (id := 10) hp (by kernel_rfl) (by kernel_rfl) (by kernel_rfl) ?_ | refine AM.drawW_fine (id := 16) hp (by kernel_rfl) (by kernel_rfl) (by kernel_rfl) ?_ | refine AM.drawW_fine (id := 18) hp (by kernel_rfl) (by kernel_rfl) (by kernel_rfl) ?_ | refine AM.drawW_loose (id := 30) hp (by kernel_rfl) (by kernel_rfl) ?_ | refine AM.opW_tied (by kernel_rfl) ?_ | refine AM.opW_untied (by kernel_rfl) ?_))
  refine built_w l (B := fun id => id < h2.next) (hP.fr0 fr2) (by omega) (fun id q => q) (fun h3 fr3 => ?_) (fun L q p h3 hv hcM n1' n64 ok x3 fr3 hq3 hp3 => ?_)
  · (repeat' (first | (simp (maxSteps := 1000000) (disch := first | omega | (simp only [AM.DB, List.length_set, List.length_map]; first | done | omega)) only [AM.RB, Nat.reduceAdd, Nat.reduceMul, Nat.reduceEqDiff, reduceCtorEq, b4_FS1]) | refine AM.drawW_fine (id := 10) hp (by kernel_rfl) (by kernel_rfl) (by kernel_rfl) ?_ | refine AM.drawW_fine (id := 16) hp (by kernel_rfl) (by kernel_rfl) (by kernel_rfl) ?_ | refine AM.drawW_fine (id := 18) hp (by kernel_rfl) (by kernel_rfl) (by kernel_rfl) ?_ | refine AM.drawW_loose (id := 30) hp (by kernel_rfl) (by kernel_rfl) ?_ | refine AM.opW_tied (by kernel_rfl) ?_ | refine AM.opW_untied (by kernel_rfl) ?_))
  have G := verd_good hv
  have f := G.fit
  have nx3 := fr3.next
  have lw3 := fr3.low
  have fr03 := fr2.trans fr3
  by_cases c1 : (100 : Int) < M.length
  · (repeat' (first | (simp (maxSteps := 1000000) (disch := first | omega | (simp only [AM.DB, List.length_set, List.length_map]; first | done | omega)) only [AM.RB, Nat.reduceAdd, Nat.reduceMul, Nat.reduceEqDiff, reduceCtorEq, b4_FS1, decide_eq_true c1]) | refine AM.drawW_fine (id := 10) hp (by kernel_rfl) (by kernel_rfl) (by kernel_rfl) ?_ | refine AM.drawW_fine (id := 16) hp (by kernel_rfl) (by kernel_rfl) (by kernel_rfl) ?_ | refine AM.drawW_fine (id := 18) hp (by kernel_rfl) (by kernel_rfl) (by kernel_rfl) ?_ | refine AM.drawW_loose (id := 30) hp (by kernel_rfl) (by kernel_rfl) ?_ | refine AM.opW_tied (by kernel_rfl) ?_ | refine AM.opW_untied (by kernel_rfl) ?_))
  (repeat' (first | (simp (maxSteps := 1000000) (disch := first | omega | (simp only [AM.DB, List.length_set, List.length_map]; first | done | omega)) only [AM.RB, Nat.reduceAdd, Nat.reduceMul, Nat.reduceEqDiff, reduceCtorEq, b4_FS1, decide_eq_false c1]) | refine AM.drawW_fine (id := 10) hp (by kernel_rfl) (by kernel_rfl) (by kernel_rfl) ?_ | refine AM.drawW_fine (id := 16) hp (by kernel_rfl) (by kernel_rfl) (by kernel_rfl) ?_ | refine AM.drawW_fine (id := 18) hp (by kernel_rfl) (by kernel_rfl) (by kernel_rfl) ?_ | refine AM.drawW_loose (id := 30) hp (by kernel_rfl) (by kernel_rfl) ?_ | refine AM.opW_tied (by kernel_rfl) ?_ | refine AM.opW_untied (by kernel_rfl) ?_))
  refine places_w x3 (by omega) (by omega) fun w h4 o4 fr4 hid4 => ?_
  obtain ⟨wa, wc, rfl⟩ := o4.form
  have nx4 := fr4.next
  have lw4 := fr4.low
  have fr04 := fr03.trans fr4
  have x4 := x3.fresh fr4
  have lenE : (P.length : Int) = P.length := rfl
  (repeat' (first | (simp (maxSteps := 1000000) (disch := first | omega | (simp only [AM.DB, List.length_set, List.length_map]; first | done | omega)) only [AM.RB, Nat.reduceAdd, Nat.reduceMul, Nat.reduceEqDiff, reduceCtorEq, b4_FS1]) | refine AM.drawW_fine (id := 10) hp (by kernel_rfl) (by kernel_rfl) (by kernel_rfl) ?_ | refine AM.drawW_fine (id := 16) hp (by kernel_rfl) (by kernel_rfl) (by kernel_rfl) ?_ | refine AM.drawW_fine (id := 18) hp (by kernel_rfl) (by kernel_rfl) (by kernel_rfl) ?_ | refine AM.drawW_loose (id := 30) hp (by kernel_rfl) (by kernel_rfl) ?_ | refine AM.opW_tied (by kernel_rfl) ?_ | refine AM.opW_untied (by kernel_rfl) ?_))
  refine AM.loop_w hp 192 (fun s : Nat × Option Addr × Nat × Nat => [(1, .slice pa P.length pc), (2, .slice ma M.length mc), (7, .bool true), (8, pv q), (9, pv p), (10, .slice s.2.1 P.length s.2.2.1), (11, .int .i64 s.2.2.2), (41, .int .i64 M.length), (42, .int .i64 s.1)])
    (fun s h' => s.1 ≤ M.length ∧ s.2.2.2 ≤ s.1 ∧ Fr (fun id => ¬ id < h2.next) h4 h' ∧ ∃ Pc B, Pc.length = P.length ∧ Fok L.flatten Pc ∧ Fl h' q p L Pc s.2.2.2 B ∧ Rd h' 3 1 (.slice s.2.1 P.length s.2.2.1) P.length (Pc.map (.int .i64)) ∧ (∀ id, idOf (.slice s.2.1 P.length s.2.2.1) id → B id) ∧ ∀ id, id < h2.next → B id) (fun s => M.length - s.1) (by kernel_rfl) (0, wa, wc, 0) ?_ ?_ ?_
  · simp (maxSteps := 1000000) (disch := first | omega | (simp only [AM.DB, List.length_set, List.length_map]; first | done | omega)) only [AM.RB, Nat.reduceAdd, Nat.reduceMul, Nat.reduceEqDiff, reduceCtorEq, b4_FS1]
    first | rfl | skip
  · exact ⟨Nat.zero_le _, Nat.le_refl _, Fr.refl _ _, P, _, rfl, ok, x4, o4.rd, fun id a => .inr ⟨hid4 id a, o4.lt a⟩, fun id a => .inl a⟩
  rintro ⟨i, sa, sc, mv⟩ hA ρ ⟨hi, hmv, fA, Pc, B, hPl, okA, xA, sA, sB, bB⟩
  simp only at hi hmv sA sB xA ⊢
  have nxA := fA.next
  have lwA := fA.low
  have hwA := fA.get (hw0.fr0 fr04) (fun t => t (by omega))
  have mA := (hM.fr0 fr04).fr fA (fun id a t => t (by have := hM.lt a; omega))
  have toB : ∀ {h1 h2' : AHeap}, Fr (fun id => ¬ B id) h1 h2' → Fr (fun id => ¬ id < h2.next) h1 h2' := fun fr => fr.mono fun id _ a b => a (bB id b)
  simp (maxSteps := 1000000) (disch := first | omega | (simp only [AM.DB, List.length_set, List.length_map]; first | done | omega)) only [AM.RB, Nat.reduceAdd, Nat.reduceMul, Nat.reduceEqDiff, reduceCtorEq, b4_FS1]
  refine AM.condV_split (fun hlt => ?_) (fun hlt => ?_)
  · have hil : i < M.length := by omega
    obtain ⟨x, hx⟩ : ∃ x, M.getD i (0, 0) = x := ⟨_, rfl⟩
    obtain ⟨r, c⟩ := x
    have ld0 : aLoad Tryd.prog hA 3 (elF (.slice ma M.length mc) 2 i 0) = some (.int .i64 r) := by
      have := Rd.ldsF (g := encP) encP_len mA lk_3 rfl (0, 0) i 0 hil (by omega)
      rw [hx] at this; exact this
    have ld1 : aLoad Tryd.prog hA 3 (elF (.slice ma M.length mc) 2 i 1) = some (.int .i64 c) := by
      have := Rd.ldsF (g := encP) encP_len mA lk_3 rfl (0, 0) i 1 hil (by omega)
      rw [hx] at this; exact this
    have ad0 : aIndexAddr Tryd.prog 39 (elP (.slice ma M.length mc) 2 i) (.int .i64 0) = some (elF (.slice ma M.length mc) 2 i 0) := mA.aa ar_39 .i64 0 i hil (by decide) (by decide)
    have ad1 : aIndexAddr Tryd.prog 39 (elP (.slice ma M.length mc) 2 i) (.int .i64 1) = some (elF (.slice ma M.length mc) 2 i 1) := mA.aa ar_39 .i64 1 i hil (by decide) (by decide)
    (repeat' (first | (simp (maxSteps := 1000000) (disch := first | omega | (simp only [AM.DB, List.length_set, List.length_map]; first | done | omega)) only [AM.RB, Nat.reduceAdd, Nat.reduceMul, Nat.reduceEqDiff, reduceCtorEq, b4_FS1, mA.ia el_38, Int.toNat_natCast, ad0, ad1, ld0, ld1]) | refine AM.drawW_fine (id := 10) hp (by kernel_rfl) (by kernel_rfl) (by kernel_rfl) ?_ | refine AM.drawW_fine (id := 16) hp (by kernel_rfl) (by kernel_rfl) (by kernel_rfl) ?_ | refine AM.drawW_fine (id := 18) hp (by kernel_rfl) (by kernel_rfl) (by kernel_rfl) ?_ | refine AM.drawW_loose (id := 30) hp (by kernel_rfl) (by kernel_rfl) ?_ | refine AM.opW_tied (by kernel_rfl) ?_ | refine AM.opW_untied (by kernel_rfl) ?_))
    refine move_w xA f okA hwA (by omega) (by omega) (by omega) (by omega) r c fun hB xB frB => ?_
    have nxB := frB.next
    have lwB := frB.low
    have okB := okA.move (L := L) r c
    have hBl := movF_len L Pc r c
    (repeat' (first | (simp (maxSteps := 1000000) (disch := first | omega | (simp only [AM.DB, List.length_set, List.length_map]; first | done | omega)) only [AM.RB, Nat.reduceAdd, Nat.reduceMul, Nat.reduceEqDiff, reduceCtorEq, b4_FS1]) | refine AM.drawW_fine (id := 10) hp (by kernel_rfl) (by kernel_rfl) (by kernel_rfl) ?_ | refine AM.drawW_fine (id := 16) hp (by kernel_rfl) (by kernel_rfl) (by kernel_rfl) ?_ | refine AM.drawW_fine (id := 18) hp (by kernel_rfl) (by kernel_rfl) (by kernel_rfl) ?_ | refine AM.drawW_loose (id := 30) hp (by kernel_rfl) (by kernel_rfl) ?_ | refine AM.opW_tied (by kernel_rfl) ?_ | refine AM.opW_untied (by kernel_rfl) ?_))
    refine places_w xB (by omega) (by omega) fun w hC oC frC hidC => ?_
    rw [hBl, hPl] at oC
    obtain ⟨na, nc, rfl⟩ := oC.form
    have nxC := frC.next
    have lwC := frC.low
    have xC := xB.fresh frC
    have sC := (sA.fr frB (fun id a t => t (sB id a))).fr0 frC
    have mC := (mA.fr frB (fun id a t => t (bB id (by have := hM.lt a; omega)))).fr0 frC
    have hwC := (frB.get hwA (fun t => t (bB _ (by omega)))).fr0 frC
    have fC : Fr (fun id => ¬ id < h2.next) h4 hC := fA.trans ((toB frB).trans (frC.mono fun _ _ t => t.elim))
    (repeat' (first | (simp (maxSteps := 1000000) (disch := first | omega | (simp only [AM.DB, List.length_set, List.length_map]; first | done | omega)) only [AM.RB, Nat.reduceAdd, Nat.reduceMul, Nat.reduceEqDiff, reduceCtorEq, b4_FS1]) | refine AM.drawW_fine (id := 10) hp (by kernel_rfl) (by kernel_rfl) (by kernel_rfl) ?_ | refine AM.drawW_fine (id := 16) hp (by kernel_rfl) (by kernel_rfl) (by kernel_rfl) ?_ | refine AM.drawW_fine (id := 18) hp (by kernel_rfl) (by kernel_rfl) (by kernel_rfl) ?_ | refine AM.drawW_loose (id := 30) hp (by kernel_rfl) (by kernel_rfl) ?_ | refine AM.opW_tied (by kernel_rfl) ?_ | refine AM.opW_untied (by kernel_rfl) ?_))
    obtain ⟨m', hm', hmle⟩ : ∃ m', (if chkF L Pc r c = 0 then mv + 1 else mv) = m' ∧ m' ≤ i + 1 := ⟨_, rfl, by split <;> omega⟩
    rw [hm'] at xC
    have plt : p < hC.next := by obtain ⟨_, _, _, _, _, _, _, m⟩ := id xC; exact m.lt
    have plt3 : p < h3.next := by obtain ⟨_, _, _, _, _, _, _, m⟩ := id x3; exact m.lt
    have rC := oC.rd
    refine AM.loop_w hp 192 (fun k : Nat => [(1, .slice pa P.length pc), (2, .slice ma M.length mc), (7, .bool true), (8, pv q), (9, pv p), (10, .slice sa P.length sc), (11, .int .i64 mv), (12, .int .i64 i), (13, .int .i64 (chkF L Pc r c)), (14, .slice na P.length nc), (15, .int .i64 (tN L Pc r c k)), (41, .int .i64 M.length), (42, .int .i64 i), (60, .int .i64 P.length), (61, .int .i64 k)])
      (fun k h' => k ≤ P.length ∧ Fl h' q p L (movF L Pc r c) m' (fun id => B id ∨ (hB.next ≤ id ∧ id < hC.next)) ∧ Fr (fun id => id = p) hC h') (fun k => P.length - k) (by kernel_rfl) 0 ?_ ?_ ?_
    · simp (maxSteps := 1000000) (disch := first | omega | (simp only [AM.DB, List.length_set, List.length_map]; first | done | omega)) only [AM.RB, Nat.reduceAdd, Nat.reduceMul, Nat.reduceEqDiff, reduceCtorEq, b4_FS1]
      have e : tN L Pc r c 0 = 0 ∨ (chkF L Pc r c = 0 ∧ r < 0) := by
        unfold tN
        by_cases q : chkF L Pc r c = 0 ∧ r < ((0 : Nat) : Int)
        · exact .inr ⟨q.1, by omega⟩
        · rw [if_neg q]; exact .inl rfl
      rcases e with e | ⟨e1, e2⟩
      · rw [e]; first | rfl | skip
      · rcases chkF_or L Pc r c with ⟨_, ⟨r0, _⟩, _⟩ | ⟨e', _⟩ <;> omega
    · exact ⟨Nat.zero_le _, xC, Fr.refl _ _⟩
    rintro k hD ρ ⟨hk, xD, frD⟩
    have nxD := frD.next
    have lwD := frD.low
    have pNo : ∀ id, idOf (.slice na P.length nc) id → ¬ id = p := fun id a e => by have := hidC id a; omega
    have rD := rC.fr frD pNo
    have pB : ¬ B p := by obtain ⟨_, _, _, _, _, _, _, m⟩ := id xC; exact fun a => m.no (.inl (.inl a))
    have sD := sC.fr frD (fun id a e => by
      have e : id = p := e
      subst e
      exact pB (sB _ a))
    have mD := mC.fr frD (fun id a e => by have := hM.lt a; have e : id = p := e; omega)
    have hwD := frD.get hwC (show ¬ GW = p by omega)
    simp (maxSteps := 1000000) (disch := first | omega | (simp only [AM.DB, List.length_set, List.length_map]; first | done | omega)) only [AM.RB, Nat.reduceAdd, Nat.reduceMul, Nat.reduceEqDiff, reduceCtorEq, b4_FS1]
    refine AM.condV_split (fun hltk => ?_) (fun hltk => ?_)
    · have hkl : k < P.length := by omega
      by_cases hq : chkF L Pc r c = 0 ∧ r = k
      · obtain ⟨he, rfl⟩ := hq
        obtain ⟨e1, e2, e3, e4⟩ := mov_ne okA (by omega) he rfl
        obtain ⟨a, ha⟩ : ∃ a, Pc.getD k 0 = a := ⟨_, rfl⟩
        rw [ha] at e2 e3
        have dne : decide (c = a) = false := decide_eq_false (fun e => e2 e.symm)
        have ld0D : aLoad Tryd.prog hD 3 (elF (.slice ma M.length mc) 2 i 0) = some (.int .i64 (k : Int)) := by
          have := Rd.ldsF (g := encP) encP_len mD lk_3 rfl (0, 0) i 0 hil (by omega)
          rw [hx] at this; exact this
        have ld1D : aLoad Tryd.prog hD 3 (elF (.slice ma M.length mc) 2 i 1) = some (.int .i64 c) := by
          have := Rd.ldsF (g := encP) encP_len mD lk_3 rfl (0, 0) i 1 hil (by omega)
          rw [hx] at this; exact this
        have tle : tN L Pc (k : Int) c k ≤ 1 := by unfold tN; split <;> omega
        (repeat' (first | (simp (maxSteps := 1000000) (disch := first | omega | (simp only [AM.DB, List.length_set, List.length_map]; first | done | omega)) only [AM.RB, Nat.reduceAdd, Nat.reduceMul, Nat.reduceEqDiff, reduceCtorEq, b4_FS1, rD.ia el_22, Rd.ldi rD lk_3, sD.ia el_22, Rd.ldi sD lk_3, mD.ia el_38, Int.toNat_natCast, e1, ha, dne, ad0, ad1, ld0D, ld1D, eqself, AM.wrap_i64]) | refine AM.drawW_fine (id := 10) hp (by kernel_rfl) (by kernel_rfl) (by kernel_rfl) ?_ | refine AM.drawW_fine (id := 16) hp (by kernel_rfl) (by kernel_rfl) (by kernel_rfl) ?_ | refine AM.drawW_fine (id := 18) hp (by kernel_rfl) (by kernel_rfl) (by kernel_rfl) ?_ | refine AM.drawW_loose (id := 30) hp (by kernel_rfl) (by kernel_rfl) ?_ | refine AM.opW_tied (by kernel_rfl) ?_ | refine AM.opW_untied (by kernel_rfl) ?_))
        refine fedge_w xD f hwD (by omega) (by omega) _ _ fun hE xE frE => ?_
        rw [e3]
        (repeat' (first | (simp (maxSteps := 1000000) (disch := first | omega | (simp only [AM.DB, List.length_set, List.length_map]; first | done | omega)) only [AM.RB, Nat.reduceAdd, Nat.reduceMul, Nat.reduceEqDiff, reduceCtorEq, b4_FS1, AM.wrap_i64]) | refine AM.drawW_fine (id := 10) hp (by kernel_rfl) (by kernel_rfl) (by kernel_rfl) ?_ | refine AM.drawW_fine (id := 16) hp (by kernel_rfl) (by kernel_rfl) (by kernel_rfl) ?_ | refine AM.drawW_fine (id := 18) hp (by kernel_rfl) (by kernel_rfl) (by kernel_rfl) ?_ | refine AM.drawW_loose (id := 30) hp (by kernel_rfl) (by kernel_rfl) ?_ | refine AM.opW_tied (by kernel_rfl) ?_ | refine AM.opW_untied (by kernel_rfl) ?_))
        exact ⟨k + 1, by omega, ⟨congrArg _ (by omega), congrArg _ (by omega)⟩, by omega, xE, frD.trans frE⟩
      · obtain ⟨e1, e2⟩ := mov_eq (L := L) (P := Pc) (r := r) (c := c) (k := k) (by omega) hq
        have deq : decide (Pc.getD k 0 = Pc.getD k 0) = true := decide_eq_true rfl
        (repeat' (first | (simp (maxSteps := 1000000) (disch := first | omega | (simp only [AM.DB, List.length_set, List.length_map]; first | done | omega)) only [AM.RB, Nat.reduceAdd, Nat.reduceMul, Nat.reduceEqDiff, reduceCtorEq, b4_FS1, rD.ia el_22, Rd.ldi rD lk_3, sD.ia el_22, Rd.ldi sD lk_3, Int.toNat_natCast, e1, deq, AM.wrap_i64]) | refine AM.drawW_fine (id := 10) hp (by kernel_rfl) (by kernel_rfl) (by kernel_rfl) ?_ | refine AM.drawW_fine (id := 16) hp (by kernel_rfl) (by kernel_rfl) (by kernel_rfl) ?_ | refine AM.drawW_fine (id := 18) hp (by kernel_rfl) (by kernel_rfl) (by kernel_rfl) ?_ | refine AM.drawW_loose (id := 30) hp (by kernel_rfl) (by kernel_rfl) ?_ | refine AM.opW_tied (by kernel_rfl) ?_ | refine AM.opW_untied (by kernel_rfl) ?_))
        exact ⟨k + 1, by omega, ⟨congrArg _ (by omega), congrArg _ (by omega)⟩, by omega, xD, frD⟩
    have hkP : k = P.length := by omega
    have htn : tN L Pc r c k = if chkF L Pc r c = 0 then 1 else 0 := by rw [hkP, ← hPl]; exact tN_end
    rw [htn]
    have dmm : decide ((m' : Int) = m') = true := decide_eq_true rfl
    have d10 : decide ((1 : Int) = 0) = false := rfl
    have d11 : decide ((1 : Int) = 1) = true := rfl
    have d01 : decide ((0 : Int) = 1) = false := rfl
    rcases chkF_or L Pc r c with ⟨e, _⟩ | ⟨e, _⟩
    case' inl =>
      rw [e, if_pos rfl] at hm'
      have hmE : (mv : Int) + 1 = m' := by omega
      rw [e, if_pos rfl]
      (repeat' (first | (simp (maxSteps := 1000000) (disch := first | omega | (simp only [AM.DB, List.length_set, List.length_map]; first | done | omega)) only [AM.RB, Nat.reduceAdd, Nat.reduceMul, Nat.reduceEqDiff, reduceCtorEq, b4_FS1, d00, d10, d11, AM.wrap_i64, hmE]) | refine AM.drawW_fine (id := 10) hp (by kernel_rfl) (by kernel_rfl) (by kernel_rfl) ?_ | refine AM.drawW_fine (id := 16) hp (by kernel_rfl) (by kernel_rfl) (by kernel_rfl) ?_ | refine AM.drawW_fine (id := 18) hp (by kernel_rfl) (by kernel_rfl) (by kernel_rfl) ?_ | refine AM.drawW_loose (id := 30) hp (by kernel_rfl) (by kernel_rfl) ?_ | refine AM.opW_tied (by kernel_rfl) ?_ | refine AM.opW_untied (by kernel_rfl) ?_))
      refine moves_w xD ?_
    case' inr =>
      rw [e, if_neg (by decide)] at hm'
      have hm2 := hm'.symm
      subst hm2
      rw [e, if_neg (by decide)]
      (repeat' (first | (simp (maxSteps := 1000000) (disch := first | omega | (simp only [AM.DB, List.length_set, List.length_map]; first | done | omega)) only [AM.RB, Nat.reduceAdd, Nat.reduceMul, Nat.reduceEqDiff, reduceCtorEq, b4_FS1, d00, d220, d01, AM.wrap_i64]) | refine AM.drawW_fine (id := 10) hp (by kernel_rfl) (by kernel_rfl) (by kernel_rfl) ?_ | refine AM.drawW_fine (id := 16) hp (by kernel_rfl) (by kernel_rfl) (by kernel_rfl) ?_ | refine AM.drawW_fine (id := 18) hp (by kernel_rfl) (by kernel_rfl) (by kernel_rfl) ?_ | refine AM.drawW_loose (id := 30) hp (by kernel_rfl) (by kernel_rfl) ?_ | refine AM.opW_tied (by kernel_rfl) ?_ | refine AM.opW_untied (by kernel_rfl) ?_))
      refine moves_w xD ?_
    all_goals (
      (repeat' (first | (simp (maxSteps := 1000000) (disch := first | omega | (simp only [AM.DB, List.length_set, List.length_map]; first | done | omega)) only [AM.RB, Nat.reduceAdd, Nat.reduceMul, Nat.reduceEqDiff, reduceCtorEq, b4_FS1, dmm]) | refine AM.drawW_fine (id := 10) hp (by kernel_rfl) (by kernel_rfl) (by kernel_rfl) ?_ | refine AM.drawW_fine (id := 16) hp (by kernel_rfl) (by kernel_rfl) (by kernel_rfl) ?_ | refine AM.drawW_fine (id := 18) hp (by kernel_rfl) (by kernel_rfl) (by kernel_rfl) ?_ | refine AM.drawW_loose (id := 30) hp (by kernel_rfl) (by kernel_rfl) ?_ | refine AM.opW_tied (by kernel_rfl) ?_ | refine AM.opW_untied (by kernel_rfl) ?_))
      generalize hE_ : AHeap.alloc hD _ = hE; obtain ⟨gE, frE, nE, lE⟩ := AM.new_get hE_; clear hE_
      have nxE := frE.next
      have lwE := frE.low
      have xE := xD.fresh frE
      have rE := rD.fr0 frE
      have rlt : ∀ id, idOf (.slice na P.length nc) id → id < hD.next := fun id a => rD.lt a
      have okB' := okB
      refine AM.loop_w hp 192 (fun k : Nat => [(1, .slice pa P.length pc), (2, .slice ma M.length mc), (7, .bool true), (8, pv q), (9, pv p), (11, .int .i64 m'), (14, .slice na P.length nc), (17, .map (some hD.next)), (41, .int .i64 M.length), (42, .int .i64 i), (134, .int .i64 P.length), (135, .int .i64 k)])
        (fun k h' => k ≤ P.length ∧ Fr (fun id => id = hD.next) hE h' ∧ ∃ ml, h'.get hD.next = some (.map (encM ml)) ∧ ∀ z, mgetL ml z ≠ none → ∃ t, t < k ∧ (movF L Pc r c).getD t 0 = z) (fun k => P.length - k) (by kernel_rfl) 0 ?_ ?_ ?_
      · simp (maxSteps := 1000000) (disch := first | omega | (simp only [AM.DB, List.length_set, List.length_map]; first | done | omega)) only [AM.RB, Nat.reduceAdd, Nat.reduceMul, Nat.reduceEqDiff, reduceCtorEq, b4_FS1]
        first | rfl | skip
      · exact ⟨Nat.zero_le _, Fr.refl _ _, [], gE, fun z q => absurd rfl q⟩
      rintro k3 hF ρ ⟨hk3, frF, ml, gM, hml⟩
      have nxF := frF.next
      have lwF := frF.low
      have rF := rE.fr frF (fun id a e => by have := rlt id a; have e : id = hD.next := e; omega)
      have xF := xE.frB frF (fun id e => .inr (by have e : id = hD.next := e; omega))
      simp (maxSteps := 1000000) (disch := first | omega | (simp only [AM.DB, List.length_set, List.length_map]; first | done | omega)) only [AM.RB, Nat.reduceAdd, Nat.reduceMul, Nat.reduceEqDiff, reduceCtorEq, b4_FS1]
      refine AM.condV_split (fun hltr => ?_) (fun hltr => ?_)
      · have hrl : k3 < P.length := by omega
        obtain ⟨a, ea, hal⟩ := okB.cell (i := k3) (by omega)
        have hwho := okB.who (i := k3) (by omega)
        have hfr := okB.free k3 (by omega)
        rw [ea] at hwho hfr
        have hno : mgetL ml (a : Int) = none := by
          cases e : mgetL ml (a : Int) with
          | none => rfl
          | some w =>
            obtain ⟨t, ht, et⟩ := hml a (by rw [e]; simp)
            have := okB.apart t k3 (by omega) (by omega) (by rw [et, ea])
            omega
        have g0 : (mgetL ml (a : Int)).getD (.int .i64 0) = .int .i64 0 := by rw [hno]; rfl
        (repeat' (first | (simp (maxSteps := 1000000) (disch := first | omega | (simp only [AM.DB, List.length_set, List.length_map]; first | done | omega)) only [AM.RB, Nat.reduceAdd, Nat.reduceMul, Nat.reduceEqDiff, reduceCtorEq, b4_FS1, rF.ia el_22, Rd.ldi rF lk_3, Int.toNat_natCast, ea, AM.lookup_enc mp_40 gM, g0, Int.zero_add, AM.wrap_i64, AM.update_enc mp_40 gM (by omega)]) | refine AM.drawW_fine (id := 10) hp (by kernel_rfl) (by kernel_rfl) (by kernel_rfl) ?_ | refine AM.drawW_fine (id := 16) hp (by kernel_rfl) (by kernel_rfl) (by kernel_rfl) ?_ | refine AM.drawW_fine (id := 18) hp (by kernel_rfl) (by kernel_rfl) (by kernel_rfl) ?_ | refine AM.drawW_loose (id := 30) hp (by kernel_rfl) (by kernel_rfl) ?_ | refine AM.opW_tied (by kernel_rfl) ?_ | refine AM.opW_untied (by kernel_rfl) ?_))
        generalize hE_ : AHeap.put hF _ _ = hG; obtain ⟨gG, frG, nG, lG⟩ := AM.put_get hE_ (AM.get_some_lt gM); clear hE_
        have rG := rF.fr frG (fun id a e => by have := rlt id a; have e : id = hD.next := e; omega)
        have xG := xF.frB frG (fun id e => .inr (by have e : id = hD.next := e; omega))
        have g1 : (mgetL (msetL ml (a : Int) (.int .i64 1)) (a : Int)).getD (.int .i64 0) = .int .i64 1 := by rw [AM.mget_set, if_pos rfl]; rfl
        have dl1 : decide ((1 : Int) < 1) = false := rfl
        obtain ⟨aa', ac', gq', oq', _, _, _, mG⟩ := id xG
        obtain ⟨_, _, mmG⟩ := mG.mp
        (repeat' (first | (simp (maxSteps := 1000000) (disch := first | omega | (simp only [AM.DB, List.length_set, List.length_map]; first | done | omega)) only [AM.RB, Nat.reduceAdd, Nat.reduceMul, Nat.reduceEqDiff, reduceCtorEq, b4_FS1, rG.ia el_22, Rd.ldi rG lk_3, Int.toNat_natCast, ea, AM.lookup_enc mp_40 gG, g1, dl1]) | refine AM.drawW_fine (id := 10) hp (by kernel_rfl) (by kernel_rfl) (by kernel_rfl) ?_ | refine AM.drawW_fine (id := 16) hp (by kernel_rfl) (by kernel_rfl) (by kernel_rfl) ?_ | refine AM.drawW_fine (id := 18) hp (by kernel_rfl) (by kernel_rfl) (by kernel_rfl) ?_ | refine AM.drawW_loose (id := 30) hp (by kernel_rfl) (by kernel_rfl) ?_ | refine AM.opW_tied (by kernel_rfl) ?_ | refine AM.opW_untied (by kernel_rfl) ?_))
        refine free_w mmG f.rows _ _ ?_
        rw [hfr]
        (repeat' (first | (simp (maxSteps := 1000000) (disch := first | omega | (simp only [AM.DB, List.length_set, List.length_map]; first | done | omega)) only [AM.RB, Nat.reduceAdd, Nat.reduceMul, Nat.reduceEqDiff, reduceCtorEq, b4_FS1, rG.ia el_22, Rd.ldi rG lk_3, Int.toNat_natCast, ea]) | refine AM.drawW_fine (id := 10) hp (by kernel_rfl) (by kernel_rfl) (by kernel_rfl) ?_ | refine AM.drawW_fine (id := 16) hp (by kernel_rfl) (by kernel_rfl) (by kernel_rfl) ?_ | refine AM.drawW_fine (id := 18) hp (by kernel_rfl) (by kernel_rfl) (by kernel_rfl) ?_ | refine AM.drawW_loose (id := 30) hp (by kernel_rfl) (by kernel_rfl) ?_ | refine AM.opW_tied (by kernel_rfl) ?_ | refine AM.opW_untied (by kernel_rfl) ?_))
        refine who_w gq' oq'.rd (by omega) (by omega) _ fun hH frH => ?_
        rw [hwho]
        have rH := rG.fr0 frH
        have xH := xG.fr0 frH
        have hat : atF (movF L Pc r c) (k3 : Int) = a := by unfold atF; rw [if_pos (by omega), Int.toNat_natCast, ea]
        (repeat' (first | (simp (maxSteps := 1000000) (disch := first | omega | (simp only [AM.DB, List.length_set, List.length_map]; first | done | omega)) only [AM.RB, Nat.reduceAdd, Nat.reduceMul, Nat.reduceEqDiff, reduceCtorEq, b4_FS1, eqself]) | refine AM.drawW_fine (id := 10) hp (by kernel_rfl) (by kernel_rfl) (by kernel_rfl) ?_ | refine AM.drawW_fine (id := 16) hp (by kernel_rfl) (by kernel_rfl) (by kernel_rfl) ?_ | refine AM.drawW_fine (id := 18) hp (by kernel_rfl) (by kernel_rfl) (by kernel_rfl) ?_ | refine AM.drawW_loose (id := 30) hp (by kernel_rfl) (by kernel_rfl) ?_ | refine AM.opW_tied (by kernel_rfl) ?_ | refine AM.opW_untied (by kernel_rfl) ?_))
        refine at_w xH (by omega) _ ?_
        rw [hat]
        (repeat' (first | (simp (maxSteps := 1000000) (disch := first | omega | (simp only [AM.DB, List.length_set, List.length_map]; first | done | omega)) only [AM.RB, Nat.reduceAdd, Nat.reduceMul, Nat.reduceEqDiff, reduceCtorEq, b4_FS1, rH.ia el_22, Rd.ldi rH lk_3, Int.toNat_natCast, ea, eqself, AM.wrap_i64]) | refine AM.drawW_fine (id := 10) hp (by kernel_rfl) (by kernel_rfl) (by kernel_rfl) ?_ | refine AM.drawW_fine (id := 16) hp (by kernel_rfl) (by kernel_rfl) (by kernel_rfl) ?_ | refine AM.drawW_fine (id := 18) hp (by kernel_rfl) (by kernel_rfl) (by kernel_rfl) ?_ | refine AM.drawW_loose (id := 30) hp (by kernel_rfl) (by kernel_rfl) ?_ | refine AM.opW_tied (by kernel_rfl) ?_ | refine AM.opW_untied (by kernel_rfl) ?_))
        refine ⟨AM.looseOk_by [(33, [23, 30])] (by kernel_rfl) ?_, ?_⟩
        · simp (maxSteps := 1000000) (disch := first | omega | (simp only [AM.DB, List.length_set, List.length_map]; first | done | omega)) only [AM.RB, Nat.reduceAdd, Nat.reduceMul, Nat.reduceEqDiff, reduceCtorEq, b4_FS1]
          all_goals ((repeat' apply And.intro) <;> (first | (refine AM.stable_len _ _ _ _ _ _ (fun _ => ?_); (simp (maxSteps := 1000000) (disch := first | omega | (simp only [AM.DB, List.length_set, List.length_map]; first | done | omega)) only [AM.RB, Nat.reduceAdd, Nat.reduceMul, Nat.reduceEqDiff, reduceCtorEq, b4_FS1, rG.ia el_22, Rd.ldi rG lk_3, rH.ia el_22, Rd.ldi rH lk_3, Int.toNat_natCast, ea])) | (refine AM.stable_load _ _ _ _ _ _ ?_; (first | (simp (maxSteps := 1000000) (disch := first | omega | (simp only [AM.DB, List.length_set, List.length_map]; first | done | omega)) only [AM.RB, Nat.reduceAdd, Nat.reduceMul, Nat.reduceEqDiff, reduceCtorEq, b4_FS1, rG.ia el_22, Rd.ldi rG lk_3, rH.ia el_22, Rd.ldi rH lk_3, Int.toNat_natCast, ea]) | skip); (first | (refine AM.stabL_int (by omega) ?_; (simp (maxSteps := 1000000) (disch := first | omega | (simp only [AM.DB, List.length_set, List.length_map]; first | done | omega)) only [AM.RB, Nat.reduceAdd, Nat.reduceMul, Nat.reduceEqDiff, reduceCtorEq, b4_FS1, rG.ia el_22, Rd.ldi rG lk_3, rH.ia el_22, Rd.ldi rH lk_3, Int.toNat_natCast, ea])) | (refine AM.stabL_ptr (by omega) (by omega) ?_; (simp (maxSteps := 1000000) (disch := first | omega | (simp only [AM.DB, List.length_set, List.length_map]; first | done | omega)) only [AM.RB, Nat.reduceAdd, Nat.reduceMul, Nat.reduceEqDiff, reduceCtorEq, b4_FS1, rG.ia el_22, Rd.ldi rG lk_3, rH.ia el_22, Rd.ldi rH lk_3, Int.toNat_natCast, ea])) | (refine AM.stabL_string (by omega) ?_; (simp (maxSteps := 1000000) (disch := first | omega | (simp only [AM.DB, List.length_set, List.length_map]; first | done | omega)) only [AM.RB, Nat.reduceAdd, Nat.reduceMul, Nat.reduceEqDiff, reduceCtorEq, b4_FS1, rG.ia el_22, Rd.ldi rG lk_3, rH.ia el_22, Rd.ldi rH lk_3, Int.toNat_natCast, ea])) | (refine AM.stabL_bool (by omega) ?_; (simp (maxSteps := 1000000) (disch := first | omega | (simp only [AM.DB, List.length_set, List.length_map]; first | done | omega)) only [AM.RB, Nat.reduceAdd, Nat.reduceMul, Nat.reduceEqDiff, reduceCtorEq, b4_FS1, rG.ia el_22, Rd.ldi rG lk_3, rH.ia el_22, Rd.ldi rH lk_3, Int.toNat_natCast, ea])) | (refine AM.stabL_rd rG (by omega) (by omega) ?_; (simp (maxSteps := 1000000) (disch := first | omega | (simp only [AM.DB, List.length_set, List.length_map]; first | done | omega)) only [AM.RB, Nat.reduceAdd, Nat.reduceMul, Nat.reduceEqDiff, reduceCtorEq, b4_FS1, rG.ia el_22, Rd.ldi rG lk_3, rH.ia el_22, Rd.ldi rH lk_3, Int.toNat_natCast, ea])) | (refine AM.stabL_rd rH (by omega) (by omega) ?_; (simp (maxSteps := 1000000) (disch := first | omega | (simp only [AM.DB, List.length_set, List.length_map]; first | done | omega)) only [AM.RB, Nat.reduceAdd, Nat.reduceMul, Nat.reduceEqDiff, reduceCtorEq, b4_FS1, rG.ia el_22, Rd.ldi rG lk_3, rH.ia el_22, Rd.ldi rH lk_3, Int.toNat_natCast, ea])) | (refine AM.stabL_elS rG (by omega) (by omega) ?_; (simp (maxSteps := 1000000) (disch := first | omega | (simp only [AM.DB, List.length_set, List.length_map]; first | done | omega)) only [AM.RB, Nat.reduceAdd, Nat.reduceMul, Nat.reduceEqDiff, reduceCtorEq, b4_FS1, rG.ia el_22, Rd.ldi rG lk_3, rH.ia el_22, Rd.ldi rH lk_3, Int.toNat_natCast, ea])) | (refine AM.stabL_elI rG (by omega) (by omega) ?_; (simp (maxSteps := 1000000) (disch := first | omega | (simp only [AM.DB, List.length_set, List.length_map]; first | done | omega)) only [AM.RB, Nat.reduceAdd, Nat.reduceMul, Nat.reduceEqDiff, reduceCtorEq, b4_FS1, rG.ia el_22, Rd.ldi rG lk_3, rH.ia el_22, Rd.ldi rH lk_3, Int.toNat_natCast, ea])) | (refine AM.stabL_elS rH (by omega) (by omega) ?_; (simp (maxSteps := 1000000) (disch := first | omega | (simp only [AM.DB, List.length_set, List.length_map]; first | done | omega)) only [AM.RB, Nat.reduceAdd, Nat.reduceMul, Nat.reduceEqDiff, reduceCtorEq, b4_FS1, rG.ia el_22, Rd.ldi rG lk_3, rH.ia el_22, Rd.ldi rH lk_3, Int.toNat_natCast, ea])) | (refine AM.stabL_elI rH (by omega) (by omega) ?_; (simp (maxSteps := 1000000) (disch := first | omega | (simp only [AM.DB, List.length_set, List.length_map]; first | done | omega)) only [AM.RB, Nat.reduceAdd, Nat.reduceMul, Nat.reduceEqDiff, reduceCtorEq, b4_FS1, rG.ia el_22, Rd.ldi rG lk_3, rH.ia el_22, Rd.ldi rH lk_3, Int.toNat_natCast, ea]))))))
        (repeat' (first | (simp (maxSteps := 1000000) (disch := first | omega | (simp only [AM.DB, List.length_set, List.length_map]; first | done | omega)) only [AM.RB, Nat.reduceAdd, Nat.reduceMul, Nat.reduceEqDiff, reduceCtorEq, b4_FS1, AM.wrap_i64]) | refine AM.drawW_fine (id := 10) hp (by kernel_rfl) (by kernel_rfl) (by kernel_rfl) ?_ | refine AM.drawW_fine (id := 16) hp (by kernel_rfl) (by kernel_rfl) (by kernel_rfl) ?_ | refine AM.drawW_fine (id := 18) hp (by kernel_rfl) (by kernel_rfl) (by kernel_rfl) ?_ | refine AM.drawW_loose (id := 30) hp (by kernel_rfl) (by kernel_rfl) ?_ | refine AM.opW_tied (by kernel_rfl) ?_ | refine AM.opW_untied (by kernel_rfl) ?_))
        refine ⟨k3 + 1, by omega, congrArg _ (by omega), by omega, (frF.trans frG).trans (frH.mono fun _ _ t => t.elim), _, gG.fr0 frH, fun z qz => ?_⟩
        rw [AM.mget_set] at qz
        by_cases ez : z = (a : Int)
        · exact ⟨k3, by omega, by rw [ez, ea]⟩
        · rw [if_neg ez] at qz
          obtain ⟨t, ht, et⟩ := hml z qz
          exact ⟨t, by omega, et⟩
      · (repeat' (first | (simp (maxSteps := 1000000) (disch := first | omega | (simp only [AM.DB, List.length_set, List.length_map]; first | done | omega)) only [AM.RB, Nat.reduceAdd, Nat.reduceMul, Nat.reduceEqDiff, reduceCtorEq, b4_FS1, AM.wrap_i64]) | refine AM.drawW_fine (id := 10) hp (by kernel_rfl) (by kernel_rfl) (by kernel_rfl) ?_ | refine AM.drawW_fine (id := 16) hp (by kernel_rfl) (by kernel_rfl) (by kernel_rfl) ?_ | refine AM.drawW_fine (id := 18) hp (by kernel_rfl) (by kernel_rfl) (by kernel_rfl) ?_ | refine AM.drawW_loose (id := 30) hp (by kernel_rfl) (by kernel_rfl) ?_ | refine AM.opW_tied (by kernel_rfl) ?_ | refine AM.opW_untied (by kernel_rfl) ?_))
        refine ⟨(i + 1, na, nc, m'), by simp only; omega, ⟨rfl, rfl, congrArg _ (by simp only; omega)⟩, by simp only; omega, by simp only; omega, ?_, movF L Pc r c, _, by rw [hBl, hPl], okB, xF, rF, fun id a => .inl (.inr ⟨hidC id a, oC.lt a⟩), fun id a => .inl (.inl (bB id a))⟩
        exact ((fC.trans (frD.mono fun id _ e b => by have e : id = p := e; omega)).trans (frE.mono fun _ _ t => t.elim)).trans (frF.mono fun id _ e b => by have e : id = hD.next := e; omega))
  · (repeat' (first | (simp (maxSteps := 1000000) (disch := first | omega | (simp only [AM.DB, List.length_set, List.length_map]; first | done | omega)) only [AM.RB, Nat.reduceAdd, Nat.reduceMul, Nat.reduceEqDiff, reduceCtorEq, b4_FS1]) | refine AM.drawW_fine (id := 10) hp (by kernel_rfl) (by kernel_rfl) (by kernel_rfl) ?_ | refine AM.drawW_fine (id := 16) hp (by kernel_rfl) (by kernel_rfl) (by kernel_rfl) ?_ | refine AM.drawW_fine (id := 18) hp (by kernel_rfl) (by kernel_rfl) (by kernel_rfl) ?_ | refine AM.drawW_loose (id := 30) hp (by kernel_rfl) (by kernel_rfl) ?_ | refine AM.opW_tied (by kernel_rfl) ?_ | refine AM.opW_untied (by kernel_rfl) ?_))

end Go.Proofs.YtbaohngkapmhlaaDoor
