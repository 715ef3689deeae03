/- Walks over numbers, distances, heaps of items, searches: plain. -/
import Derived.Test.YtgdcbjpookldoaaDoorAMOps10
import Derived.Test.YtgdcbjpookldoaaDoorAMOps6
set_option linter.unusedSimpArgs false
set_option linter.unusedVariables false
/- Plain: walks, distances, and what a search by breadth tells. -/
namespace Go.AM

/-- There is a walk of so many steps. -/
inductive Wk (N : Int → List Int) (r : Int) : Nat → Int → Prop
  | zero : Wk N r 0 r
  | step {k : Nat} {b c : Int} (h : Wk N r k b) (hc : c ∈ N b) : Wk N r (k + 1) c
def isD (N : Int → List Int) (r b : Int) (d : Nat) : Prop := Wk N r d b ∧ ∀ e, e < d → ¬ Wk N r e b
theorem isD.uniq {N : Int → List Int} {r b : Int} {d e : Nat} (h : isD N r b d) (k : isD N r b e) : d = e := by
  rcases Nat.lt_trichotomy d e with q | q | q
  · exact absurd h.1 (k.2 d q)
  · exact q
  · exact absurd k.1 (h.2 e q)
theorem isD.le {N : Int → List Int} {r b : Int} {d e : Nat} (h : isD N r b d) (k : Wk N r e b) : d ≤ e := by
  rcases Nat.lt_or_ge e d with q | q
  · exact absurd k (h.2 e q)
  · exact q
theorem Wk.least {N : Int → List Int} {r b : Int} : ∀ {k : Nat}, Wk N r k b → ∃ d, d ≤ k ∧ isD N r b d := by
  intro k
  induction k using Nat.strongRecOn with
  | ind k ih =>
    intro h
    by_cases q : ∃ e, e < k ∧ Wk N r e b
    · obtain ⟨e, h1, h2⟩ := q
      obtain ⟨d, h3, h4⟩ := ih e h1 h2
      exact ⟨d, by omega, h4⟩
    · exact ⟨k, Nat.le_refl _, h, fun e he w => q ⟨e, he, w⟩⟩
theorem Wk.congr {N M : Int → List Int} {r : Int} {ok : Int → Prop} (hr : ok r) (hN : ∀ b, ok b → ∀ c, c ∈ N b → c ∈ M b ∧ ok c) : ∀ {k : Nat} {b : Int}, Wk N r k b → Wk M r k b ∧ ok b := by
  intro k b h
  induction h with
  | zero => exact ⟨.zero, hr⟩
  | step _ hc ih => exact ⟨.step ih.1 (hN _ ih.2 _ hc).1, (hN _ ih.2 _ hc).2⟩
theorem Wk.ok {N : Int → List Int} {r : Int} {ok : Int → Prop} (hr : ok r) (hN : ∀ b, ok b → ∀ c, c ∈ N b → ok c) {k : Nat} {b : Int} (h : Wk N r k b) : ok b :=
  (Wk.congr (M := N) hr (fun b hb c hc => ⟨hc, hN b hb c hc⟩) h).2
theorem Wk.trans {N : Int → List Int} {r s : Int} {j : Nat} (h : Wk N r j s) : ∀ {k : Nat} {b : Int}, Wk N s k b → Wk N r (j + k) b := by
  intro k b w
  induction w with
  | zero => exact h
  | step _ hc ih => exact .step ih hc
theorem Wk.head {N : Int → List Int} {r s b : Int} {k : Nat} (hs : s ∈ N r) (h : Wk N s k b) : Wk N r (k + 1) b := by
  have := Wk.trans (.step .zero hs) h
  rwa [Nat.zero_add, Nat.add_comm] at this
/-- The last step. -/
theorem Wk.last {N : Int → List Int} {r b : Int} {k : Nat} (h : Wk N r (k + 1) b) : ∃ c, Wk N r k c ∧ b ∈ N c := by
  cases h with
  | step h hc => exact ⟨_, h, hc⟩
/-- All are distances: -1 where none goes. -/
structure IsDist (N : Int → List Int) (n : Nat) (r : Int) (f : List Int) : Prop where
  len : f.length = n
  yes : ∀ b : Int, 0 ≤ b → b < n → 0 ≤ f.getD b.toNat 0 → isD N r b (f.getD b.toNat 0).toNat
  no : ∀ b : Int, 0 ≤ b → b < n → f.getD b.toNat 0 < 0 → f.getD b.toNat 0 = -1 ∧ ∀ k, ¬ Wk N r k b
theorem IsDist.uniq {N : Int → List Int} {n : Nat} {r : Int} {f g : List Int} (hf : IsDist N n r f) (hg : IsDist N n r g) : f = g := by
  refine List.ext_getElem (by rw [hf.len, hg.len]) fun i h1 h2 => ?_
  have e1 : f.getD i 0 = f[i] := by simp [List.getD, h1]
  have e2 : g.getD i 0 = g[i] := by simp [List.getD, h2]
  have hi : i < n := by rw [← hf.len]; exact h1
  rw [← e1, ← e2]
  have ti : ((i : Nat) : Int).toNat = i := Int.toNat_natCast i
  by_cases c1 : 0 ≤ f.getD i 0 <;> by_cases c2 : 0 ≤ g.getD i 0
  · have a := hf.yes i (by omega) (by omega) (by rw [ti]; exact c1)
    have b := hg.yes i (by omega) (by omega) (by rw [ti]; exact c2)
    rw [ti] at a b
    have := a.uniq b
    omega
  · have a := hf.yes i (by omega) (by omega) (by rw [ti]; exact c1)
    have b := hg.no i (by omega) (by omega) (by rw [ti]; omega)
    exact absurd a.1 (b.2 _)
  · have a := hf.no i (by omega) (by omega) (by rw [ti]; omega)
    have b := hg.yes i (by omega) (by omega) (by rw [ti]; exact c2)
    exact absurd b.1 (a.2 _)
  · have a := hf.no i (by omega) (by omega) (by rw [ti]; omega)
    have b := hg.no i (by omega) (by omega) (by rw [ti]; omega)
    rw [ti] at a b
    rw [a.1, b.1]
theorem IsDist.congr {N M : Int → List Int} {n : Nat} {r : Int} {f : List Int} (hf : IsDist N n r f) (h : ∀ k b, Wk N r k b ↔ Wk M r k b) : IsDist M n r f :=
  ⟨hf.len, fun b h0 h1 h2 => ⟨(h _ _).1 (hf.yes b h0 h1 h2).1, fun e he w => (hf.yes b h0 h1 h2).2 e he ((h _ _).2 w)⟩, fun b h0 h1 h2 => ⟨(hf.no b h0 h1 h2).1, fun k w => (hf.no b h0 h1 h2).2 k ((h _ _).2 w)⟩⟩

/-! ### The search -/
def visitL (d : Int) : List Int → List Int × List Int → List Int × List Int
  | [], s => s
  | b :: l, s => visitL d l (if 0 ≤ s.1.getD b.toNat 0 then s else (s.1.set b.toNat (d + 1), s.2 ++ [b]))
def bfsL (N : Int → List Int) : Nat → List Int × List Int → List (Int × Int)
  | 0, _ => []
  | _ + 1, (_, []) => []
  | k + 1, (far, a :: todo) => (a, far.getD a.toNat 0) :: bfsL N k (visitL (far.getD a.toNat 0) (N a) (far, todo))

structure Bf (N : Int → List Int) (n : Nat) (r : Int) (P C T far : List Int) : Prop where
  len : far.length = n
  dom : ∀ b ∈ P ++ C ++ T, 0 ≤ b ∧ b < n
  vis : ∀ b : Int, 0 ≤ b → b < n → (0 ≤ far.getD b.toNat 0 ↔ b ∈ P ++ C ++ T)
  dist : ∀ b ∈ P ++ C ++ T, isD N r b (far.getD b.toNat 0).toNat
  nd : (P ++ C ++ T).Nodup
  full : ∀ b ∈ P, ∀ c ∈ N b, c ∈ P ++ C ++ T
  root : r ∈ P ++ C ++ T
  mono : (P ++ C ++ T).Pairwise fun x y => far.getD x.toNat 0 ≤ far.getD y.toNat 0
  near : ∀ x ∈ C ++ T, ∀ y ∈ C ++ T, far.getD y.toNat 0 ≤ far.getD x.toNat 0 + 1
  una : ∀ i : Nat, i < n → far.getD i 0 < 0 → far.getD i 0 = -1

theorem getD_set (l : List Int) (i j : Nat) (v : Int) (hj : j < l.length) : (l.set i v).getD j 0 = if i = j then v else l.getD j 0 := by
  simp only [List.getD, List.getElem?_set]
  by_cases e : i = j
  · subst e; simp [hj]
  · simp [e]
theorem Bf.init (N : Int → List Int) (n : Nat) (r : Int) (h0 : 0 ≤ r) (h1 : r < n) : Bf N n r [] [] [r] ((List.replicate n (-1)).set r.toNat 0) := by
  have hget : ∀ i : Nat, i < n → ((List.replicate n (-1 : Int)).set r.toNat 0).getD i 0 = if r.toNat = i then 0 else -1 := fun i hi => by
    rw [getD_set _ _ _ _ (by simpa using hi)]
    by_cases e : r.toNat = i
    · rw [if_pos e, if_pos e]
    · rw [if_neg e, if_neg e]; simp [List.getD, hi]
  refine ⟨by simp, fun b hb => by simp at hb; subst hb; exact ⟨h0, h1⟩, fun b b0 b1 => ?_, fun b hb => ?_, by simp, fun b hb => by simp at hb, by simp, by simp, fun x hx y hy => ?_, fun i hi h => ?_⟩
  · rw [hget b.toNat (by omega)]
    simp only [List.nil_append, List.mem_singleton]
    by_cases e : b = r
    · subst e; simp
    · rw [if_neg (by omega)]; simp [e]
  · simp at hb; subst hb
    rw [hget b.toNat (by omega), if_pos rfl]
    exact ⟨.zero, fun e he => by simp at he⟩
  · simp at hx hy; subst hx; subst hy; omega
  · rw [hget i hi] at h ⊢
    split
    · rename_i e; rw [if_pos e] at h; omega
    · rfl
theorem Bf.pop {N : Int → List Int} {n : Nat} {r a : Int} {P T far : List Int} (x : Bf N n r P [] (a :: T) far) : Bf N n r P [a] T far := by
  have e : P ++ [] ++ a :: T = P ++ [a] ++ T := by simp
  have x' := x
  obtain ⟨h1, h2, h3, h4, h5, h6, h7, h8, h9, h10⟩ := x
  rw [e] at h2 h4 h5 h7 h8
  exact ⟨h1, h2, fun b b0 b1 => by rw [← e]; exact h3 b b0 b1, h4, h5, fun b hb c hc => by rw [← e]; exact h6 b hb c hc, h7, h8, h9, h10⟩
theorem Bf.done {N : Int → List Int} {n : Nat} {r a : Int} {P T far : List Int} (x : Bf N n r P [a] T far) (hf : ∀ c ∈ N a, c ∈ P ++ [a] ++ T) : Bf N n r (P ++ [a]) [] T far := by
  have e : P ++ [a] ++ [] ++ T = P ++ [a] ++ T := by simp
  obtain ⟨h1, h2, h3, h4, h5, h6, h7, h8, h9, h10⟩ := x
  refine ⟨h1, by rw [e]; exact h2, by rw [e]; exact h3, by rw [e]; exact h4, by rw [e]; exact h5, ?_, by rw [e]; exact h7, by rw [e]; exact h8, fun x hx y hy => h9 x (by simp at hx ⊢; exact .inr hx) y (by simp at hy ⊢; exact .inr hy), h10⟩
  intro b hb c hc
  rw [e]
  rcases List.mem_append.1 hb with hb | hb
  · exact h6 b hb c hc
  · simp at hb; subst hb; exact hf c hc
/-- Whoever is nearer than the one that is gone through has been gone through. -/
theorem Bf.ahead {N : Int → List Int} {n : Nat} {r a : Int} {P T far : List Int} (x : Bf N n r P [a] T far) (hN : ∀ b : Int, 0 ≤ b ∧ b < n → ∀ c ∈ N b, 0 ≤ c ∧ c < n) : ∀ (e : Nat), e < (far.getD a.toNat 0).toNat → ∀ p, Wk N r e p → p ∈ P := by
  have hr := x.dom r x.root
  have split : ∀ p, p ∈ P ++ [a] ++ T → p ∈ P ∨ far.getD a.toNat 0 ≤ far.getD p.toNat 0 := fun p hp => by
    rw [List.append_assoc] at hp
    rcases List.mem_append.1 hp with hp | hp
    · exact .inl hp
    · refine .inr ?_
      rcases List.mem_append.1 hp with hp | hp
      · simp at hp; subst hp; exact Int.le_refl _
      · have hm := x.mono
        exact (List.pairwise_append.1 hm).2.2 a (by simp) p hp
  intro e
  induction e with
  | zero =>
    intro he p hw
    cases hw
    rcases split _ x.root with h | h
    · exact h
    · exfalso
      have hd := x.dist _ x.root
      have h0 : (far.getD r.toNat 0).toNat ≤ 0 := hd.le .zero
      omega
  | succ e ih =>
    intro he p hw
    obtain ⟨q, hq, hpq⟩ := hw.last
    have hqP := ih (by omega) q hq
    have hpv := x.full q hqP p hpq
    rcases split p hpv with h | h
    · exact h
    · exfalso
      have hd := (x.dist p hpv).le hw
      omega
theorem Bf.new {N : Int → List Int} {n : Nat} {r a b : Int} {P T far : List Int} (x : Bf N n r P [a] T far) (hN : ∀ b : Int, 0 ≤ b ∧ b < n → ∀ c ∈ N b, 0 ≤ c ∧ c < n) (hb : b ∈ N a) (hv : ¬ 0 ≤ far.getD b.toNat 0) :
    Bf N n r P [a] (T ++ [b]) (far.set b.toNat (far.getD a.toNat 0 + 1)) := by
  have ha : a ∈ P ++ [a] ++ T := by simp
  have had := x.dom a ha
  have hbd := hN a had b hb
  have hnot : b ∉ P ++ [a] ++ T := fun q => hv ((x.vis b hbd.1 hbd.2).2 q)
  have e : P ++ [a] ++ (T ++ [b]) = (P ++ [a] ++ T) ++ [b] := by simp
  have fa : 0 ≤ far.getD a.toNat 0 := (x.vis a had.1 had.2).2 ha
  have same : ∀ c : Int, 0 ≤ c → c < n → c ≠ b → (far.set b.toNat (far.getD a.toNat 0 + 1)).getD c.toNat 0 = far.getD c.toNat 0 := fun c c0 c1 hc => by
    rw [getD_set _ _ _ _ (by rw [x.len]; omega), if_neg (by omega)]
  have sameM : ∀ c, c ∈ P ++ [a] ++ T → (far.set b.toNat (far.getD a.toNat 0 + 1)).getD c.toNat 0 = far.getD c.toNat 0 := fun c hc =>
    same c (x.dom c hc).1 (x.dom c hc).2 (fun q => hnot (q ▸ hc))
  have atb : (far.set b.toNat (far.getD a.toNat 0 + 1)).getD b.toNat 0 = far.getD a.toNat 0 + 1 := by
    rw [getD_set _ _ _ _ (by rw [x.len]; omega), if_pos rfl]
  have top : ∀ c, c ∈ P ++ [a] ++ T → far.getD c.toNat 0 ≤ far.getD a.toNat 0 + 1 := fun c hc => by
    rw [List.append_assoc] at hc
    rcases List.mem_append.1 hc with hc | hc
    · have hm := x.mono
      rw [List.append_assoc] at hm
      have := (List.pairwise_append.1 hm).2.2 c hc a (by simp)
      omega
    · exact x.near a (by simp) c hc
  have low : ∀ c, c ∈ [a] ++ T → far.getD a.toNat 0 ≤ far.getD c.toNat 0 := fun c hc => by
    rcases List.mem_append.1 hc with hc | hc
    · simp at hc; subst hc; exact Int.le_refl _
    · have hm := x.mono
      exact (List.pairwise_append.1 hm).2.2 a (by simp) c hc
  have hw : Wk N r ((far.getD a.toNat 0).toNat + 1) b := .step (x.dist a ha).1 hb
  refine ⟨by simpa using x.len, fun c hc => ?_, fun c c0 c1 => ?_, fun c hc => ?_, ?_, fun c hc d hd => ?_, ?_, ?_, fun c hc d hd => ?_, fun i hi h => ?_⟩
  · rw [e] at hc
    rcases List.mem_append.1 hc with hc | hc
    · exact x.dom c hc
    · simp at hc; subst hc; exact hbd
  · rw [e]
    by_cases q : c = b
    · subst q; rw [atb]; exact ⟨fun _ => by simp, fun _ => by omega⟩
    · rw [same c c0 c1 q, x.vis c c0 c1, List.mem_append (t := [b])]
      simp [q]
  · rw [e] at hc
    rcases List.mem_append.1 hc with hc | hc
    · rw [sameM c hc]; exact x.dist c hc
    · simp at hc; subst hc
      rw [atb]
      have et : (far.getD a.toNat 0 + 1).toNat = (far.getD a.toNat 0).toNat + 1 := by omega
      rw [et]
      refine ⟨hw, fun k hk w => ?_⟩
      cases k with
      | zero => cases w; exact hnot x.root
      | succ k =>
        obtain ⟨p, hp, hcp⟩ := w.last
        have := x.ahead hN k (by omega) p hp
        exact hnot (x.full p this c hcp)
  · rw [e, List.nodup_append]
    exact ⟨x.nd, by simp, fun c hc d hd q => by simp at hd; subst hd; exact hnot (q ▸ hc)⟩
  · rw [e]; exact List.mem_append_left _ (x.full c hc d hd)
  · rw [e]; exact List.mem_append_left _ x.root
  · rw [e, List.pairwise_append]
    refine ⟨x.mono.imp_of_mem fun {c d} hc hd h => by rw [sameM c hc, sameM d hd]; exact h, by simp, fun c hc d hd => ?_⟩
    simp at hd; subst hd
    rw [sameM c hc, atb]; exact top c hc
  · have hc' : c ∈ [a] ++ T ∨ c = b := by simp at hc ⊢; rcases hc with h | h | h; exact .inl (.inl h); exact .inl (.inr h); exact .inr h
    have hd' : d ∈ [a] ++ T ∨ d = b := by simp at hd ⊢; rcases hd with h | h | h; exact .inl (.inl h); exact .inl (.inr h); exact .inr h
    have up : ∀ c, c ∈ [a] ++ T → c ∈ P ++ [a] ++ T := fun c hc => by rw [List.append_assoc]; exact List.mem_append_right _ hc
    rcases hc' with hc2 | rfl <;> rcases hd' with hd2 | rfl
    · rw [sameM c (up c hc2), sameM d (up d hd2)]; exact x.near c hc2 d hd2
    · rw [sameM c (up c hc2), atb]; have := low c hc2; omega
    · rw [sameM d (up d hd2), atb]; have := top d (up d hd2); omega
    · rw [atb]; omega
  · have hb2 := x.len
    rw [getD_set _ _ _ _ (by omega)] at h ⊢
    split
    · rename_i q; rw [if_pos q] at h; omega
    · rename_i q; rw [if_neg q] at h; exact x.una i hi h

/-- What was seen stays. -/
theorem Bf.visit {N : Int → List Int} {n : Nat} {r a : Int} {P : List Int} (hN : ∀ b : Int, 0 ≤ b ∧ b < n → ∀ c ∈ N b, 0 ≤ c ∧ c < n) : ∀ (l : List Int) {T far : List Int}, Bf N n r P [a] T far → (∀ c ∈ l, c ∈ N a) →
    Bf N n r P [a] (visitL (far.getD a.toNat 0) l (far, T)).2 (visitL (far.getD a.toNat 0) l (far, T)).1 ∧ (∀ c ∈ l, c ∈ P ++ [a] ++ (visitL (far.getD a.toNat 0) l (far, T)).2) ∧ (∀ c ∈ T, c ∈ (visitL (far.getD a.toNat 0) l (far, T)).2) ∧
      ∀ c ∈ P ++ [a] ++ T, (visitL (far.getD a.toNat 0) l (far, T)).1.getD c.toNat 0 = far.getD c.toNat 0
  | [], T, far, x, _ => ⟨x, (fun c hc => by cases hc), (fun c hc => hc), fun c _ => rfl⟩
  | b :: l, T, far, x, hl => by
    have ha : a ∈ P ++ [a] ++ T := by simp
    have had := x.dom a ha
    have hb := hl b (by simp)
    have hbd := hN a had b hb
    unfold visitL
    by_cases hv : 0 ≤ far.getD b.toNat 0
    · rw [if_pos hv]
      obtain ⟨k1, k2, k3, k4⟩ := Bf.visit hN l x (fun c hc => hl c (List.mem_cons_of_mem _ hc))
      refine ⟨k1, fun c hc => ?_, k3, k4⟩
      rcases List.mem_cons.1 hc with rfl | hc
      · have := (x.vis c hbd.1 hbd.2).1 hv
        rcases List.mem_append.1 this with h | h
        · exact List.mem_append_left _ h
        · exact List.mem_append_right _ (k3 c h)
      · exact k2 c hc
    · rw [if_neg hv]
      have x2 := x.new hN hb hv
      have hnot : b ∉ P ++ [a] ++ T := fun q => hv ((x.vis b hbd.1 hbd.2).2 q)
      have ea : (far.set b.toNat (far.getD a.toNat 0 + 1)).getD a.toNat 0 = far.getD a.toNat 0 := by
        have : a ≠ b := fun q => hnot (q ▸ ha)
        rw [getD_set _ _ _ _ (by rw [x.len]; omega), if_neg (by omega)]
      obtain ⟨k1, k2, k3, k4⟩ := Bf.visit hN l x2 (fun c hc => hl c (List.mem_cons_of_mem _ hc))
      rw [ea] at k1 k2 k3 k4
      refine ⟨k1, fun c hc => ?_, fun c hc => k3 c (List.mem_append_left _ hc), fun c hc => ?_⟩
      · rcases List.mem_cons.1 hc with rfl | hc
        · exact List.mem_append_right _ (k3 c (by simp))
        · exact k2 c hc
      · rw [k4 c (by rw [← List.append_assoc]; exact List.mem_append_left _ hc)]
        have hcd := x.dom c hc
        have : c ≠ b := fun q => hnot (q ▸ hc)
        rw [getD_set _ _ _ _ (by rw [x.len]; omega), if_neg (by omega)]

/-- Numbers below n, each once, are n at most. -/
theorem nodup_len {n : Nat} {l : List Int} (hn : l.Nodup) (hd : ∀ b ∈ l, 0 ≤ b ∧ b < n) : l.length ≤ n := by
  have h1 : l.Perm (((List.range n).map Int.ofNat).filter fun x => decide (x ∈ l)) := by
    refine (List.perm_ext_iff_of_nodup hn ?_).2 fun x => ?_
    · refine List.filter_sublist.nodup ?_
      rw [List.nodup_iff_pairwise_ne, List.pairwise_map]
      exact (List.pairwise_lt_range).imp fun {a b} q e => by have : (a : Int) = b := e; omega
    · simp only [List.mem_filter, decide_eq_true_eq]
      refine ⟨fun hx => ⟨?_, hx⟩, fun h => h.2⟩
      have := hd x hx
      exact List.mem_map.2 ⟨x.toNat, List.mem_range.2 (by omega), by show ((x.toNat : Nat) : Int) = x; omega⟩
  have h2 := h1.length_eq
  have h3 := List.length_filter_le (fun x => decide (x ∈ l)) ((List.range n).map Int.ofNat)
  simp only [List.length_map, List.length_range] at h3
  omega

theorem bfs_all {N : Int → List Int} {n : Nat} {r : Int} (hN : ∀ b : Int, 0 ≤ b ∧ b < n → ∀ c ∈ N b, 0 ≤ c ∧ c < n) : ∀ (k : Nat) {P T far : List Int}, Bf N n r P [] T far → n ≤ P.length + k →
    ∃ far', Bf N n r (P ++ (bfsL N k (far, T)).map (·.1)) [] [] far' ∧ (∀ q ∈ bfsL N k (far, T), q.2 = far'.getD q.1.toNat 0) ∧ ∀ c ∈ P ++ T, far'.getD c.toNat 0 = far.getD c.toNat 0
  | 0, P, T, far, x, hk => by
    have hlen := nodup_len x.nd x.dom
    simp only [List.append_nil, List.length_append] at hlen
    have : T = [] := List.eq_nil_of_length_eq_zero (by omega)
    subst this
    exact ⟨far, by simpa [bfsL] using x, fun q hq => by simp [bfsL] at hq, fun c _ => rfl⟩
  | k + 1, P, [], far, x, _ => ⟨far, by simpa [bfsL] using x, fun q hq => by simp [bfsL] at hq, fun c _ => rfl⟩
  | k + 1, P, a :: T, far, x, hk => by
    have x1 := x.pop
    obtain ⟨k1, k2, k3, k4⟩ := Bf.visit hN (N a) x1 (fun c hc => hc)
    have x2 := k1.done k2
    obtain ⟨far', f1, f2, f3⟩ := bfs_all hN k x2 (by simp; omega)
    have hpa : ∀ c, c ∈ P ++ a :: T → c ∈ P ++ [a] ++ T := fun c hc => by simpa using hc
    have keep : ∀ c ∈ P ++ a :: T, far'.getD c.toNat 0 = far.getD c.toNat 0 := fun c hc => by
      have hc' := hpa c hc
      rw [f3 c, k4 c hc']
      rcases List.mem_append.1 hc' with h | h
      · exact List.mem_append_left _ h
      · exact List.mem_append_right _ (k3 c h)
    have eb : bfsL N (k + 1) (far, a :: T) = (a, far.getD a.toNat 0) :: bfsL N k ((visitL (far.getD a.toNat 0) (N a) (far, T)).1, (visitL (far.getD a.toNat 0) (N a) (far, T)).2) := rfl
    rw [eb]
    refine ⟨far', by simpa using f1, fun q hq => ?_, keep⟩
    rcases List.mem_cons.1 hq with rfl | hq
    · exact (keep a (by simp)).symm
    · exact f2 q hq

/-- What a search writes down. -/
def distL (n : Nat) (xs : List (Int × Int)) : List Int := xs.foldl (fun o q => o.set q.1.toNat q.2) (List.replicate n (-1))
theorem distL_len (n : Nat) (xs : List (Int × Int)) : (distL n xs).length = n := by
  unfold distL
  have : ∀ (xs : List (Int × Int)) (o : List Int), (xs.foldl (fun o q => o.set q.1.toNat q.2) o).length = o.length := by
    intro xs
    induction xs with
    | nil => intro o; rfl
    | cons x xs ih => intro o; rw [List.foldl_cons, ih]; simp
  rw [this]; simp
abbrev bfs (N : Int → List Int) (n : Nat) (r : Int) : List (Int × Int) := bfsL N n ((List.replicate n (-1)).set r.toNat 0, [r])
theorem fold_get : ∀ (xs : List (Int × Int)) (o g : List Int), o.length = g.length → (∀ q ∈ xs, q.2 = g.getD q.1.toNat 0) → ∀ i : Nat, i < g.length → (∃ q ∈ xs, q.1.toNat = i) ∨ o.getD i 0 = g.getD i 0 → (xs.foldl (fun o q => o.set q.1.toNat q.2) o).getD i 0 = g.getD i 0
  | [], o, g, _, _, i, _, h => by
    rcases h with ⟨q, hq, _⟩ | h
    · cases hq
    · exact h
  | x :: xs, o, g, hl, hx, i, hi, h => by
    rw [List.foldl_cons]
    refine fold_get xs _ g (by simpa using hl) (fun q hq => hx q (List.mem_cons_of_mem _ hq)) i hi ?_
    rw [getD_set _ _ _ _ (by omega)]
    by_cases e : x.1.toNat = i
    · right
      rw [if_pos e, hx x (by simp), e]
    · rw [if_neg e]
      rcases h with ⟨q, hq, hqi⟩ | h
      · rcases List.mem_cons.1 hq with rfl | hq
        · exact absurd hqi e
        · exact .inl ⟨q, hq, hqi⟩
      · exact .inr h
/-- The search tells each one that is reached, once, and how far it is. -/
theorem bfs_spec {N : Int → List Int} {n : Nat} {r : Int} (hN : ∀ b : Int, 0 ≤ b ∧ b < n → ∀ c ∈ N b, 0 ≤ c ∧ c < n) (h0 : 0 ≤ r) (h1 : r < n) :
    IsDist N n r (distL n (bfs N n r)) ∧ (∀ q ∈ bfs N n r, (0 ≤ q.1 ∧ q.1 < n) ∧ 0 ≤ q.2 ∧ isD N r q.1 q.2.toNat) ∧ (∀ k b, Wk N r k b → ∃ d, (b, d) ∈ bfs N n r) ∧ ((bfs N n r).map (·.1)).Nodup := by
  obtain ⟨far, x, hq, _⟩ := bfs_all hN n (Bf.init N n r h0 h1) (by simp)
  have e : ([] : List Int) ++ List.map (·.1) (bfsL N n ((List.replicate n (-1)).set r.toNat 0, [r])) ++ [] ++ [] = (bfs N n r).map (·.1) := by simp
  have closed : ∀ k b, Wk N r k b → b ∈ (bfs N n r).map (·.1) := by
    intro k b w
    induction w with
    | zero => have := x.root; rwa [e] at this
    | step _ hc ih => have := x.full _ (by simpa using ih) _ hc; rwa [e] at this
  have hin : ∀ q ∈ bfs N n r, q.1 ∈ ([] : List Int) ++ List.map (·.1) (bfsL N n ((List.replicate n (-1)).set r.toNat 0, [r])) ++ [] ++ [] := fun q h => by rw [e]; exact List.mem_map.2 ⟨q, h, rfl⟩
  have hfar : distL n (bfs N n r) = far := by
    refine List.ext_getElem (by rw [distL_len, x.len]) fun i g1 g2 => ?_
    have hi : i < n := by rw [← x.len]; exact g2
    have key := fold_get (bfs N n r) (List.replicate n (-1)) far (by simp [x.len]) hq i g2 (by
      by_cases hm : (i : Int) ∈ (bfs N n r).map (·.1)
      · obtain ⟨q, h, eq⟩ := List.mem_map.1 hm
        exact .inl ⟨q, h, by omega⟩
      · right
        have hv := x.vis (i : Int) (by omega) (by omega)
        rw [e, Int.toNat_natCast] at hv
        have : far.getD i 0 < 0 := by
          have := mt hv.1 hm
          omega
        rw [x.una i hi this]
        simp [List.getD, hi])
    have e1 : (distL n (bfs N n r)).getD i 0 = (distL n (bfs N n r))[i] := by simp [List.getD, g1]
    have e2 : far.getD i 0 = far[i] := by simp [List.getD, g2]
    rw [← e1, ← e2]
    exact key
  refine ⟨?_, fun q h => ?_, fun k b w => ?_, by have := x.nd; rwa [e] at this⟩
  · rw [hfar]
    refine ⟨x.len, fun b b0 b1 hb => x.dist b ((x.vis b b0 b1).1 hb), fun b b0 b1 hb => ?_⟩
    have hu := x.una b.toNat (by omega) hb
    refine ⟨hu, fun k w => ?_⟩
    have := closed k b w
    have := (x.vis b b0 b1).2 (by rw [e]; exact this)
    omega
  · have hm := hin q h
    have hd := x.dom q.1 hm
    have hv := (x.vis q.1 hd.1 hd.2).2 hm
    rw [← hq q h] at hv
    refine ⟨hd, hv, ?_⟩
    have := x.dist q.1 hm
    rwa [← hq q h] at this
  · obtain ⟨q, h, rfl⟩ := List.mem_map.1 (closed k b w)
    exact ⟨q.2, h⟩
end Go.AM

/- Plain: more on distances. -/
namespace Go.AM

theorem IsDist.zero' {N : Int → List Int} {n : Nat} {r : Int} {f : List Int} (x : IsDist N n r f) (h0 : 0 ≤ r) (h1 : r < n) : f.getD r.toNat 0 = 0 := by
  by_cases q : 0 ≤ f.getD r.toNat 0
  · have d := x.yes r h0 h1 q
    have : (f.getD r.toNat 0).toNat = 0 := d.uniq ⟨.zero, fun e he => by omega⟩
    omega
  · exact absurd .zero ((x.no r h0 h1 (by omega)).2 0)
theorem IsDist.self {N : Int → List Int} {n : Nat} {r : Int} {f : List Int} (x : IsDist N n r f) {b : Int} (hb : 0 ≤ b ∧ b < n) (q : f.getD b.toNat 0 = 0) : b = r := by
  have d := x.yes b hb.1 hb.2 (by omega)
  rw [q] at d
  have w := d.1
  generalize e : Int.toNat 0 = z at w
  cases w with
  | zero => rfl
  | step => simp at e
theorem IsDist.near {N : Int → List Int} {n : Nat} {r : Int} {f : List Int} (x : IsDist N n r f) (hr : 0 ≤ r ∧ r < n) (hN : ∀ b : Int, 0 ≤ b ∧ b < n → ∀ c ∈ N b, 0 ≤ c ∧ c < n) {b : Int} (hb : 0 ≤ b ∧ b < n) (q : 1 ≤ f.getD b.toNat 0) : ∃ c : Int, (0 ≤ c ∧ c < n) ∧ b ∈ N c ∧ f.getD c.toNat 0 = f.getD b.toNat 0 - 1 := by
  have d := x.yes b hb.1 hb.2 (by omega)
  obtain ⟨k, hk⟩ : ∃ k, (f.getD b.toNat 0).toNat = k + 1 := ⟨(f.getD b.toNat 0).toNat - 1, by omega⟩
  rw [hk] at d
  obtain ⟨c, wc, hc⟩ := d.1.last
  have hc' : 0 ≤ c ∧ c < n := Wk.ok (ok := fun z => 0 ≤ z ∧ z < n) hr hN wc
  have dc : isD N r c k := ⟨wc, fun e he w => d.2 (e + 1) (by omega) (.step w hc)⟩
  refine ⟨c, hc', hc, ?_⟩
  by_cases p : 0 ≤ f.getD c.toNat 0
  · have := (x.yes c hc'.1 hc'.2 p).uniq dc; omega
  · exact absurd wc ((x.no c hc'.1 hc'.2 (by omega)).2 _)

theorem isD.chain {N : Int → List Int} {n : Nat} {r : Int} (hr : 0 ≤ r ∧ r < n) (hN : ∀ b : Int, 0 ≤ b ∧ b < n → ∀ c ∈ N b, 0 ≤ c ∧ c < n) : ∀ (d : Nat) (b : Int), isD N r b d → ∃ l : List Int, l.length = d + 1 ∧ l.Nodup ∧ ∀ z ∈ l, (0 ≤ z ∧ z < n) ∧ ∃ e, e ≤ d ∧ isD N r z e
  | 0, b, h => ⟨[b], rfl, by simp, fun z hz => by rw [List.mem_singleton.1 hz]; exact ⟨Wk.ok (ok := fun z => 0 ≤ z ∧ z < n) hr hN h.1, 0, Nat.le_refl _, h⟩⟩
  | d + 1, b, h => by
    obtain ⟨c, wc, hc⟩ := h.1.last
    have dc : isD N r c d := ⟨wc, fun e he w => h.2 (e + 1) (by omega) (.step w hc)⟩
    obtain ⟨l, h1, h2, h3⟩ := isD.chain hr hN d c dc
    refine ⟨b :: l, by simp [h1], List.nodup_cons.2 ⟨fun hb => ?_, h2⟩, fun z hz => ?_⟩
    · obtain ⟨_, e, he, de⟩ := h3 b hb
      have := de.uniq h; omega
    · rcases List.mem_cons.1 hz with rfl | hz
      · exact ⟨Wk.ok (ok := fun z => 0 ≤ z ∧ z < n) hr hN h.1, d + 1, Nat.le_refl _, h⟩
      · obtain ⟨q, e, he, de⟩ := h3 z hz
        exact ⟨q, e, by omega, de⟩
theorem IsDist.bound {N : Int → List Int} {n : Nat} {r : Int} {f : List Int} (x : IsDist N n r f) (hr : 0 ≤ r ∧ r < n) (hN : ∀ b : Int, 0 ≤ b ∧ b < n → ∀ c ∈ N b, 0 ≤ c ∧ c < n) {b : Int} (hb : 0 ≤ b ∧ b < n) : -1 ≤ f.getD b.toNat 0 ∧ f.getD b.toNat 0 < n := by
  by_cases p : 0 ≤ f.getD b.toNat 0
  · obtain ⟨l, h1, h2, h3⟩ := isD.chain hr hN _ b (x.yes b hb.1 hb.2 p)
    have := nodup_len h2 fun z hz => (h3 z hz).1
    omega
  · have := (x.no b hb.1 hb.2 (by omega)).1
    omega

end Go.AM

/- Plain: who is reached. -/
namespace Go.AM

theorem IsDist.mono {N M : Int → List Int} {n : Nat} {r : Int} {f g : List Int} (x : IsDist N n r f) (y : IsDist M n r g) (hr : 0 ≤ r ∧ r < n) (hN : ∀ b : Int, 0 ≤ b ∧ b < n → ∀ c ∈ N b, 0 ≤ c ∧ c < n) (h : ∀ b c : Int, c ∈ N b → c ∈ M b) {b : Int} (hb : 0 ≤ b ∧ b < n) (q : 0 ≤ f.getD b.toNat 0) : 0 ≤ g.getD b.toNat 0 ∧ g.getD b.toNat 0 ≤ f.getD b.toNat 0 := by
  have d := x.yes b hb.1 hb.2 q
  have w : Wk M r (f.getD b.toNat 0).toNat b := (Wk.congr (ok := fun _ => True) trivial (fun b _ c hc => ⟨h b c hc, trivial⟩) d.1).1
  by_cases p : 0 ≤ g.getD b.toNat 0
  · have := (y.yes b hb.1 hb.2 p).le w
    omega
  · exact absurd w ((y.no b hb.1 hb.2 (by omega)).2 _)

/-- Is reached. -/
def Rc (N : Int → List Int) (a b : Int) : Prop := ∃ k, Wk N a k b
theorem Rc.refl (N : Int → List Int) (a : Int) : Rc N a a := ⟨0, .zero⟩
theorem Rc.trans {N : Int → List Int} {a b c : Int} (h : Rc N a b) (g : Rc N b c) : Rc N a c := by
  obtain ⟨j, h⟩ := h
  obtain ⟨k, g⟩ := g
  exact ⟨_, h.trans g⟩
theorem Rc.step {N : Int → List Int} {a b c : Int} (h : Rc N a b) (hc : c ∈ N b) : Rc N a c := by
  obtain ⟨j, h⟩ := h
  exact ⟨_, .step h hc⟩
theorem Rc.one {N : Int → List Int} {a b : Int} (h : b ∈ N a) : Rc N a b := (Rc.refl N a).step h
theorem Rc.mono {N M : Int → List Int} (ok : Int → Prop) {a b : Int} (ha : ok a) (h : ∀ b c : Int, ok b → c ∈ N b → c ∈ M b ∧ ok c) (g : Rc N a b) : Rc M a b ∧ ok b := by
  obtain ⟨k, w⟩ := g
  have := Wk.congr (ok := ok) ha (fun b hb c hc => h b c hb hc) w
  exact ⟨⟨k, this.1⟩, this.2⟩
end Go.AM

namespace Go.AM

/-! ### Levels: distances over lists of neighbours, told round by round; s: what stands for 0 (s - 1: not reached yet) -/
/-- Between rounds. -/
structure LQ (n : Nat) (N : Int → List Int) (a s : Int) (far : Nat) (out : List Int) : Prop where
  len : out.length = n
  ok : ∀ x : Nat, x < n → s ≤ out.getD x 0 → isD N a x (out.getD x 0 - s).toNat ∧ out.getD x 0 - s ≤ far
  lo : ∀ x : Nat, x < n → ∀ d, d ≤ far → isD N a x d → out.getD x 0 = d + s
  no : ∀ x : Nat, x < n → out.getD x 0 < s → out.getD x 0 = s - 1
/-- Within a round: cells below b are done, of b those in P. -/
structure LQB (n : Nat) (N : Int → List Int) (a s : Int) (far : Nat) (out : List Int) (b : Nat) (P : List Int) (more : Bool) : Prop where
  len : out.length = n
  ok : ∀ x : Nat, x < n → s ≤ out.getD x 0 → isD N a x (out.getD x 0 - s).toNat ∧ out.getD x 0 - s ≤ far + 1
  lo : ∀ x : Nat, x < n → ∀ d, d ≤ far → isD N a x d → out.getD x 0 = d + s
  no : ∀ x : Nat, x < n → out.getD x 0 < s → out.getD x 0 = s - 1
  dn : ∀ x : Nat, x < n → x < b → out.getD x 0 = far + s → ∀ y ∈ N x, s ≤ out.getD y.toNat 0
  cu : b < n → out.getD b 0 = far + s → ∀ y ∈ P, s ≤ out.getD y.toNat 0
  mo : more = true ↔ ∃ x : Nat, x < n ∧ out.getD x 0 = far + 1 + s
theorem LQ.init {n : Nat} {N : Int → List Int} {a s : Int} (ha : 0 ≤ a ∧ a < n) : LQ n N a s 0 ((List.replicate n (s - 1)).set a.toNat s) := by
  obtain ⟨k, rfl⟩ := Int.eq_ofNat_of_zero_le ha.1
  have hk : k < n := by omega
  have g : ∀ x : Nat, x < n → ((List.replicate n (s - 1)).set (k : Int).toNat s).getD x 0 = if k = x then s else s - 1 := fun x hx => by
    rw [Int.toNat_natCast, getD_set _ _ _ _ (by simpa using hx)]
    split
    · rfl
    · simp [List.getD, hx]
  have z : isD N (k : Int) k 0 := ⟨.zero, fun d hd => by omega⟩
  refine ⟨by simp, fun x hx h => ?_, fun x hx d hd h => ?_, fun x hx h => ?_⟩
  · rw [g x hx] at h ⊢
    by_cases q : k = x
    · subst q; rw [if_pos rfl, Int.sub_self]; exact ⟨z, by omega⟩
    · rw [if_neg q] at h; omega
  · obtain rfl : d = 0 := by omega
    have hw := h.1
    have : (x : Int) = k := by
      generalize hz : (0 : Nat) = zz at hw
      cases hw with
      | zero => rfl
      | step => omega
    rw [g x hx, if_pos (by omega)]; simp
  · rw [g x hx] at h ⊢
    split
    · rename_i q; rw [if_pos q] at h; omega
    · rfl
theorem LQ.start {n : Nat} {N : Int → List Int} {a s : Int} {far : Nat} {out : List Int} (x : LQ n N a s far out) : LQB n N a s far out 0 [] false :=
  ⟨x.len, fun y hy h => ⟨(x.ok y hy h).1, by have := (x.ok y hy h).2; omega⟩, x.lo, x.no, fun y _ h => by omega, fun _ _ y h => (by cases h), ⟨fun h => (by cases h), fun ⟨y, hy, h⟩ => by exfalso; have := (x.ok y hy (by omega)).2; omega⟩⟩
theorem LQB.skip {n : Nat} {N : Int → List Int} {a s : Int} {far b : Nat} {P : List Int} {out : List Int} {more : Bool} (x : LQB n N a s far out b P more) (h : out.getD b 0 ≠ far + s) : LQB n N a s far out (b + 1) [] more :=
  ⟨x.len, x.ok, x.lo, x.no, fun y hy q q2 => by
    by_cases t : y = b
    · subst t; exact absurd q2 h
    · exact x.dn y hy (by omega) q2, fun _ _ y q => (by cases q), x.mo⟩
theorem LQB.row {n : Nat} {N : Int → List Int} {a s : Int} {far b : Nat} {P : List Int} {out : List Int} {more : Bool} (x : LQB n N a s far out b P more) (hP : ∀ y ∈ N b, y ∈ P) : LQB n N a s far out (b + 1) [] more :=
  ⟨x.len, x.ok, x.lo, x.no, fun y hy q q2 => by
    by_cases t : y = b
    · subst t; exact fun z hz => x.cu hy q2 z (hP z hz)
    · exact x.dn y hy (by omega) q2, fun _ _ y q => (by cases q), x.mo⟩
theorem LQB.same {n : Nat} {N : Int → List Int} {a s : Int} {far b : Nat} {P P' : List Int} {out : List Int} {more : Bool} (x : LQB n N a s far out b P more) (h : P = P') : LQB n N a s far out b P' more := h ▸ x
theorem LQB.pass {n : Nat} {N : Int → List Int} {a s : Int} {far b : Nat} {P : List Int} {out : List Int} {more : Bool} (x : LQB n N a s far out b P more) {c : Int} (h : s ≤ out.getD c.toNat 0) : LQB n N a s far out b (P ++ [c]) more :=
  ⟨x.len, x.ok, x.lo, x.no, x.dn, fun hb q y hy => (List.mem_append.1 hy).elim (x.cu hb q y) (fun hy => by rw [List.mem_singleton.1 hy]; exact h), x.mo⟩
theorem LQB.set {n : Nat} {N : Int → List Int} {a s : Int} {far b : Nat} {P : List Int} {out : List Int} {more : Bool} (x : LQB n N a s far out b P more) (hN : ∀ b : Int, 0 ≤ b ∧ b < n → ∀ c ∈ N b, 0 ≤ c ∧ c < n) (hPN : ∀ y ∈ P, y ∈ N b) {c : Int} (hb : b < n) (hf : out.getD b 0 = far + s) (h : out.getD c.toNat 0 < s) (he : c ∈ N b) : LQB n N a s far (out.set c.toNat (far + 1 + s)) b (P ++ [c]) true := by
  have hc := hN b (by omega) c he
  obtain ⟨k, rfl⟩ := Int.eq_ofNat_of_zero_le hc.1
  rw [Int.toNat_natCast] at h ⊢
  have hk : k < n := by omega
  have g : ∀ y, y < n → (out.set k ((far : Int) + 1 + s)).getD y 0 = if k = y then (far : Int) + 1 + s else out.getD y 0 := fun y hy => getD_set _ _ _ _ (by rw [x.len]; exact hy)
  have up : ∀ y : Int, 0 ≤ y ∧ y < n → s ≤ out.getD y.toNat 0 → s ≤ (out.set k ((far : Int) + 1 + s)).getD y.toNat 0 := fun y hy q => by
    rw [g y.toNat (by omega)]
    split
    · omega
    · exact q
  have db := (x.ok b hb (by omega)).1
  rw [hf, show ((far : Int) + s - s).toNat = far by omega] at db
  have wc : Wk N a (far + 1) k := .step db.1 he
  have dc : isD N a k (far + 1) := by
    obtain ⟨d, hd, q⟩ := wc.least
    by_cases t : d = far + 1
    · rw [← t]; exact q
    · have := x.lo k hk d (by omega) q; omega
  refine ⟨by rw [List.length_set]; exact x.len, fun y hy q => ?_, fun y hy d hd q => ?_, fun y hy q => ?_, fun y hy q q2 z hz => ?_, fun _ q y hy => ?_, ⟨fun _ => ⟨k, hk, by rw [g k hk, if_pos rfl]⟩, fun _ => rfl⟩⟩
  · rw [g y hy] at q ⊢
    by_cases t : k = y
    · subst t; rw [if_pos rfl]; exact ⟨by rw [show ((far : Int) + 1 + s - s).toNat = far + 1 by omega]; exact dc, by omega⟩
    · rw [if_neg t] at q ⊢; exact x.ok y hy q
  · rw [g y hy]
    by_cases t : k = y
    · subst t; have := q.uniq dc; omega
    · rw [if_neg t]; exact x.lo y hy d hd q
  · rw [g y hy] at q ⊢
    by_cases t : k = y
    · rw [if_pos t] at q; omega
    · rw [if_neg t] at q ⊢; exact x.no y hy q
  · rw [g y hy] at q2
    by_cases t : k = y
    · rw [if_pos t] at q2; omega
    · rw [if_neg t] at q2
      exact up z (hN y (by omega) z hz) (x.dn y hy q q2 z hz)
  · rw [g b hb] at q
    by_cases t : k = b
    · rw [if_pos t] at q; omega
    · rw [if_neg t] at q
      rcases List.mem_append.1 hy with hy | hy
      · exact up y (hN b (by omega) y (hPN y hy)) (x.cu hb q y hy)
      · rw [List.mem_singleton.1 hy, Int.toNat_natCast, g k hk, if_pos rfl]; omega
theorem LQB.next {n : Nat} {N : Int → List Int} {a s : Int} {far : Nat} {P : List Int} {out : List Int} {more : Bool} (hN : ∀ b : Int, 0 ≤ b ∧ b < n → ∀ c ∈ N b, 0 ≤ c ∧ c < n) (ha : 0 ≤ a ∧ a < n) (x : LQB n N a s far out n P more) : LQ n N a s (far + 1) out ∧ (more = false → ∀ y : Nat, y < n → ∀ d, isD N a y d → d ≤ far) := by
  have st : ∀ y : Nat, y < n → ∀ d, isD N a y (d + 1) → ∃ z : Nat, z < n ∧ isD N a z d ∧ (y : Int) ∈ N z := fun y hy d q => by
    obtain ⟨z, wz, hz⟩ := q.1.last
    have dz : 0 ≤ z ∧ z < (n : Int) := Wk.ok (ok := fun z => 0 ≤ z ∧ z < (n : Int)) ha hN wz
    obtain ⟨m, rfl⟩ := Int.eq_ofNat_of_zero_le dz.1
    exact ⟨m, by omega, ⟨wz, fun e' he w => q.2 (e' + 1) (by omega) (.step w hz)⟩, hz⟩
  have lo : ∀ y : Nat, y < n → ∀ d, d ≤ far + 1 → isD N a y d → out.getD y 0 = d + s := fun y hy d hd q => by
    by_cases t : d ≤ far
    · exact x.lo y hy d t q
    · obtain rfl : d = far + 1 := by omega
      obtain ⟨z, hz, dz, ez⟩ := st y hy far q
      have h0 := x.dn z hz hz (x.lo z hz far (Nat.le_refl _) dz) y ez
      rw [Int.toNat_natCast] at h0
      have := (x.ok y hy h0).1.uniq q
      omega
  refine ⟨⟨x.len, fun y hy h => ⟨(x.ok y hy h).1, by have := (x.ok y hy h).2; omega⟩, lo, x.no⟩, fun hm y hy d => ?_⟩
  have none : ∀ y : Nat, y < n → ¬ isD N a y (far + 1) := fun y hy q => by
    have := x.mo.2 ⟨y, hy, by have := lo y hy _ (Nat.le_refl _) q; omega⟩
    rw [hm] at this; cases this
  induction d generalizing y with
  | zero => intro _; omega
  | succ d ih =>
    intro q
    obtain ⟨z, hz, dz, ez⟩ := st y hy d q
    have := ih z hz dz
    by_cases t : d = far
    · subst t; exact absurd q (none y hy)
    · omega
/-- Who is told, behind so many rounds. -/
theorem LQ.mem {n : Nat} {N : Int → List Int} {a s : Int} {far : Nat} {out : List Int} (x : LQ n N a s far out) {y : Nat} (hy : y < n) : s ≤ out.getD y 0 ↔ ∃ j, j ≤ far ∧ Wk N a j y := by
  constructor
  · intro h
    have d := x.ok y hy h
    exact ⟨_, by omega, d.1.1⟩
  · rintro ⟨j, hj, w⟩
    obtain ⟨d, hd, q⟩ := w.least
    have := x.lo y hy d (by omega) q
    omega
theorem LQ.dist {n : Nat} {N : Int → List Int} {a : Int} {far : Nat} {out : List Int} (x : LQ n N a 0 far out) (h : ∀ y : Nat, y < n → ∀ d, isD N a y d → d ≤ far) : IsDist N n a out := by
  refine ⟨x.len, fun b h0 h1 q => ?_, fun b h0 h1 q => ?_⟩
  · have := (x.ok b.toNat (by omega) q).1
    rw [Int.sub_zero] at this
    rwa [show ((b.toNat : Nat) : Int) = b by omega] at this
  · refine ⟨by have := x.no b.toNat (by omega) q; omega, fun k w => ?_⟩
    obtain ⟨d, _, dd⟩ := w.least
    have dd' : isD N a ((b.toNat : Nat) : Int) d := by rwa [show ((b.toNat : Nat) : Int) = b by omega]
    have := x.lo b.toNat (by omega) d (h _ (by omega) d dd') dd'
    omega
theorem isD.bound {n : Nat} {N : Int → List Int} {a : Int} (hN : ∀ b : Int, 0 ≤ b ∧ b < n → ∀ c ∈ N b, 0 ≤ c ∧ c < n) (ha : 0 ≤ a ∧ a < n) {y : Int} {d : Nat} (q : isD N a y d) : d < n := by
  obtain ⟨l, h1, h2, h3⟩ := isD.chain ha hN d y q
  have := nodup_len h2 fun z hz => (h3 z hz).1
  omega
theorem ltL_eq {l m : List Int} (hl : l.Pairwise (fun a b => a < b)) (hm : m.Pairwise (fun a b => a < b)) (h : ∀ x, x ∈ l ↔ x ∈ m) : l = m :=
  List.Perm.eq_of_pairwise (le := fun a b => a < b) (fun a b _ _ h1 h2 => by omega) hl hm ((List.perm_ext_iff_of_nodup (hl.imp fun h => by omega) (hm.imp fun h => by omega)).2 h)
end Go.AM

namespace Go.AM

/-! ### A heap of items (cost, number), least first -/
abbrev It := Int × Int
def leI (a b : It) : Prop := a.1 < b.1 ∨ (a.1 = b.1 ∧ a.2 ≤ b.2)
instance (a b : It) : Decidable (leI a b) := by unfold leI; infer_instance
theorem leI.trans {a b c : It} (h : leI a b) (k : leI b c) : leI a c := by unfold leI at *; omega
theorem leI.total (a b : It) : leI a b ∨ leI b a := by unfold leI; omega
theorem leI.refl (a : It) : leI a a := by unfold leI; omega
theorem leI.not {a b : It} (h : ¬ leI a b) : leI b a := (leI.total a b).resolve_left h
theorem leI.cost {a b : It} (h : leI a b) : a.1 ≤ b.1 := by unfold leI at h; omega
def cmpN (a b : Int) : Int := if a < b then -1 else if a > b then 1 else 0
def cmpI (a b : It) : Int := if cmpN a.1 b.1 ≠ 0 then cmpN a.1 b.1 else cmpN a.2 b.2
theorem cmpI_le (a b : It) : cmpI a b ≤ 0 ↔ leI a b := by unfold cmpI cmpN leI; split <;> (repeat' split) <;> (try omega) <;> simp_all <;> omega
theorem cmpI_lt (a b : It) : cmpI a b < 0 ↔ ¬ leI b a := by unfold cmpI cmpN leI; split <;> (repeat' split) <;> (try omega) <;> simp_all <;> omega

def z0 : It := (0, 0)
abbrev at' (l : List It) (i : Nat) : It := l.getD i z0
theorem at_set (l : List It) (i j : Nat) (v : It) (hj : j < l.length) : at' (l.set i v) j = if i = j then v else at' l j := by
  simp only [at', List.getD, List.getElem?_set]
  by_cases e : i = j
  · subst e; simp [hj]
  · simp [e]
def HeapP (l : List It) : Prop := ∀ j, 0 < j → j < l.length → leI (at' l ((j - 1) / 2)) (at' l j)
theorem HeapP.least {l : List It} (h : HeapP l) : ∀ j, j < l.length → leI (at' l 0) (at' l j) := by
  intro j
  induction j using Nat.strongRecOn with
  | ind j ih =>
    intro hj
    by_cases z : j = 0
    · subst z; exact leI.refl _
    · exact (ih ((j - 1) / 2) (by omega) (by omega)).trans (h j (by omega) hj)
theorem HeapP.least' {l : List It} (h : HeapP l) {y : It} (hy : y ∈ l) : leI (at' l 0) y := by
  obtain ⟨j, hj, rfl⟩ := List.getElem_of_mem hy
  have := h.least j hj
  simpa [at', List.getD, hj] using this
/-- On the way up: x is to lie at i. -/
structure Up (l : List It) (i : Nat) (x : It) : Prop where
  lt : i < l.length
  a : ∀ j, 0 < j → j < l.length → j ≠ i → leI (at' (l.set i x) ((j - 1) / 2)) (at' (l.set i x) j)
  b : ∀ j, 0 < j → j < l.length → (j - 1) / 2 = i → 0 < i → leI (at' l ((i - 1) / 2)) (at' l j)
theorem Up.start {l : List It} (h : HeapP l) (x : It) : Up (l ++ [x]) l.length x := by
  have e : (l ++ [x]).set l.length x = l ++ [x] := by
    rw [List.set_append_right _ _ (Nat.le_refl _), Nat.sub_self]; rfl
  have ga : ∀ j, j < l.length → at' (l ++ [x]) j = at' l j := fun j hj => by simp [at', List.getD, List.getElem?_append_left hj]
  refine ⟨by simp, fun j h0 hj hne => ?_, fun j h0 hj hp _ => by simp at hj; omega⟩
  rw [e]
  have : j < l.length := by simp at hj; omega
  rw [ga j this, ga _ (by omega)]
  exact h j h0 this
theorem swap_perm {l : List It} {i a : Nat} (hi : i < l.length) (ha : a < l.length) (x : It) : ((l.set i (at' l a)).set a x).Perm (l.set i x) := by
  by_cases e : i = a
  · subst e; rw [List.set_set]
  · have h := List.set_set_perm (as := l.set i x) (i := i) (j := a) (by simpa using hi) (by simpa using ha)
    have e1 : (l.set i x)[a]'(by simpa using ha) = at' l a := by
      rw [List.getElem_set_ne e]; simp [at', List.getD, ha]
    have e2 : (l.set i x)[i]'(by simpa using hi) = x := by simp
    rw [e1, e2, List.set_set] at h
    exact h
theorem Up.move {l : List It} {i : Nat} {x : It} (u : Up l i x) (h0 : 0 < i) (hx : ¬ leI (at' l ((i - 1) / 2)) x) : Up (l.set i (at' l ((i - 1) / 2))) ((i - 1) / 2) x := by
  have hi := u.lt
  have ai : (i - 1) / 2 < i := by omega
  obtain ⟨a, ha⟩ : ∃ a, (i - 1) / 2 = a := ⟨_, rfl⟩
  rw [ha] at ai hx ⊢
  have hx' := leI.not hx
  have hal : a < l.length := by omega
  have g0 : ∀ j, j < l.length → at' (l.set i x) j = if i = j then x else at' l j := fun j hj => at_set _ _ _ _ hj
  have g1 : ∀ j, j < l.length → at' (l.set i (at' l a)) j = if i = j then at' l a else at' l j := fun j hj => at_set _ _ _ _ hj
  have g2 : ∀ j, j < l.length → at' ((l.set i (at' l a)).set a x) j = if a = j then x else if i = j then at' l a else at' l j := fun j hj => by
    rw [at_set _ _ _ _ (by simpa using hj)]
    split
    · rfl
    · exact g1 j hj
  have A : ∀ j, 0 < j → j < l.length → j ≠ i → leI (if i = (j - 1) / 2 then x else at' l ((j - 1) / 2)) (at' l j) := fun j q1 q2 q3 => by
    have := u.a j q1 q2 q3
    rw [g0 _ (by omega), g0 _ q2, if_neg (Ne.symm q3)] at this
    exact this
  refine ⟨by rw [List.length_set]; exact hal, fun j q1 q2 q3 => ?_, fun j q1 q2 q3 q4 => ?_⟩
  · rw [List.length_set] at q2
    rw [g2 _ (by omega), g2 j q2, if_neg (Ne.symm q3)]
    by_cases e : i = j
    · subst e
      rw [if_pos rfl, if_pos ha.symm]; exact hx'
    · rw [if_neg e]
      by_cases e2 : a = (j - 1) / 2
      · rw [if_pos e2]
        have := A j q1 q2 (Ne.symm e)
        rw [if_neg (by omega), ← e2] at this
        exact hx'.trans this
      · rw [if_neg e2]
        by_cases e3 : i = (j - 1) / 2
        · rw [if_pos e3]
          have := u.b j q1 q2 e3.symm h0
          rw [ha] at this; exact this
        · rw [if_neg e3]
          have := A j q1 q2 (Ne.symm e)
          rw [if_neg e3] at this; exact this
  · rw [List.length_set] at q2
    rw [g1 _ (by omega), g1 j q2, if_neg (by omega)]
    have hA := A a q4 hal (by omega)
    rw [if_neg (by omega)] at hA
    by_cases e : i = j
    · subst e
      rw [if_pos rfl]; exact hA
    · rw [if_neg e]
      have := A j q1 q2 (Ne.symm e)
      rw [if_neg (by omega), q3] at this
      exact hA.trans this
theorem Up.done {l : List It} {i : Nat} {x : It} (u : Up l i x) (h : i = 0 ∨ leI (at' l ((i - 1) / 2)) x) : HeapP (l.set i x) := by
  intro j q1 q2
  rw [List.length_set] at q2
  by_cases e : j = i
  · subst e
    rw [at_set _ _ _ _ (by omega), at_set _ _ _ _ q2, if_pos rfl, if_neg (by omega)]
    exact h.resolve_left (by omega)
  · exact u.a j q1 q2 e
/-- On the way down: x is to lie at i. -/
structure Dn (l : List It) (i : Nat) (x : It) : Prop where
  lt : i < l.length
  a : ∀ j, 0 < j → j < l.length → (j - 1) / 2 ≠ i → leI (at' (l.set i x) ((j - 1) / 2)) (at' (l.set i x) j)
  b : ∀ j, 0 < j → j < l.length → (j - 1) / 2 = i → 0 < i → leI (at' l ((i - 1) / 2)) (at' l j)
theorem Dn.start {l : List It} (h : HeapP l) (hn : 0 < l.length) (x : It) : Dn l 0 x := by
  refine ⟨hn, fun j q1 q2 q3 => ?_, fun _ _ _ _ q => by omega⟩
  rw [at_set _ _ _ _ (by omega), at_set _ _ _ _ q2, if_neg (by omega), if_neg (by omega)]
  exact h j q1 q2
/-- The lesser one below. -/
def lesser (l : List It) (i : Nat) : Nat := if 2 * i + 2 < l.length ∧ ¬ leI (at' l (2 * i + 1)) (at' l (2 * i + 2)) then 2 * i + 2 else 2 * i + 1
theorem lesser_le {l : List It} {i j : Nat} (h0 : 0 < j) (hj : j < l.length) (hp : (j - 1) / 2 = i) : leI (at' l (lesser l i)) (at' l j) := by
  unfold lesser
  have : j = 2 * i + 1 ∨ j = 2 * i + 2 := by omega
  split
  · rename_i h
    rcases this with rfl | rfl
    · exact leI.not h.2
    · exact leI.refl _
  · rename_i h
    rcases this with rfl | rfl
    · exact leI.refl _
    · by_cases q : leI (at' l (2 * i + 1)) (at' l (2 * i + 2))
      · exact q
      · exact absurd ⟨hj, q⟩ h
theorem lesser_at {l : List It} {i : Nat} (h : 2 * i + 1 < l.length) : (lesser l i - 1) / 2 = i ∧ 0 < lesser l i ∧ lesser l i < l.length ∧ i < lesser l i := by
  unfold lesser
  split
  · rename_i q; have := q.1; omega
  · omega
theorem Dn.move {l : List It} {i : Nat} {x : It} (u : Dn l i x) (h : 2 * i + 1 < l.length) (hx : ¬ leI x (at' l (lesser l i))) : Dn (l.set i (at' l (lesser l i))) (lesser l i) x := by
  have hi := u.lt
  obtain ⟨p1, p2, p3, p4⟩ := lesser_at h
  have L := fun j h0 hj hp => lesser_le (l := l) (i := i) (j := j) h0 hj hp
  generalize lesser l i = b at *
  have hx' := leI.not hx
  have g0 : ∀ j, j < l.length → at' (l.set i x) j = if i = j then x else at' l j := fun j hj => at_set _ _ _ _ hj
  have g1 : ∀ j, j < l.length → at' (l.set i (at' l b)) j = if i = j then at' l b else at' l j := fun j hj => at_set _ _ _ _ hj
  have g2 : ∀ j, j < l.length → at' ((l.set i (at' l b)).set b x) j = if b = j then x else if i = j then at' l b else at' l j := fun j hj => by
    rw [at_set _ _ _ _ (by simpa using hj)]
    split
    · rfl
    · exact g1 j hj
  have A : ∀ j, 0 < j → j < l.length → (j - 1) / 2 ≠ i → leI (at' l ((j - 1) / 2)) (if i = j then x else at' l j) := fun j q1 q2 q3 => by
    have := u.a j q1 q2 q3
    rw [g0 _ (by omega), g0 _ q2, if_neg (Ne.symm q3)] at this
    exact this
  refine ⟨by rw [List.length_set]; exact p3, fun j q1 q2 q3 => ?_, fun j q1 q2 q3 q4 => ?_⟩
  · rw [List.length_set] at q2
    rw [g2 _ (by omega), g2 j q2, if_neg (Ne.symm q3)]
    by_cases e : i = (j - 1) / 2
    · rw [if_pos e]
      by_cases e2 : b = j
      · rw [if_pos e2]; exact hx'
      · rw [if_neg e2, if_neg (by omega)]
        exact L j q1 q2 e.symm
    · rw [if_neg e]
      have a1 := A j q1 q2 (Ne.symm e)
      rw [if_neg (by omega)]
      by_cases e2 : i = j
      · subst e2
        rw [if_pos rfl]
        exact u.b b p2 p3 p1 q1
      · rw [if_neg e2] at a1 ⊢
        exact a1
  · rw [List.length_set] at q2
    rw [p1, g1 _ (by omega), g1 j q2, if_pos rfl, if_neg (by omega)]
    have := A j q1 q2 (by omega)
    rw [if_neg (by omega), q3] at this
    exact this
theorem Dn.done {l : List It} {i : Nat} {x : It} (u : Dn l i x) (h : ¬ 2 * i + 1 < l.length ∨ leI x (at' l (lesser l i))) : HeapP (l.set i x) := by
  intro j q1 q2
  rw [List.length_set] at q2
  by_cases e : (j - 1) / 2 = i
  · rw [at_set _ _ _ _ (by omega), at_set _ _ _ _ q2, if_pos e.symm, if_neg (by omega)]
    have c := h.resolve_left (by omega)
    exact c.trans (lesser_le q1 q2 e)
  · exact u.a j q1 q2 e
end Go.AM

namespace Go.AM

theorem flat_set {α : Type} {f : α → List Value} {sz : Nat} (hf : ∀ x, (f x).length = sz) (hz : 0 < sz) (l : List α) (j : Nat) (x : α) (hj : j < l.length) : setRow (l.flatMap f) (j * sz) (f x) = (l.set j x).flatMap f := by
  have hl := flat_length hf l
  have hl2 := flat_length hf (l.set j x)
  rw [List.length_set] at hl2
  have hjs : j * sz + sz ≤ l.length * sz := by have := Nat.mul_le_mul_right sz (show j + 1 ≤ l.length by omega); rw [Nat.add_mul, Nat.one_mul] at this; exact this
  apply List.ext_getElem?
  intro i
  rw [setRow_get _ _ _ (by rw [hf, hl]; exact hjs), hf]
  by_cases hi : i < l.length * sz
  · have hq : i / sz < l.length := Nat.div_lt_of_lt_mul (by rw [Nat.mul_comm]; exact hi)
    have hr := Nat.mod_lt i hz
    have e : i = i / sz * sz + i % sz := by rw [Nat.mul_comm]; exact (Nat.div_add_mod i sz).symm
    generalize i / sz = q at *
    generalize i % sz = r at *
    subst e
    rw [flat_get1 hf x (l.set j x) q r (by rw [List.length_set]; exact hq) hr]
    by_cases c : q = j
    · subst c
      rw [if_pos (by omega), show q * sz + r - q * sz = r by omega]
      congr 2; simp [List.getD, hq]
    · have nb : ¬ (j * sz ≤ q * sz + r ∧ q * sz + r < j * sz + sz) := by
        intro ⟨h1, h2⟩
        have a1 : q < j + 1 := Nat.lt_of_mul_lt_mul_right (a := sz) (by rw [Nat.add_mul, Nat.one_mul]; omega)
        have a2 : j < q + 1 := Nat.lt_of_mul_lt_mul_right (a := sz) (by rw [Nat.add_mul, Nat.one_mul]; omega)
        omega
      rw [if_neg nb, flat_get1 hf x l q r hq hr]
      congr 2; simp [List.getD, List.getElem?_set, Ne.symm c]
  · rw [List.getElem?_eq_none (l := (l.set j x).flatMap f) (by rw [hl2]; omega), List.getElem?_eq_none (l := l.flatMap f) (by rw [hl]; omega), if_neg (by omega)]
section
variable {P : Program} {prims : Prims} (v : Value) (vs : List Value) (h : AHeap) (tr : List (Env × AHeap × Value)) (Q : EQ) (all : List Oper) (ah : List Nat) (j : Nat) (os : List Oper)
end
theorem stO_fn {c : List Value} {e : TypeId} {o : Bool} {h : AHeap} {id off : Nat} {g : Fn} {a b : Array Value} (hl : h.low ≤ id) (ho : off < c.length) : stO (some (.cells c e o)) h id off (.func g a b) 1 = some (h.put id (some (.cells (c.set off (.func g a b)) e o))) := stO_one rfl rfl hl ho
def encI (q : It) : List Value := [.int .i64 q.1, .int .i64 0, .int .i64 q.2]
theorem encI_len (q : It) : (encI q).length = 3 := rfl
def orN : List Int → Int
  | [] => 0
  | x :: l => if x ≠ 0 then x else orN l
theorem orN_step {l : List Int} {i : Nat} (hi : i < l.length) (h0 : l.getD i 0 = 0) : orN (l.drop (i + 1)) = orN (l.drop i) := by
  have d : l.drop i = l.getD i 0 :: l.drop (i + 1) := by
    rw [List.drop_eq_getElem_cons hi]
    simp [List.getD, hi]
  rw [d, h0]; simp [orN]
theorem orN_hit {l : List Int} {i : Nat} (hi : i < l.length) (h0 : ¬ l.getD i 0 = 0) : orN (l.drop i) = l.getD i 0 := by
  have d : l.drop i = l.getD i 0 :: l.drop (i + 1) := by
    rw [List.drop_eq_getElem_cons hi]
    simp [List.getD, hi]
  rw [d, orN, if_pos h0]
theorem orN_cmp (a b : It) : orN [cmpN a.1 b.1, 0, cmpN a.2 b.2] = cmpI a b := by
  unfold orN cmpI
  split
  · rfl
  · unfold orN orN
    simp only [ne_eq, not_true_eq_false, if_false]
    split
    · rfl
    · rename_i h; simp only [orN]; omega
/-- The rest behind the first one, when the last one takes its place. -/
theorem tail_perm {P : List It} (h : 2 ≤ P.length) : ((P.take (P.length - 1)).set 0 (at' P (P.length - 1))).Perm P.tail := by
  match P, h with
  | p :: q :: l, _ =>
    have e : at' (p :: q :: l) ((p :: q :: l).length - 1) = (q :: l)[l.length]'(by simp) := by simp [at', List.getD]
    rw [e, List.tail_cons]
    have e2 : (p :: q :: l).take ((p :: q :: l).length - 1) = p :: (q :: l).take l.length := by simp
    rw [e2, List.set_cons_zero]
    have k : ((q :: l)[l.length]'(by simp) :: (q :: l).take l.length).Perm ((q :: l).take l.length ++ [(q :: l)[l.length]'(by simp)]) := List.perm_append_comm (l₁ := [(q :: l)[l.length]'(by simp)])
    have e3 : (q :: l).take l.length ++ [(q :: l)[l.length]'(by simp)] = q :: l := by
      rw [List.take_append_getElem]; simp
    exact k.trans (List.Perm.of_eq e3)
theorem flat_take {α : Type} {f : α → List Value} {sz : Nat} (hf : ∀ x, (f x).length = sz) : ∀ (l : List α) (k : Nat), (l.flatMap f).take (k * sz) = (l.take k).flatMap f
  | [], k => by simp
  | x :: l, 0 => by simp
  | x :: l, k + 1 => by
    rw [List.flatMap_cons, List.take_succ_cons, List.flatMap_cons, ← flat_take hf l k, Nat.add_mul, Nat.one_mul, Nat.add_comm, ← hf x, List.take_length_add_append]
theorem at_take (l : List It) {k j : Nat} (hj : j < k) : at' (l.take k) j = at' l j := by
  simp only [at', List.getD, List.getElem?_take, if_pos hj]
theorem HeapP.take {l : List It} (h : HeapP l) (k : Nat) : HeapP (l.take k) := by
  intro j q1 q2
  rw [List.length_take] at q2
  rw [at_take l (by omega), at_take l (by omega)]
  exact h j q1 (by omega)
theorem head_tail {P : List It} (h : P ≠ []) : P = at' P 0 :: P.tail := by
  cases P with
  | nil => exact absurd rfl h
  | cons a l => rfl
end Go.AM

namespace Go.AM

/-! ### Looking for the way, plain: what is known, what is closed, what stands open -/
def upd (K : Int → Option Int) (y v : Int) : Int → Option Int := fun z => if z = y then some v else K z
theorem upd_self (K : Int → Option Int) (y v : Int) : upd K y v y = some v := if_pos rfl
theorem upd_ne {K : Int → Option Int} {y v z : Int} (h : z ≠ y) : upd K y v z = K z := if_neg h
structure Star (N : Int → List Int) (to : Int) (hh : Int → Int) (E : Int → List Int) (K C : Int → Option Int) (P : List It) (f0 : Int) : Prop where
  kw : ∀ x k, K x = some k → 0 ≤ k ∧ Wk N to k.toNat x
  kt : K to = some 0
  cd : ∀ x d, C x = some d → K x = some d ∧ isD N to x d.toNat ∧ d + hh x ≤ f0
  cn : ∀ x d, C x = some d → ∀ y ∈ E x, ∃ k, K y = some k ∧ k ≤ d + 1
  pk : ∀ q ∈ P, ∃ k, K q.2 = some k ∧ k + hh q.2 ≤ q.1 ∧ f0 ≤ q.1
  op : ∀ x k, K x = some k → C x = none → (k + hh x, x) ∈ P
section
variable {N : Int → List Int} {to : Int} {hh : Int → Int} {E : Int → List Int} {K C : Int → Option Int} {P : List It} {f0 : Int}
theorem Star.init (N : Int → List Int) (to : Int) (hh : Int → Int) : Star N to hh N (upd (fun _ => none) to 0) (fun _ => none) [(hh to, to)] (hh to) := by
  refine ⟨fun x k h => ?_, upd_self _ _ _, fun x d h => (by cases h), fun x d h => (by cases h), fun q hq => ?_, fun x k h _ => ?_⟩
  · unfold upd at h
    split at h
    · rename_i e; cases h; subst e; exact ⟨Int.le_refl _, .zero⟩
    · cases h
  · rw [List.mem_singleton.1 hq]; exact ⟨0, upd_self _ _ _, by simp, Int.le_refl _⟩
  · unfold upd at h
    split at h
    · rename_i e; cases h; subst e; simp
    · cases h
theorem Star.same (s : Star N to hh E K C P f0) {E' : Int → List Int} (h : ∀ x, C x ≠ none → ∀ y ∈ E' x, y ∈ E x) : Star N to hh E' K C P f0 :=
  ⟨s.kw, s.kt, s.cd, fun x d hx y hy => s.cn x d hx y (h x (by rw [hx]; simp) y hy), s.pk, s.op⟩
/-- Whoever is reached is closed, or somebody stands open who costs no more. -/
theorem Star.front (s : Star N to hh N K C P f0) (hc : ∀ x y, y ∈ N x → hh x ≤ hh y + 1) : ∀ (m : Nat) (y : Int), isD N to y m → (∃ d, C y = some d) ∨ ∃ q ∈ P, q.1 ≤ m + hh y
  | 0, y, h => by
    have e : y = to := by
      have w := h.1
      generalize hz : (0 : Nat) = z at w
      cases w with
      | zero => rfl
      | step => omega
    subst e
    cases hC : C y with
    | some d => exact .inl ⟨d, rfl⟩
    | none => exact .inr ⟨_, s.op y 0 s.kt hC, by simp⟩
  | m + 1, y, h => by
    obtain ⟨z, wz, hz⟩ := h.1.last
    have dz : isD N to z m := ⟨wz, fun e he w => h.2 (e + 1) (by omega) (.step w hz)⟩
    rcases s.front hc m z dz with ⟨d, hd⟩ | ⟨q, hq, hq2⟩
    · obtain ⟨e1, e2, _⟩ := s.cd z d hd
      have ed := e2.uniq dz
      have k0 := (s.kw z d e1).1
      obtain ⟨k, hk, hk2⟩ := s.cn z d hd y hz
      obtain ⟨j0, wj⟩ := s.kw y k hk
      have := h.le wj
      cases hC : C y with
      | some d => exact .inl ⟨d, rfl⟩
      | none => exact .inr ⟨_, s.op y k hk hC, by simp only; omega⟩
    · have := hc z y hz
      exact .inr ⟨q, hq, by omega⟩
/-- The least one is dropped, for it is closed. -/
theorem Star.drop (s : Star N to hh N K C P f0) {q : It} {P' : List It} (hP : P.Perm (q :: P')) (hq : ∀ p ∈ P, leI q p) (hC : C q.2 ≠ none) : Star N to hh N K C P' q.1 := by
  have mem : ∀ p, p ∈ P' → p ∈ P := fun p hp => hP.mem_iff.2 (List.mem_cons_of_mem _ hp)
  obtain ⟨k, hk, hk2, hf⟩ := s.pk q (hP.mem_iff.2 (List.mem_cons_self ..))
  refine ⟨s.kw, s.kt, fun x d h => ?_, s.cn, fun p hp => ?_, fun x k hx hn => ?_⟩
  · obtain ⟨a, b, c⟩ := s.cd x d h
    exact ⟨a, b, by omega⟩
  · obtain ⟨a, b, c, _⟩ := s.pk p (mem p hp)
    exact ⟨a, b, c, (hq p (mem p hp)).cost⟩
  · rcases List.mem_cons.1 (hP.mem_iff.1 (s.op x k hx hn)) with e | e
    · exact absurd (by rw [← e]; exact hn) hC
    · exact e
/-- The least one is closed: its distance is known. -/
theorem Star.close (s : Star N to hh N K C P f0) (hc : ∀ x y, y ∈ N x → hh x ≤ hh y + 1) {q : It} {P' : List It} (hP : P.Perm (q :: P')) (hq : ∀ p ∈ P, leI q p) (hC : C q.2 = none) :
    ∃ k, K q.2 = some k ∧ 0 ≤ k ∧ q.1 = k + hh q.2 ∧ isD N to q.2 k.toNat ∧ Star N to hh (fun z => if z = q.2 then [] else N z) K (upd C q.2 k) P' q.1 := by
  have mem : ∀ p, p ∈ P' → p ∈ P := fun p hp => hP.mem_iff.2 (List.mem_cons_of_mem _ hp)
  obtain ⟨k, hk, hk2, hf⟩ := s.pk q (hP.mem_iff.2 (List.mem_cons_self ..))
  obtain ⟨k0, wk⟩ := s.kw _ k hk
  have hle := (hq _ (s.op _ k hk hC)).cost
  simp only at hle
  have hdist : isD N to q.2 k.toNat := by
    obtain ⟨m, hm, dm⟩ := wk.least
    rcases s.front hc m q.2 dm with ⟨d, hd⟩ | ⟨p, hp, hp2⟩
    · rw [hC] at hd; cases hd
    · have := (hq p hp).cost
      have : m = k.toNat := by omega
      rw [← this]; exact dm
  refine ⟨k, hk, k0, by omega, hdist, s.kw, s.kt, fun x d h => ?_, fun x d h y hy => ?_, fun p hp => ?_, fun x j hx hn => ?_⟩
  · unfold upd at h
    split at h
    · rename_i e; cases h; subst e; exact ⟨hk, hdist, by omega⟩
    · obtain ⟨a, b, c⟩ := s.cd x d h
      exact ⟨a, b, by omega⟩
  · by_cases e : x = q.2
    · rw [if_pos e] at hy; cases hy
    · rw [if_neg e] at hy
      rw [upd_ne e] at h
      exact s.cn x d h y hy
  · obtain ⟨a, b, c, _⟩ := s.pk p (mem p hp)
    exact ⟨a, b, c, (hq p (mem p hp)).cost⟩
  · by_cases e : x = q.2
    · subst e; rw [upd_self] at hn; cases hn
    · rw [upd_ne e] at hn
      rcases List.mem_cons.1 (hP.mem_iff.1 (s.op x j hx hn)) with t | t
      · exact absurd (congrArg Prod.snd t) e
      · exact t
/-- A neighbour that is known well enough. -/
theorem Star.pass {x d : Int} {Pr : List Int} (s : Star N to hh (fun z => if z = x then Pr else N z) K C P f0) (hx : C x = some d) {y k : Int} (hk : K y = some k) (hd : ¬ d + 1 < k) : Star N to hh (fun z => if z = x then Pr ++ [y] else N z) K C P f0 := by
  refine ⟨s.kw, s.kt, s.cd, fun z e hz w hw => ?_, s.pk, s.op⟩
  have h := s.cn z e hz
  by_cases t : z = x
  · subst t
    rw [if_pos rfl] at h
    simp only [if_true] at hw
    rcases List.mem_append.1 hw with hw | hw
    · exact h w hw
    · rw [List.mem_singleton.1 hw]
      rw [hx] at hz; cases hz
      exact ⟨k, hk, by omega⟩
  · rw [if_neg t] at h hw
    exact h w hw
/-- A neighbour that becomes known. -/
theorem Star.push {x d : Int} {Pr : List Int} (s : Star N to hh (fun z => if z = x then Pr else N z) K C P f0) (hx : C x = some d) (hf : f0 = d + hh x) {y : Int} (hy : y ∈ N x) (hc : hh x ≤ hh y + 1) (hk : ∀ k, K y = some k → d + 1 < k) {P' : List It} (hP : P'.Perm ((d + 1 + hh y, y) :: P)) :
    Star N to hh (fun z => if z = x then Pr ++ [y] else N z) (upd K y (d + 1)) C P' f0 := by
  obtain ⟨kx, dx, _⟩ := s.cd x d hx
  have d0 := (s.kw x d kx).1
  have wy : Wk N to (d.toNat + 1) y := .step dx.1 hy
  have hCy : C y = none := by
    cases h : C y with
    | none => rfl
    | some e =>
      obtain ⟨a, b, _⟩ := s.cd y e h
      have := hk e a
      have := b.le wy
      omega
  have neK : ∀ z e, C z = some e → z ≠ y := fun z e h t => by rw [t, hCy] at h; cases h
  refine ⟨fun z k h => ?_, ?_, fun z e h => ?_, fun z e hz w hw => ?_, fun q hq => ?_, fun z k h hn => ?_⟩
  · unfold upd at h
    split at h
    · rename_i t; cases h; subst t; exact ⟨by omega, by rw [show (d + 1).toNat = d.toNat + 1 by omega]; exact wy⟩
    · exact s.kw z k h
  · by_cases t : to = y
    · have := hk 0 (by rw [← t]; exact s.kt); omega
    · rw [upd_ne t]; exact s.kt
  · rw [upd_ne (neK z e h)]; exact s.cd z e h
  · have up : ∀ w k, K w = some k → k ≤ e + 1 → ∃ k', upd K y (d + 1) w = some k' ∧ k' ≤ e + 1 := fun w k h1 h2 => by
      by_cases t : w = y
      · subst t
        have := hk k h1
        exact ⟨_, upd_self _ _ _, by omega⟩
      · exact ⟨k, by rw [upd_ne t]; exact h1, h2⟩
    have h := s.cn z e hz
    by_cases t : z = x
    · subst t
      rw [if_pos rfl] at h
      simp only [if_true] at hw
      rcases List.mem_append.1 hw with hw | hw
      · obtain ⟨k, h1, h2⟩ := h w hw
        exact up w k h1 h2
      · rw [List.mem_singleton.1 hw]
        rw [hx] at hz; cases hz
        exact ⟨_, upd_self _ _ _, by omega⟩
    · rw [if_neg t] at h hw
      obtain ⟨k, h1, h2⟩ := h w hw
      exact up w k h1 h2
  · rcases List.mem_cons.1 (hP.mem_iff.1 hq) with t | t
    · subst t
      exact ⟨d + 1, upd_self _ _ _, Int.le_refl _, by simp only; omega⟩
    · obtain ⟨k, h1, h2, h3⟩ := s.pk q t
      by_cases u : q.2 = y
      · rw [u] at h1
        have := hk k h1
        exact ⟨d + 1, by rw [u]; exact upd_self _ _ _, by omega, h3⟩
      · exact ⟨k, by rw [upd_ne u]; exact h1, h2, h3⟩
  · refine hP.mem_iff.2 ?_
    by_cases t : z = y
    · subst t
      rw [upd_self] at h; cases h
      exact List.mem_cons_self ..
    · rw [upd_ne t] at h
      exact List.mem_cons_of_mem _ (s.op z k h hn)
theorem Star.row {x : Int} {Pr : List Int} (s : Star N to hh (fun z => if z = x then Pr else N z) K C P f0) (h : ∀ y ∈ N x, y ∈ Pr) : Star N to hh N K C P f0 :=
  s.same fun z _ y hy => by
    by_cases t : z = x
    · subst t; simp only [if_true]; exact h y hy
    · simp only [if_neg t]; exact hy
end
/-- What a search has found. -/
structure Looked (N : Int → List Int) (to fr : Int) (hh : Int → Int) (C : Int → Option Int) (far : Int) : Prop where
  neg : far < 0 → far = -1 ∧ ∀ k, ¬ Wk N to k fr
  pos : 0 ≤ far → isD N to fr far.toNat
  mem : ∀ x d, C x = some d → 0 ≤ d ∧ isD N to x d.toNat ∧ (0 ≤ far → d + hh x ≤ far)
  all : ∀ x m, isD N to x m → (0 ≤ far → (m : Int) + hh x ≤ far) → C x = some (m : Int)
theorem Star.looked {N : Int → List Int} {to fr : Int} {hh : Int → Int} {K C : Int → Option Int} {P : List It} {f0 far : Int} (s : Star N to hh N K C P f0) (hc : ∀ x y, y ∈ N x → hh x ≤ hh y + 1) (h0 : hh fr = 0)
    (hf : (far = -1 ∧ C fr = none) ∨ (0 ≤ far ∧ C fr = some far ∧ f0 ≤ far)) (he : P = [] ∨ (0 ≤ far ∧ ∀ q ∈ P, far < q.1)) : Looked N to fr hh C far := by
  have key : ∀ x m, isD N to x m → (0 ≤ far → (m : Int) + hh x ≤ far) → C x = some (m : Int) := fun x m dm hle => by
    rcases s.front hc m x dm with ⟨d, hd⟩ | ⟨q, hq, hq2⟩
    · obtain ⟨a, b, _⟩ := s.cd x d hd
      have := b.uniq dm
      have := (s.kw x d a).1
      rw [hd]; congr 1; omega
    · rcases he with he | ⟨h1, h2⟩
      · rw [he] at hq; cases hq
      · have := hle h1
        have := h2 q hq
        omega
  refine ⟨fun hneg => ?_, fun hpos => ?_, fun x d hd => ?_, key⟩
  · rcases hf with ⟨e, hn⟩ | ⟨e, _⟩
    · refine ⟨e, fun k w => ?_⟩
      obtain ⟨m, _, dm⟩ := w.least
      have := key fr m dm (fun q => by omega)
      rw [hn] at this; cases this
    · omega
  · rcases hf with ⟨e, hn⟩ | ⟨_, e, _⟩
    · omega
    · exact (s.cd fr far e).2.1
  · obtain ⟨a, b, c⟩ := s.cd x d hd
    refine ⟨(s.kw x d a).1, b, fun h => ?_⟩
    rcases hf with ⟨e, hn⟩ | ⟨_, _, e⟩
    · omega
    · omega
end Go.AM
