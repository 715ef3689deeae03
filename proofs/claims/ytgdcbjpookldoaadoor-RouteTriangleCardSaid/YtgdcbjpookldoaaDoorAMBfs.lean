/- Plain: walks, distances, and what a search by breadth tells. -/
import Derived.Test.YtgdcbjpookldoaaDoorAMOps10
set_option linter.unusedSimpArgs false
set_option linter.unusedVariables false
namespace Go.AM

/-- There is a walk of so many steps. -/
inductive Wk (N : Int → List Int) (r : Int) : Nat → Int → Prop
  | zero : Wk N r 0 r
  | step {k : Nat} {b c : Int} (h : Wk N r k b) (hc : c ∈ N b) : Wk N r (k + 1) c
def isD (N : Int → List Int) (r b : Int) (d : Nat) : Prop := Wk N r d b ∧ ∀ e, e < d → ¬ Wk N r e b
theorem isD.uniq {N : Int → List Int} {r b : Int} {d e : Nat} (h : isD N r b d) (k : isD N r b e) : d = e := by
  rcases Nat.lt_trichotomy d e with q | q | q
  · exact absurd h.1 (k.2 d q)
  · exact q
  · exact absurd k.1 (h.2 e q)
theorem isD.le {N : Int → List Int} {r b : Int} {d e : Nat} (h : isD N r b d) (k : Wk N r e b) : d ≤ e := by
  rcases Nat.lt_or_ge e d with q | q
  · exact absurd k (h.2 e q)
  · exact q
theorem Wk.least {N : Int → List Int} {r b : Int} : ∀ {k : Nat}, Wk N r k b → ∃ d, d ≤ k ∧ isD N r b d := by
  intro k
  induction k using Nat.strongRecOn with
  | ind k ih =>
    intro h
    by_cases q : ∃ e, e < k ∧ Wk N r e b
    · obtain ⟨e, h1, h2⟩ := q
      obtain ⟨d, h3, h4⟩ := ih e h1 h2
      exact ⟨d, by omega, h4⟩
    · exact ⟨k, Nat.le_refl _, h, fun e he w => q ⟨e, he, w⟩⟩
theorem Wk.congr {N M : Int → List Int} {r : Int} {ok : Int → Prop} (hr : ok r) (hN : ∀ b, ok b → ∀ c, c ∈ N b → c ∈ M b ∧ ok c) : ∀ {k : Nat} {b : Int}, Wk N r k b → Wk M r k b ∧ ok b := by
  intro k b h
  induction h with
  | zero => exact ⟨.zero, hr⟩
  | step _ hc ih => exact ⟨.step ih.1 (hN _ ih.2 _ hc).1, (hN _ ih.2 _ hc).2⟩
theorem Wk.ok {N : Int → List Int} {r : Int} {ok : Int → Prop} (hr : ok r) (hN : ∀ b, ok b → ∀ c, c ∈ N b → ok c) {k : Nat} {b : Int} (h : Wk N r k b) : ok b :=
  (Wk.congr (M := N) hr (fun b hb c hc => ⟨hc, hN b hb c hc⟩) h).2
theorem Wk.trans {N : Int → List Int} {r s : Int} {j : Nat} (h : Wk N r j s) : ∀ {k : Nat} {b : Int}, Wk N s k b → Wk N r (j + k) b := by
  intro k b w
  induction w with
  | zero => exact h
  | step _ hc ih => exact .step ih hc
theorem Wk.head {N : Int → List Int} {r s b : Int} {k : Nat} (hs : s ∈ N r) (h : Wk N s k b) : Wk N r (k + 1) b := by
  have := Wk.trans (.step .zero hs) h
  rwa [Nat.zero_add, Nat.add_comm] at this
/-- The last step. -/
theorem Wk.last {N : Int → List Int} {r b : Int} {k : Nat} (h : Wk N r (k + 1) b) : ∃ c, Wk N r k c ∧ b ∈ N c := by
  cases h with
  | step h hc => exact ⟨_, h, hc⟩
/-- All are distances: -1 where none goes. -/
structure IsDist (N : Int → List Int) (n : Nat) (r : Int) (f : List Int) : Prop where
  len : f.length = n
  yes : ∀ b : Int, 0 ≤ b → b < n → 0 ≤ f.getD b.toNat 0 → isD N r b (f.getD b.toNat 0).toNat
  no : ∀ b : Int, 0 ≤ b → b < n → f.getD b.toNat 0 < 0 → f.getD b.toNat 0 = -1 ∧ ∀ k, ¬ Wk N r k b
theorem IsDist.uniq {N : Int → List Int} {n : Nat} {r : Int} {f g : List Int} (hf : IsDist N n r f) (hg : IsDist N n r g) : f = g := by
  refine List.ext_getElem (by rw [hf.len, hg.len]) fun i h1 h2 => ?_
  have e1 : f.getD i 0 = f[i] := by simp [List.getD, h1]
  have e2 : g.getD i 0 = g[i] := by simp [List.getD, h2]
  have hi : i < n := by rw [← hf.len]; exact h1
  rw [← e1, ← e2]
  have ti : ((i : Nat) : Int).toNat = i := Int.toNat_natCast i
  by_cases c1 : 0 ≤ f.getD i 0 <;> by_cases c2 : 0 ≤ g.getD i 0
  · have a := hf.yes i (by omega) (by omega) (by rw [ti]; exact c1)
    have b := hg.yes i (by omega) (by omega) (by rw [ti]; exact c2)
    rw [ti] at a b
    have := a.uniq b
    omega
  · have a := hf.yes i (by omega) (by omega) (by rw [ti]; exact c1)
    have b := hg.no i (by omega) (by omega) (by rw [ti]; omega)
    exact absurd a.1 (b.2 _)
  · have a := hf.no i (by omega) (by omega) (by rw [ti]; omega)
    have b := hg.yes i (by omega) (by omega) (by rw [ti]; exact c2)
    exact absurd b.1 (a.2 _)
  · have a := hf.no i (by omega) (by omega) (by rw [ti]; omega)
    have b := hg.no i (by omega) (by omega) (by rw [ti]; omega)
    rw [ti] at a b
    rw [a.1, b.1]
theorem IsDist.congr {N M : Int → List Int} {n : Nat} {r : Int} {f : List Int} (hf : IsDist N n r f) (h : ∀ k b, Wk N r k b ↔ Wk M r k b) : IsDist M n r f :=
  ⟨hf.len, fun b h0 h1 h2 => ⟨(h _ _).1 (hf.yes b h0 h1 h2).1, fun e he w => (hf.yes b h0 h1 h2).2 e he ((h _ _).2 w)⟩, fun b h0 h1 h2 => ⟨(hf.no b h0 h1 h2).1, fun k w => (hf.no b h0 h1 h2).2 k ((h _ _).2 w)⟩⟩

/-! ### The search -/
def visitL (d : Int) : List Int → List Int × List Int → List Int × List Int
  | [], s => s
  | b :: l, s => visitL d l (if 0 ≤ s.1.getD b.toNat 0 then s else (s.1.set b.toNat (d + 1), s.2 ++ [b]))
def bfsL (N : Int → List Int) : Nat → List Int × List Int → List (Int × Int)
  | 0, _ => []
  | _ + 1, (_, []) => []
  | k + 1, (far, a :: todo) => (a, far.getD a.toNat 0) :: bfsL N k (visitL (far.getD a.toNat 0) (N a) (far, todo))

structure Bf (N : Int → List Int) (n : Nat) (r : Int) (P C T far : List Int) : Prop where
  len : far.length = n
  dom : ∀ b ∈ P ++ C ++ T, 0 ≤ b ∧ b < n
  vis : ∀ b : Int, 0 ≤ b → b < n → (0 ≤ far.getD b.toNat 0 ↔ b ∈ P ++ C ++ T)
  dist : ∀ b ∈ P ++ C ++ T, isD N r b (far.getD b.toNat 0).toNat
  nd : (P ++ C ++ T).Nodup
  full : ∀ b ∈ P, ∀ c ∈ N b, c ∈ P ++ C ++ T
  root : r ∈ P ++ C ++ T
  mono : (P ++ C ++ T).Pairwise fun x y => far.getD x.toNat 0 ≤ far.getD y.toNat 0
  near : ∀ x ∈ C ++ T, ∀ y ∈ C ++ T, far.getD y.toNat 0 ≤ far.getD x.toNat 0 + 1
  una : ∀ i : Nat, i < n → far.getD i 0 < 0 → far.getD i 0 = -1

theorem getD_set (l : List Int) (i j : Nat) (v : Int) (hj : j < l.length) : (l.set i v).getD j 0 = if i = j then v else l.getD j 0 := by
  simp only [List.getD, List.getElem?_set]
  by_cases e : i = j
  · subst e; simp [hj]
  · simp [e]
theorem Bf.init (N : Int → List Int) (n : Nat) (r : Int) (h0 : 0 ≤ r) (h1 : r < n) : Bf N n r [] [] [r] ((List.replicate n (-1)).set r.toNat 0) := by
  have hget : ∀ i : Nat, i < n → ((List.replicate n (-1 : Int)).set r.toNat 0).getD i 0 = if r.toNat = i then 0 else -1 := fun i hi => by
    rw [getD_set _ _ _ _ (by simpa using hi)]
    by_cases e : r.toNat = i
    · rw [if_pos e, if_pos e]
    · rw [if_neg e, if_neg e]; simp [List.getD, hi]
  refine ⟨by simp, fun b hb => by simp at hb; subst hb; exact ⟨h0, h1⟩, fun b b0 b1 => ?_, fun b hb => ?_, by simp, fun b hb => by simp at hb, by simp, by simp, fun x hx y hy => ?_, fun i hi h => ?_⟩
  · rw [hget b.toNat (by omega)]
    simp only [List.nil_append, List.mem_singleton]
    by_cases e : b = r
    · subst e; simp
    · rw [if_neg (by omega)]; simp [e]
  · simp at hb; subst hb
    rw [hget b.toNat (by omega), if_pos rfl]
    exact ⟨.zero, fun e he => by simp at he⟩
  · simp at hx hy; subst hx; subst hy; omega
  · rw [hget i hi] at h ⊢
    split
    · rename_i e; rw [if_pos e] at h; omega
    · rfl
theorem Bf.pop {N : Int → List Int} {n : Nat} {r a : Int} {P T far : List Int} (x : Bf N n r P [] (a :: T) far) : Bf N n r P [a] T far := by
  have e : P ++ [] ++ a :: T = P ++ [a] ++ T := by simp
  have x' := x
  obtain ⟨h1, h2, h3, h4, h5, h6, h7, h8, h9, h10⟩ := x
  rw [e] at h2 h4 h5 h7 h8
  exact ⟨h1, h2, fun b b0 b1 => by rw [← e]; exact h3 b b0 b1, h4, h5, fun b hb c hc => by rw [← e]; exact h6 b hb c hc, h7, h8, h9, h10⟩
theorem Bf.done {N : Int → List Int} {n : Nat} {r a : Int} {P T far : List Int} (x : Bf N n r P [a] T far) (hf : ∀ c ∈ N a, c ∈ P ++ [a] ++ T) : Bf N n r (P ++ [a]) [] T far := by
  have e : P ++ [a] ++ [] ++ T = P ++ [a] ++ T := by simp
  obtain ⟨h1, h2, h3, h4, h5, h6, h7, h8, h9, h10⟩ := x
  refine ⟨h1, by rw [e]; exact h2, by rw [e]; exact h3, by rw [e]; exact h4, by rw [e]; exact h5, ?_, by rw [e]; exact h7, by rw [e]; exact h8, fun x hx y hy => h9 x (by simp at hx ⊢; exact .inr hx) y (by simp at hy ⊢; exact .inr hy), h10⟩
  intro b hb c hc
  rw [e]
  rcases List.mem_append.1 hb with hb | hb
  · exact h6 b hb c hc
  · simp at hb; subst hb; exact hf c hc
/-- Whoever is nearer than the one that is gone through has been gone through. -/
theorem Bf.ahead {N : Int → List Int} {n : Nat} {r a : Int} {P T far : List Int} (x : Bf N n r P [a] T far) (hN : ∀ b : Int, 0 ≤ b ∧ b < n → ∀ c ∈ N b, 0 ≤ c ∧ c < n) : ∀ (e : Nat), e < (far.getD a.toNat 0).toNat → ∀ p, Wk N r e p → p ∈ P := by
  have hr := x.dom r x.root
  have split : ∀ p, p ∈ P ++ [a] ++ T → p ∈ P ∨ far.getD a.toNat 0 ≤ far.getD p.toNat 0 := fun p hp => by
    rw [List.append_assoc] at hp
    rcases List.mem_append.1 hp with hp | hp
    · exact .inl hp
    · refine .inr ?_
      rcases List.mem_append.1 hp with hp | hp
      · simp at hp; subst hp; exact Int.le_refl _
      · have hm := x.mono
        exact (List.pairwise_append.1 hm).2.2 a (by simp) p hp
  intro e
  induction e with
  | zero =>
    intro he p hw
    cases hw
    rcases split _ x.root with h | h
    · exact h
    · exfalso
      have hd := x.dist _ x.root
      have h0 : (far.getD r.toNat 0).toNat ≤ 0 := hd.le .zero
      omega
  | succ e ih =>
    intro he p hw
    obtain ⟨q, hq, hpq⟩ := hw.last
    have hqP := ih (by omega) q hq
    have hpv := x.full q hqP p hpq
    rcases split p hpv with h | h
    · exact h
    · exfalso
      have hd := (x.dist p hpv).le hw
      omega
theorem Bf.new {N : Int → List Int} {n : Nat} {r a b : Int} {P T far : List Int} (x : Bf N n r P [a] T far) (hN : ∀ b : Int, 0 ≤ b ∧ b < n → ∀ c ∈ N b, 0 ≤ c ∧ c < n) (hb : b ∈ N a) (hv : ¬ 0 ≤ far.getD b.toNat 0) :
    Bf N n r P [a] (T ++ [b]) (far.set b.toNat (far.getD a.toNat 0 + 1)) := by
  have ha : a ∈ P ++ [a] ++ T := by simp
  have had := x.dom a ha
  have hbd := hN a had b hb
  have hnot : b ∉ P ++ [a] ++ T := fun q => hv ((x.vis b hbd.1 hbd.2).2 q)
  have e : P ++ [a] ++ (T ++ [b]) = (P ++ [a] ++ T) ++ [b] := by simp
  have fa : 0 ≤ far.getD a.toNat 0 := (x.vis a had.1 had.2).2 ha
  have same : ∀ c : Int, 0 ≤ c → c < n → c ≠ b → (far.set b.toNat (far.getD a.toNat 0 + 1)).getD c.toNat 0 = far.getD c.toNat 0 := fun c c0 c1 hc => by
    rw [getD_set _ _ _ _ (by rw [x.len]; omega), if_neg (by omega)]
  have sameM : ∀ c, c ∈ P ++ [a] ++ T → (far.set b.toNat (far.getD a.toNat 0 + 1)).getD c.toNat 0 = far.getD c.toNat 0 := fun c hc =>
    same c (x.dom c hc).1 (x.dom c hc).2 (fun q => hnot (q ▸ hc))
  have atb : (far.set b.toNat (far.getD a.toNat 0 + 1)).getD b.toNat 0 = far.getD a.toNat 0 + 1 := by
    rw [getD_set _ _ _ _ (by rw [x.len]; omega), if_pos rfl]
  have top : ∀ c, c ∈ P ++ [a] ++ T → far.getD c.toNat 0 ≤ far.getD a.toNat 0 + 1 := fun c hc => by
    rw [List.append_assoc] at hc
    rcases List.mem_append.1 hc with hc | hc
    · have hm := x.mono
      rw [List.append_assoc] at hm
      have := (List.pairwise_append.1 hm).2.2 c hc a (by simp)
      omega
    · exact x.near a (by simp) c hc
  have low : ∀ c, c ∈ [a] ++ T → far.getD a.toNat 0 ≤ far.getD c.toNat 0 := fun c hc => by
    rcases List.mem_append.1 hc with hc | hc
    · simp at hc; subst hc; exact Int.le_refl _
    · have hm := x.mono
      exact (List.pairwise_append.1 hm).2.2 a (by simp) c hc
  have hw : Wk N r ((far.getD a.toNat 0).toNat + 1) b := .step (x.dist a ha).1 hb
  refine ⟨by simpa using x.len, fun c hc => ?_, fun c c0 c1 => ?_, fun c hc => ?_, ?_, fun c hc d hd => ?_, ?_, ?_, fun c hc d hd => ?_, fun i hi h => ?_⟩
  · rw [e] at hc
    rcases List.mem_append.1 hc with hc | hc
    · exact x.dom c hc
    · simp at hc; subst hc; exact hbd
  · rw [e]
    by_cases q : c = b
    · subst q; rw [atb]; exact ⟨fun _ => by simp, fun _ => by omega⟩
    · rw [same c c0 c1 q, x.vis c c0 c1, List.mem_append (t := [b])]
      simp [q]
  · rw [e] at hc
    rcases List.mem_append.1 hc with hc | hc
    · rw [sameM c hc]; exact x.dist c hc
    · simp at hc; subst hc
      rw [atb]
      have et : (far.getD a.toNat 0 + 1).toNat = (far.getD a.toNat 0).toNat + 1 := by omega
      rw [et]
      refine ⟨hw, fun k hk w => ?_⟩
      cases k with
      | zero => cases w; exact hnot x.root
      | succ k =>
        obtain ⟨p, hp, hcp⟩ := w.last
        have := x.ahead hN k (by omega) p hp
        exact hnot (x.full p this c hcp)
  · rw [e, List.nodup_append]
    exact ⟨x.nd, by simp, fun c hc d hd q => by simp at hd; subst hd; exact hnot (q ▸ hc)⟩
  · rw [e]; exact List.mem_append_left _ (x.full c hc d hd)
  · rw [e]; exact List.mem_append_left _ x.root
  · rw [e, List.pairwise_append]
    refine ⟨x.mono.imp_of_mem fun {c d} hc hd h => by rw [sameM c hc, sameM d hd]; exact h, by simp, fun c hc d hd => ?_⟩
    simp at hd; subst hd
    rw [sameM c hc, atb]; exact top c hc
  · have hc' : c ∈ [a] ++ T ∨ c = b := by simp at hc ⊢; rcases hc with h | h | h; exact .inl (.inl h); exact .inl (.inr h); exact .inr h
    have hd' : d ∈ [a] ++ T ∨ d = b := by simp at hd ⊢; rcases hd with h | h | h; exact .inl (.inl h); exact .inl (.inr h); exact .inr h
    have up : ∀ c, c ∈ [a] ++ T → c ∈ P ++ [a] ++ T := fun c hc => by rw [List.append_assoc]; exact List.mem_append_right _ hc
    rcases hc' with hc2 | rfl <;> rcases hd' with hd2 | rfl
    · rw [sameM c (up c hc2), sameM d (up d hd2)]; exact x.near c hc2 d hd2
    · rw [sameM c (up c hc2), atb]; have := low c hc2; omega
    · rw [sameM d (up d hd2), atb]; have := top d (up d hd2); omega
    · rw [atb]; omega
  · have hb2 := x.len
    rw [getD_set _ _ _ _ (by omega)] at h ⊢
    split
    · rename_i q; rw [if_pos q] at h; omega
    · rename_i q; rw [if_neg q] at h; exact x.una i hi h

/-- What was seen stays. -/
theorem Bf.visit {N : Int → List Int} {n : Nat} {r a : Int} {P : List Int} (hN : ∀ b : Int, 0 ≤ b ∧ b < n → ∀ c ∈ N b, 0 ≤ c ∧ c < n) : ∀ (l : List Int) {T far : List Int}, Bf N n r P [a] T far → (∀ c ∈ l, c ∈ N a) →
    Bf N n r P [a] (visitL (far.getD a.toNat 0) l (far, T)).2 (visitL (far.getD a.toNat 0) l (far, T)).1 ∧ (∀ c ∈ l, c ∈ P ++ [a] ++ (visitL (far.getD a.toNat 0) l (far, T)).2) ∧ (∀ c ∈ T, c ∈ (visitL (far.getD a.toNat 0) l (far, T)).2) ∧
      ∀ c ∈ P ++ [a] ++ T, (visitL (far.getD a.toNat 0) l (far, T)).1.getD c.toNat 0 = far.getD c.toNat 0
  | [], T, far, x, _ => ⟨x, (fun c hc => by cases hc), (fun c hc => hc), fun c _ => rfl⟩
  | b :: l, T, far, x, hl => by
    have ha : a ∈ P ++ [a] ++ T := by simp
    have had := x.dom a ha
    have hb := hl b (by simp)
    have hbd := hN a had b hb
    unfold visitL
    by_cases hv : 0 ≤ far.getD b.toNat 0
    · rw [if_pos hv]
      obtain ⟨k1, k2, k3, k4⟩ := Bf.visit hN l x (fun c hc => hl c (List.mem_cons_of_mem _ hc))
      refine ⟨k1, fun c hc => ?_, k3, k4⟩
      rcases List.mem_cons.1 hc with rfl | hc
      · have := (x.vis c hbd.1 hbd.2).1 hv
        rcases List.mem_append.1 this with h | h
        · exact List.mem_append_left _ h
        · exact List.mem_append_right _ (k3 c h)
      · exact k2 c hc
    · rw [if_neg hv]
      have x2 := x.new hN hb hv
      have hnot : b ∉ P ++ [a] ++ T := fun q => hv ((x.vis b hbd.1 hbd.2).2 q)
      have ea : (far.set b.toNat (far.getD a.toNat 0 + 1)).getD a.toNat 0 = far.getD a.toNat 0 := by
        have : a ≠ b := fun q => hnot (q ▸ ha)
        rw [getD_set _ _ _ _ (by rw [x.len]; omega), if_neg (by omega)]
      obtain ⟨k1, k2, k3, k4⟩ := Bf.visit hN l x2 (fun c hc => hl c (List.mem_cons_of_mem _ hc))
      rw [ea] at k1 k2 k3 k4
      refine ⟨k1, fun c hc => ?_, fun c hc => k3 c (List.mem_append_left _ hc), fun c hc => ?_⟩
      · rcases List.mem_cons.1 hc with rfl | hc
        · exact List.mem_append_right _ (k3 c (by simp))
        · exact k2 c hc
      · rw [k4 c (by rw [← List.append_assoc]; exact List.mem_append_left _ hc)]
        have hcd := x.dom c hc
        have : c ≠ b := fun q => hnot (q ▸ hc)
        rw [getD_set _ _ _ _ (by rw [x.len]; omega), if_neg (by omega)]

/-- Numbers below n, each once, are n at most. -/
theorem nodup_len {n : Nat} {l : List Int} (hn : l.Nodup) (hd : ∀ b ∈ l, 0 ≤ b ∧ b < n) : l.length ≤ n := by
  have h1 : l.Perm (((List.range n).map Int.ofNat).filter fun x => decide (x ∈ l)) := by
    refine (List.perm_ext_iff_of_nodup hn ?_).2 fun x => ?_
    · refine List.filter_sublist.nodup ?_
      rw [List.nodup_iff_pairwise_ne, List.pairwise_map]
      exact (List.pairwise_lt_range).imp fun {a b} q e => by have : (a : Int) = b := e; omega
    · simp only [List.mem_filter, decide_eq_true_eq]
      refine ⟨fun hx => ⟨?_, hx⟩, fun h => h.2⟩
      have := hd x hx
      exact List.mem_map.2 ⟨x.toNat, List.mem_range.2 (by omega), by show ((x.toNat : Nat) : Int) = x; omega⟩
  have h2 := h1.length_eq
  have h3 := List.length_filter_le (fun x => decide (x ∈ l)) ((List.range n).map Int.ofNat)
  simp only [List.length_map, List.length_range] at h3
  omega

theorem bfs_all {N : Int → List Int} {n : Nat} {r : Int} (hN : ∀ b : Int, 0 ≤ b ∧ b < n → ∀ c ∈ N b, 0 ≤ c ∧ c < n) : ∀ (k : Nat) {P T far : List Int}, Bf N n r P [] T far → n ≤ P.length + k →
    ∃ far', Bf N n r (P ++ (bfsL N k (far, T)).map (·.1)) [] [] far' ∧ (∀ q ∈ bfsL N k (far, T), q.2 = far'.getD q.1.toNat 0) ∧ ∀ c ∈ P ++ T, far'.getD c.toNat 0 = far.getD c.toNat 0
  | 0, P, T, far, x, hk => by
    have hlen := nodup_len x.nd x.dom
    simp only [List.append_nil, List.length_append] at hlen
    have : T = [] := List.eq_nil_of_length_eq_zero (by omega)
    subst this
    exact ⟨far, by simpa [bfsL] using x, fun q hq => by simp [bfsL] at hq, fun c _ => rfl⟩
  | k + 1, P, [], far, x, _ => ⟨far, by simpa [bfsL] using x, fun q hq => by simp [bfsL] at hq, fun c _ => rfl⟩
  | k + 1, P, a :: T, far, x, hk => by
    have x1 := x.pop
    obtain ⟨k1, k2, k3, k4⟩ := Bf.visit hN (N a) x1 (fun c hc => hc)
    have x2 := k1.done k2
    obtain ⟨far', f1, f2, f3⟩ := bfs_all hN k x2 (by simp; omega)
    have hpa : ∀ c, c ∈ P ++ a :: T → c ∈ P ++ [a] ++ T := fun c hc => by simpa using hc
    have keep : ∀ c ∈ P ++ a :: T, far'.getD c.toNat 0 = far.getD c.toNat 0 := fun c hc => by
      have hc' := hpa c hc
      rw [f3 c, k4 c hc']
      rcases List.mem_append.1 hc' with h | h
      · exact List.mem_append_left _ h
      · exact List.mem_append_right _ (k3 c h)
    have eb : bfsL N (k + 1) (far, a :: T) = (a, far.getD a.toNat 0) :: bfsL N k ((visitL (far.getD a.toNat 0) (N a) (far, T)).1, (visitL (far.getD a.toNat 0) (N a) (far, T)).2) := rfl
    rw [eb]
    refine ⟨far', by simpa using f1, fun q hq => ?_, keep⟩
    rcases List.mem_cons.1 hq with rfl | hq
    · exact (keep a (by simp)).symm
    · exact f2 q hq

/-- What a search writes down. -/
def distL (n : Nat) (xs : List (Int × Int)) : List Int := xs.foldl (fun o q => o.set q.1.toNat q.2) (List.replicate n (-1))
theorem distL_len (n : Nat) (xs : List (Int × Int)) : (distL n xs).length = n := by
  unfold distL
  have : ∀ (xs : List (Int × Int)) (o : List Int), (xs.foldl (fun o q => o.set q.1.toNat q.2) o).length = o.length := by
    intro xs
    induction xs with
    | nil => intro o; rfl
    | cons x xs ih => intro o; rw [List.foldl_cons, ih]; simp
  rw [this]; simp
abbrev bfs (N : Int → List Int) (n : Nat) (r : Int) : List (Int × Int) := bfsL N n ((List.replicate n (-1)).set r.toNat 0, [r])
theorem fold_get : ∀ (xs : List (Int × Int)) (o g : List Int), o.length = g.length → (∀ q ∈ xs, q.2 = g.getD q.1.toNat 0) → ∀ i : Nat, i < g.length → (∃ q ∈ xs, q.1.toNat = i) ∨ o.getD i 0 = g.getD i 0 → (xs.foldl (fun o q => o.set q.1.toNat q.2) o).getD i 0 = g.getD i 0
  | [], o, g, _, _, i, _, h => by
    rcases h with ⟨q, hq, _⟩ | h
    · cases hq
    · exact h
  | x :: xs, o, g, hl, hx, i, hi, h => by
    rw [List.foldl_cons]
    refine fold_get xs _ g (by simpa using hl) (fun q hq => hx q (List.mem_cons_of_mem _ hq)) i hi ?_
    rw [getD_set _ _ _ _ (by omega)]
    by_cases e : x.1.toNat = i
    · right
      rw [if_pos e, hx x (by simp), e]
    · rw [if_neg e]
      rcases h with ⟨q, hq, hqi⟩ | h
      · rcases List.mem_cons.1 hq with rfl | hq
        · exact absurd hqi e
        · exact .inl ⟨q, hq, hqi⟩
      · exact .inr h
/-- The search tells each one that is reached, once, and how far it is. -/
theorem bfs_spec {N : Int → List Int} {n : Nat} {r : Int} (hN : ∀ b : Int, 0 ≤ b ∧ b < n → ∀ c ∈ N b, 0 ≤ c ∧ c < n) (h0 : 0 ≤ r) (h1 : r < n) :
    IsDist N n r (distL n (bfs N n r)) ∧ (∀ q ∈ bfs N n r, (0 ≤ q.1 ∧ q.1 < n) ∧ 0 ≤ q.2 ∧ isD N r q.1 q.2.toNat) ∧ (∀ k b, Wk N r k b → ∃ d, (b, d) ∈ bfs N n r) ∧ ((bfs N n r).map (·.1)).Nodup := by
  obtain ⟨far, x, hq, _⟩ := bfs_all hN n (Bf.init N n r h0 h1) (by simp)
  have e : ([] : List Int) ++ List.map (·.1) (bfsL N n ((List.replicate n (-1)).set r.toNat 0, [r])) ++ [] ++ [] = (bfs N n r).map (·.1) := by simp
  have closed : ∀ k b, Wk N r k b → b ∈ (bfs N n r).map (·.1) := by
    intro k b w
    induction w with
    | zero => have := x.root; rwa [e] at this
    | step _ hc ih => have := x.full _ (by simpa using ih) _ hc; rwa [e] at this
  have hin : ∀ q ∈ bfs N n r, q.1 ∈ ([] : List Int) ++ List.map (·.1) (bfsL N n ((List.replicate n (-1)).set r.toNat 0, [r])) ++ [] ++ [] := fun q h => by rw [e]; exact List.mem_map.2 ⟨q, h, rfl⟩
  have hfar : distL n (bfs N n r) = far := by
    refine List.ext_getElem (by rw [distL_len, x.len]) fun i g1 g2 => ?_
    have hi : i < n := by rw [← x.len]; exact g2
    have key := fold_get (bfs N n r) (List.replicate n (-1)) far (by simp [x.len]) hq i g2 (by
      by_cases hm : (i : Int) ∈ (bfs N n r).map (·.1)
      · obtain ⟨q, h, eq⟩ := List.mem_map.1 hm
        exact .inl ⟨q, h, by omega⟩
      · right
        have hv := x.vis (i : Int) (by omega) (by omega)
        rw [e, Int.toNat_natCast] at hv
        have : far.getD i 0 < 0 := by
          have := mt hv.1 hm
          omega
        rw [x.una i hi this]
        simp [List.getD, hi])
    have e1 : (distL n (bfs N n r)).getD i 0 = (distL n (bfs N n r))[i] := by simp [List.getD, g1]
    have e2 : far.getD i 0 = far[i] := by simp [List.getD, g2]
    rw [← e1, ← e2]
    exact key
  refine ⟨?_, fun q h => ?_, fun k b w => ?_, by have := x.nd; rwa [e] at this⟩
  · rw [hfar]
    refine ⟨x.len, fun b b0 b1 hb => x.dist b ((x.vis b b0 b1).1 hb), fun b b0 b1 hb => ?_⟩
    have hu := x.una b.toNat (by omega) hb
    refine ⟨hu, fun k w => ?_⟩
    have := closed k b w
    have := (x.vis b b0 b1).2 (by rw [e]; exact this)
    omega
  · have hm := hin q h
    have hd := x.dom q.1 hm
    have hv := (x.vis q.1 hd.1 hd.2).2 hm
    rw [← hq q h] at hv
    refine ⟨hd, hv, ?_⟩
    have := x.dist q.1 hm
    rwa [← hq q h] at this
  · obtain ⟨q, h, rfl⟩ := List.mem_map.1 (closed k b w)
    exact ⟨q.2, h⟩
end Go.AM
