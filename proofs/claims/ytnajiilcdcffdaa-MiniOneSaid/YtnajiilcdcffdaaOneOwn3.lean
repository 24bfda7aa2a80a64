/- Of the claim for One: the walk of the law and the plain facts behind it. No conditions. Blocks, the plain law: numberings, and refinements that come to rest. States in the order in which they are met: the plain law. Machines that are right: what the references and the program say of it. Machines that are right: what the references and the program say of it, the second half. Machines that are right: the program's own look. Small machines; the first blocks; words. Rows of blocks, and the split of blocks. The split of blocks: a numbering by the rows' keys. The program's blocks. Alive states. -/
import Derived.Test.YtnajiilcdcffdaaVm7
import Derived.Test.YtnajiilcdcffdaaOneOwn1
section
set_option linter.unusedSimpArgs false
set_option linter.unusedVariables false
namespace Go.Vm
/-- A numbering by E of n things, in the order in which kinds are met; m kinds. -/
structure Numbered (n : Nat) (E : Nat → Nat → Prop) (l : List Int) (m : Nat) : Prop where
  len : l.length = n
  same : ∀ i j, i < n → j < n → (nI l i = nI l j ↔ E i j)
  rng : ∀ i, i < n → 0 ≤ nI l i ∧ nI l i < m
  first : ∀ i, i < n → ∀ v : Nat, (v : Int) < nI l i → ∃ j, j < i ∧ nI l j = v
  all : ∀ v, v < m → ∃ j, j < n ∧ nI l j = v
/-- As 'Numbered', without the number of kinds. -/
structure Num (n : Nat) (E : Nat → Nat → Prop) (l : List Int) : Prop where
  len : l.length = n
  same : ∀ i j, i < n → j < n → (nI l i = nI l j ↔ E i j)
  rng : ∀ i, i < n → 0 ≤ nI l i
  first : ∀ i, i < n → ∀ v : Nat, (v : Int) < nI l i → ∃ j, j < i ∧ nI l j = v
theorem Numbered.num {n m : Nat} {E : Nat → Nat → Prop} {l : List Int} (h : Numbered n E l m) : Num n E l := ⟨h.len, h.same, fun i hi => (h.rng i hi).1, h.first⟩
theorem nI_take {l : List Int} {n i : Nat} (h : i < n) : nI (l.take n) i = nI l i := by
  simp only [nI, List.getD_eq_getElem?_getD, List.getElem?_take, h, if_true]
theorem Num.take {n k : Nat} {E : Nat → Nat → Prop} {l : List Int} (h : Num n E l) (hk : k ≤ n) : Num k E (l.take k) := by
  refine ⟨by rw [List.length_take, h.len]; omega, fun i j hi hj => ?_, fun i hi => ?_, fun i hi v hv => ?_⟩
  · rw [nI_take hi, nI_take hj]; exact h.same i j (by omega) (by omega)
  · rw [nI_take hi]; exact h.rng i (by omega)
  · rw [nI_take hi] at hv
    obtain ⟨j, h1, h2⟩ := h.first i (by omega) v hv
    exact ⟨j, h1, by rw [nI_take (by omega)]; exact h2⟩
theorem Num.congr {n : Nat} {E E' : Nat → Nat → Prop} {l : List Int} (h : Num n E l) (he : ∀ i j, i < n → j < n → (E i j ↔ E' i j)) : Num n E' l :=
  ⟨h.len, fun i j hi hj => (h.same i j hi hj).trans (he i j hi hj), h.rng, h.first⟩
theorem Numbered.congr {n m : Nat} {E E' : Nat → Nat → Prop} {l : List Int} (h : Numbered n E l m) (he : ∀ i j, i < n → j < n → (E i j ↔ E' i j)) : Numbered n E' l m :=
  ⟨h.len, fun i j hi hj => (h.same i j hi hj).trans (he i j hi hj), h.rng, h.first, h.all⟩
/-- There is one numbering alone. -/
theorem Num.unique {n : Nat} {E : Nat → Nat → Prop} {l l' : List Int} (h : Num n E l) (h' : Num n E l') : l = l' := by
  refine nI_ext (by rw [h.len, h'.len]) fun i hi => ?_
  rw [h.len] at hi
  induction i using Nat.strongRecOn with
  | ind i ih =>
    have aux : ∀ {l l' : List Int}, Num n E l → Num n E l' → (∀ m, m < i → m < n → nI l m = nI l' m) → ¬ nI l i < nI l' i := by
      intro l l' h h' ih hlt
      have h0 := h.rng i hi
      obtain ⟨j, h1, h2⟩ := h'.first i hi (nI l i).toNat (by omega)
      have h3 := ih j h1 (by omega)
      have h4 : nI l j = nI l i := by omega
      have h5 := (h.same j i (by omega) hi).1 h4
      have h6 := (h'.same j i (by omega) hi).2 h5
      omega
    have a1 := aux h h' fun m hm hmn => ih m hm hmn
    have a2 := aux h' h fun m hm hmn => (ih m hm hmn).symm
    omega

theorem sub_le : ∀ {l L : List Nat}, l.Nodup → (∀ x ∈ l, x ∈ L) → l.length ≤ L.length
  | [], _, _, _ => by simp
  | x :: l, L, hn, h => by
    rw [List.nodup_cons] at hn
    have hx := h x (List.mem_cons_self ..)
    have := sub_le (l := l) (L := L.erase x) hn.2 (fun y hy => (List.mem_erase_of_ne (fun (e : y = x) => hn.1 (e ▸ hy))).2 (h y (List.mem_cons_of_mem _ hy)))
    rw [List.length_erase_of_mem hx] at this
    have : 0 < L.length := List.length_pos_of_mem hx
    simp only [List.length_cons]
    omega
/-- As many places as are met there are. -/
theorem onto_le {a b : Nat} {φ : Nat → Nat} (h : ∀ u, u < b → ∃ v, v < a ∧ φ v = u) : b ≤ a := by
  have := sub_le (l := List.range b) (L := (List.range a).map φ) List.nodup_range (fun u hu => by
    obtain ⟨v, h1, h2⟩ := h u (List.mem_range.1 hu)
    exact List.mem_map.2 ⟨v, List.mem_range.2 h1, h2⟩)
  simpa using this
theorem onto_inj {a : Nat} {φ : Nat → Nat} (h : ∀ u, u < a → ∃ v, v < a ∧ φ v = u) {x y : Nat} (hx : x < a) (hy : y < a) (e : φ x = φ y) : x = y := by
  apply Classical.byContradiction
  intro hne
  have := sub_le (l := List.range a) (L := ((List.range a).erase x).map φ) List.nodup_range (fun u hu => by
    obtain ⟨v, h1, h2⟩ := h u (List.mem_range.1 hu)
    by_cases hv : v = x
    · exact List.mem_map.2 ⟨y, (List.mem_erase_of_ne (fun e => hne e.symm)).2 (List.mem_range.2 hy), by rw [← e, ← hv]; exact h2⟩
    · exact List.mem_map.2 ⟨v, (List.mem_erase_of_ne hv).2 (List.mem_range.2 h1), h2⟩)
  rw [List.length_map, List.length_erase_of_mem (List.mem_range.2 hx), List.length_range] at this
  omega
theorem Numbered.le {n m : Nat} {E : Nat → Nat → Prop} {l : List Int} (h : Numbered n E l m) : m ≤ n := by
  refine onto_le (φ := fun j => (nI l j).toNat) fun u hu => ?_
  obtain ⟨j, h1, h2⟩ := h.all u hu
  exact ⟨j, h1, by simp only [h2]; rfl⟩
/-- A finer numbering has more kinds, or is the same. -/
theorem Numbered.finer {n m m' : Nat} {E E' : Nat → Nat → Prop} {l l' : List Int} (h : Numbered n E l m) (h' : Numbered n E' l' m') (hf : ∀ i j, i < n → j < n → E' i j → E i j) :
    m ≤ m' ∧ (m = m' → ∀ i j, i < n → j < n → E i j → E' i j) := by
  have hc : ∀ v, v < m' → ∃ j, j < n ∧ nI l' j = v := h'.all
  obtain ⟨g, hg⟩ : ∃ g : Nat → Nat, ∀ v, v < m' → g v < n ∧ nI l' (g v) = v :=
    ⟨fun v => if hv : v < m' then (hc v hv).choose else 0, fun v hv => by simp only [hv, dite_true]; exact (hc v hv).choose_spec⟩
  have key : ∀ i, i < n → (nI l' i).toNat < m' ∧ nI l (g (nI l' i).toNat) = nI l i := by
    intro i hi
    have h1 := h'.rng i hi
    have h2 : (nI l' i).toNat < m' := by omega
    obtain ⟨h3, h4⟩ := hg _ h2
    exact ⟨h2, (h.same _ _ h3 hi).2 (hf _ _ h3 hi ((h'.same _ _ h3 hi).1 (by omega)))⟩
  have onto : ∀ u, u < m → ∃ v, v < m' ∧ (fun v => (nI l (g v)).toNat) v = u := by
    intro u hu
    obtain ⟨j, h1, h2⟩ := h.all u hu
    obtain ⟨h3, h4⟩ := key j h1
    exact ⟨_, h3, by simp only [h4, h2]; rfl⟩
  refine ⟨onto_le onto, fun e i j hi hj hE => ?_⟩
  subst e
  obtain ⟨a1, a2⟩ := key i hi
  obtain ⟨b1, b2⟩ := key j hj
  have h1 := (h.same i j hi hj).2 hE
  have h2 := onto_inj onto a1 b1 (by simp only [a2, b2, h1])
  have h3 := h'.rng i hi
  have h4 := h'.rng j hj
  exact (h'.same i j hi hj).1 (by omega)

/-- What t steps don't tell apart. -/
def Eqv (K : Nat) (to : Nat → Nat → Nat) (mark : Nat → Int) : Nat → Nat → Nat → Prop
  | 0, i, j => mark i = mark j
  | t + 1, i, j => Eqv K to mark t i j ∧ ∀ k, k < K → Eqv K to mark t (to i k) (to j k)
section
variable {K N : Nat} {to : Nat → Nat → Nat} {mark : Nat → Int}
theorem Eqv.refl : ∀ t i, Eqv K to mark t i i
  | 0, i => rfl
  | t + 1, i => ⟨Eqv.refl t i, fun k _ => Eqv.refl t _⟩
theorem Eqv.symm : ∀ {t i j : Nat}, Eqv K to mark t i j → Eqv K to mark t j i
  | 0, i, j, h => Eq.symm h
  | t + 1, i, j, h => ⟨Eqv.symm h.1, fun k hk => Eqv.symm (h.2 k hk)⟩
theorem Eqv.trans : ∀ {t i j l : Nat}, Eqv K to mark t i j → Eqv K to mark t j l → Eqv K to mark t i l
  | 0, i, j, l, h, g => Eq.trans h g
  | t + 1, i, j, l, h, g => ⟨Eqv.trans h.1 g.1, fun k hk => Eqv.trans (h.2 k hk) (g.2 k hk)⟩
/-- At rest, for good. -/
theorem Eqv.rest (hto : ∀ i k, i < N → k < K → to i k < N) {t : Nat} (h : ∀ i j, i < N → j < N → Eqv K to mark t i j → Eqv K to mark (t + 1) i j) :
    ∀ s i j, i < N → j < N → Eqv K to mark t i j → Eqv K to mark (t + s) i j
  | 0, i, j, _, _, e => e
  | s + 1, i, j, hi, hj, e => by
    have e1 := h i j hi hj e
    exact ⟨Eqv.rest hto h s i j hi hj e, fun k hk => Eqv.rest hto h s _ _ (hto i k hi hk) (hto j k hj hk) (e1.2 k hk)⟩
theorem Eqv.less : ∀ {s t i j : Nat}, s ≤ t → Eqv K to mark t i j → Eqv K to mark s i j
  | s, 0, i, j, h, e => by have : s = 0 := by omega
                           subst this; exact e
  | s, t + 1, i, j, h, e => by
    by_cases hs : s = t + 1
    · subst hs; exact e
    · exact Eqv.less (by omega) e.1
theorem Eqv.all (hto : ∀ i k, i < N → k < K → to i k < N) {t : Nat} (h : ∀ i j, i < N → j < N → Eqv K to mark t i j → Eqv K to mark (t + 1) i j) {i j : Nat} (hi : i < N) (hj : j < N) :
    Eqv K to mark t i j ↔ ∀ s, Eqv K to mark s i j := by
  refine ⟨fun e s => ?_, fun e => e t⟩
  by_cases hs : s ≤ t
  · exact Eqv.less hs e
  · have := Eqv.rest hto h (s - t) i j hi hj e
    rwa [show t + (s - t) = s by omega] at this
/-- There is a numbering. -/
theorem Numbered.ex {E : Nat → Nat → Prop} (hr : ∀ i, E i i) (hs : ∀ i j, E i j → E j i) (ht : ∀ i j k, E i j → E j k → E i k) : ∀ n, ∃ l m, Numbered n E l m
  | 0 => ⟨[], 0, ⟨rfl, fun i j hi => by omega, fun i hi => by omega, fun i hi => by omega, fun v hv => by omega⟩⟩
  | n + 1 => by
    obtain ⟨l, m, h⟩ := Numbered.ex hr hs ht n
    have hl := h.len
    have old : ∀ {x : Int} {i : Nat}, i < n → nI (l ++ [x]) i = nI l i := fun {x i} hi => by rw [nI_app, if_pos (by omega)]
    have new : ∀ {x : Int}, nI (l ++ [x]) n = x := fun {x} => by rw [nI_app, if_neg (by omega), hl, Nat.sub_self, nI_one]
    by_cases hj : ∃ j, j < n ∧ E j n
    · obtain ⟨j, h1, h2⟩ := hj
      refine ⟨l ++ [nI l j], m, ⟨by simp [hl], fun a b ha hb => ?_, fun i hi => ?_, fun i hi v hv => ?_, fun v hv => ?_⟩⟩
      · by_cases ea : a = n
        · subst ea
          by_cases eb : b = a
          · subst eb; exact ⟨fun _ => hr _, fun _ => rfl⟩
          · rw [new, old (by omega), h.same j b h1 (by omega)]
            exact ⟨fun e => ht _ _ _ (hs _ _ h2) e, fun e => ht _ _ _ h2 e⟩
        · by_cases eb : b = n
          · subst eb
            rw [new, old (by omega), h.same a j (by omega) h1]
            exact ⟨fun e => ht _ _ _ e h2, fun e => ht _ _ _ e (hs _ _ h2)⟩
          · rw [old (by omega), old (by omega)]; exact h.same a b (by omega) (by omega)
      · by_cases e : i = n
        · subst e; rw [new]; exact h.rng j h1
        · rw [old (by omega)]; exact h.rng i (by omega)
      · by_cases e : i = n
        · subst e
          rw [new] at hv
          obtain ⟨j', g1, g2⟩ := h.first j h1 v hv
          exact ⟨j', by omega, by rw [old (by omega)]; exact g2⟩
        · rw [old (by omega)] at hv
          obtain ⟨j', g1, g2⟩ := h.first i (by omega) v hv
          exact ⟨j', g1, by rw [old (by omega)]; exact g2⟩
      · obtain ⟨j', g1, g2⟩ := h.all v hv
        exact ⟨j', by omega, by rw [old g1]; exact g2⟩
    · refine ⟨l ++ [(m : Int)], m + 1, ⟨by simp [hl], fun a b ha hb => ?_, fun i hi => ?_, fun i hi v hv => ?_, fun v hv => ?_⟩⟩
      · by_cases ea : a = n
        · subst ea
          by_cases eb : b = a
          · subst eb; exact ⟨fun _ => hr _, fun _ => rfl⟩
          · rw [new, old (by omega)]
            have := h.rng b (by omega)
            exact ⟨fun e => by omega, fun e => absurd ⟨b, by omega, hs _ _ e⟩ hj⟩
        · by_cases eb : b = n
          · subst eb
            rw [new, old (by omega)]
            have := h.rng a (by omega)
            exact ⟨fun e => by omega, fun e => absurd ⟨a, by omega, e⟩ hj⟩
          · rw [old (by omega), old (by omega)]; exact h.same a b (by omega) (by omega)
      · by_cases e : i = n
        · subst e; rw [new]; omega
        · rw [old (by omega)]; have := h.rng i (by omega); omega
      · by_cases e : i = n
        · subst e
          rw [new] at hv
          obtain ⟨j', g1, g2⟩ := h.all v (by omega)
          exact ⟨j', g1, by rw [old g1]; exact g2⟩
        · rw [old (by omega)] at hv
          obtain ⟨j', g1, g2⟩ := h.first i (by omega) v hv
          exact ⟨j', g1, by rw [old (by omega)]; exact g2⟩
      · by_cases e : v = m
        · exact ⟨n, by omega, by rw [new, e]⟩
        · obtain ⟨j', g1, g2⟩ := h.all v (by omega)
          exact ⟨j', by omega, by rw [old g1]; exact g2⟩
/-- The refinements come to rest before as many steps as there are states. -/
theorem Eqv.rests (hN : 0 < N) : ∃ t, t < N ∧ ∀ i j, i < N → j < N → Eqv K to mark t i j → Eqv K to mark (t + 1) i j := by
  apply Classical.byContradiction
  intro hno
  have key : ∀ t, t ≤ N → ∃ l m, Numbered N (Eqv K to mark t) l m ∧ t + 1 ≤ m := by
    intro t
    induction t with
    | zero =>
      intro _
      obtain ⟨l, m, h⟩ := Numbered.ex (E := Eqv K to mark 0) (Eqv.refl 0) (fun _ _ => Eqv.symm) (fun _ _ _ => Eqv.trans) N
      exact ⟨l, m, h, by have := h.rng 0 hN; omega⟩
    | succ t ih =>
      intro ht
      obtain ⟨l, m, h, hm⟩ := ih (by omega)
      obtain ⟨l', m', h'⟩ := Numbered.ex (E := Eqv K to mark (t + 1)) (Eqv.refl _) (fun _ _ => Eqv.symm) (fun _ _ _ => Eqv.trans) N
      obtain ⟨h1, h2⟩ := h.finer h' fun i j _ _ e => e.1
      refine ⟨l', m', h', ?_⟩
      by_cases e : m = m'
      · exact absurd ⟨t, by omega, h2 e⟩ hno
      · omega
  obtain ⟨l, m, h, hm⟩ := key N (Nat.le_refl _)
  have := h.le
  omega
theorem Eqv.atN (hN : 0 < N) (hto : ∀ i k, i < N → k < K → to i k < N) {i j : Nat} (hi : i < N) (hj : j < N) {t : Nat} (ht : N ≤ t + 1) : Eqv K to mark t i j ↔ ∀ s, Eqv K to mark s i j := by
  obtain ⟨t0, h1, h2⟩ := Eqv.rests (K := K) (to := to) (mark := mark) hN
  refine ⟨fun e s => ?_, fun e => e t⟩
  exact (Eqv.all hto h2 hi hj).1 (Eqv.less (by omega) e) s
end
end Go.Vm
end
section
set_option linter.unusedSimpArgs false
set_option linter.unusedVariables false
namespace Go.Vm
/-- Where class c leads from state i of finished rows and the one in the making. -/
def tg (rs : List Rw) (row : List Int) (i c : Nat) : Int := if i < rs.length then nI (nR rs i).2 c else nI row c
/-- The places that have been looked at. -/
def Dn (K : Nat) (rs : List Rw) (row : List Int) (i c : Nat) : Prop := (i < rs.length ∧ c < K) ∨ (i = rs.length ∧ c < row.length)
def Bef (i' c' i c : Nat) : Prop := i' < i ∨ (i' = i ∧ c' < c)
/-- src i c: where class c leads from the i-th state that was met, in the old numbers. -/
structure OInv (n K : Nat) (src : Nat → Nat → Int) (L : List Nat) (num : List Int) (rs : List Rw) (row : List Int) : Prop where
  nd : L.Nodup
  lt : ∀ j, j < L.length → nN L j < n
  zero : 0 < L.length ∧ nN L 0 = 0
  nlen : num.length = n
  num : ∀ s, s < n → (nI num s = -1 ∧ s ∉ L) ∨ (0 ≤ nI num s ∧ L[(nI num s).toNat]? = some s)
  rl : ∀ i, i < rs.length → (nR rs i).2.length = K
  done : ∀ i c, Dn K rs row i c → (src (nN L i) c < 0 ∧ tg rs row i c = src (nN L i) c) ∨ (0 ≤ src (nN L i) c ∧ 0 ≤ tg rs row i c ∧ L[(tg rs row i c).toNat]? = some (src (nN L i) c).toNat)
  reach : ∀ v, 1 ≤ v → v < L.length → ∃ i c, i < v ∧ Dn K rs row i c ∧ tg rs row i c = v
  first : ∀ i c, Dn K rs row i c → ∀ w : Nat, 1 ≤ w → (w : Int) < tg rs row i c → ∃ i' c', Bef i' c' i c ∧ Dn K rs row i' c' ∧ tg rs row i' c' = w
  le : rs.length ≤ L.length
section
variable {n K : Nat} {src : Nat → Nat → Int} {L : List Nat} {num : List Int} {rs : List Rw} {row : List Int}
theorem Dn.old {x : Int} {i c : Nat} (h : Dn K rs row i c) : Dn K rs (row ++ [x]) i c := by
  rcases h with h | h
  · exact .inl h
  · exact .inr ⟨h.1, by simp; omega⟩
theorem Dn.cases {x : Int} {i c : Nat} (h : Dn K rs (row ++ [x]) i c) : Dn K rs row i c ∨ (i = rs.length ∧ c = row.length) := by
  rcases h with h | h
  · exact .inl (.inl h)
  · simp at h
    by_cases e : c = row.length
    · exact .inr ⟨h.1, e⟩
    · exact .inl (.inr ⟨h.1, by omega⟩)
theorem tg_old {x : Int} {i c : Nat} (h : Dn K rs row i c) : tg rs (row ++ [x]) i c = tg rs row i c := by
  unfold tg
  split
  · rfl
  · rcases h with h | h
    · omega
    · rw [nI_app, if_pos h.2]
theorem tg_new {x : Int} : tg rs (row ++ [x]) rs.length row.length = x := by
  unfold tg
  rw [if_neg (by omega), nI_app, if_neg (by omega), Nat.sub_self, nI_one]
theorem Dn.lt {i c : Nat} (h : Dn K rs row i c) (hr : rs.length < L.length) : i < L.length := by
  rcases h with h | h <;> omega
theorem nN_old {x : Nat} {i : Nat} (h : i < L.length) : nN (L ++ [x]) i = nN L i := by rw [nN_app, if_pos h]
theorem Dn.bef {i c : Nat} (hk : row.length < K) (h : Dn K rs row i c) : Bef i c rs.length row.length := by
  rcases h with h | h
  · exact .inl h.1
  · exact .inr h

/-- It leads nowhere, or to a state that was met. -/
theorem OInv.put (h : OInv n K src L num rs row) (hi : rs.length < L.length) (hk : row.length < K) {x : Int}
    (hx : (src (nN L rs.length) row.length < 0 ∧ x = src (nN L rs.length) row.length) ∨ (0 ≤ src (nN L rs.length) row.length ∧ 0 ≤ x ∧ L[x.toNat]? = some (src (nN L rs.length) row.length).toNat)) : OInv n K src L num rs (row ++ [x]) := by
  refine ⟨h.nd, h.lt, h.zero, h.nlen, h.num, h.rl, fun i c hd => ?_, fun v hv hvl => ?_, fun i c hd w hw hwt => ?_, h.le⟩
  · rcases hd.cases with hd | ⟨rfl, rfl⟩
    · rw [tg_old hd]; exact h.done i c hd
    · rw [tg_new]; exact hx
  · obtain ⟨i, c, g1, g2, g3⟩ := h.reach v hv hvl
    exact ⟨i, c, g1, g2.old, by rw [tg_old g2]; exact g3⟩
  · rcases hd.cases with hd | ⟨rfl, rfl⟩
    · rw [tg_old hd] at hwt
      obtain ⟨i', c', g1, g2, g3⟩ := h.first i c hd w hw hwt
      exact ⟨i', c', g1, g2.old, by rw [tg_old g2]; exact g3⟩
    · rw [tg_new] at hwt
      have hwl : w < L.length := by
        rcases hx with hx | hx
        · omega
        · have := (List.getElem?_eq_some_iff.1 hx.2.2).1; omega
      obtain ⟨i, c, g1, g2, g3⟩ := h.reach w hw hwl
      exact ⟨i, c, g2.bef hk, g2.old, by rw [tg_old g2]; exact g3⟩
/-- It leads to a state that is met for the first time. -/
theorem OInv.meet (h : OInv n K src L num rs row) (hi : rs.length < L.length) (hk : row.length < K) {s : Nat} (hs : s < n) (hsrc : src (nN L rs.length) row.length = s) (hnum : nI num s = -1) :
    OInv n K src (L ++ [s]) (num.set s L.length) rs (row ++ [(L.length : Int)]) := by
  have hnl := h.nlen
  have hmem : s ∉ L := by
    rcases h.num s hs with g | g
    · exact g.2
    · omega
  have h0 := h.zero
  have hget : ∀ {j x : Nat}, L[j]? = some x → (L ++ [s])[j]? = some x := fun {j x} e => by
    rw [List.getElem?_append_left (List.getElem?_eq_some_iff.1 e).1]; exact e
  refine ⟨?_, fun j hj => ?_, ?_, by simpa using hnl, fun x hx => ?_, h.rl, fun i c hd => ?_, fun v hv hvl => ?_, fun i c hd w hw hwt => ?_, by simp; have := h.le; omega⟩
  · rw [List.nodup_append]
    exact ⟨h.nd, by simp, by simp; intro a ha e; exact hmem (e ▸ ha)⟩
  · simp at hj
    by_cases e : j = L.length
    · subst e; rw [nN_app, if_neg (by omega), Nat.sub_self, nN_one]; exact hs
    · rw [nN_old (by omega)]; exact h.lt j (by omega)
  · exact ⟨by simp, by rw [nN_old h0.1]; exact h0.2⟩
  · rw [nI_set (by omega)]
    by_cases e : s = x
    · subst e
      rw [if_pos rfl]
      exact .inr ⟨by omega, by simp⟩
    · rw [if_neg e]
      rcases h.num x hx with g | g
      · exact .inl ⟨g.1, by simp; exact ⟨g.2, fun e' => e e'.symm⟩⟩
      · exact .inr ⟨g.1, hget g.2⟩
  · rcases hd.cases with hd | ⟨rfl, rfl⟩
    · rw [tg_old hd, nN_old (hd.lt hi)]
      rcases h.done i c hd with g | g
      · exact .inl g
      · exact .inr ⟨g.1, g.2.1, hget g.2.2⟩
    · rw [tg_new, nN_old hi, hsrc]
      exact .inr ⟨by omega, by omega, by simp⟩
  · simp at hvl
    by_cases e : v = L.length
    · subst e
      exact ⟨rs.length, row.length, hi, .inr ⟨rfl, by simp⟩, tg_new⟩
    · obtain ⟨i, c, g1, g2, g3⟩ := h.reach v hv (by omega)
      exact ⟨i, c, g1, g2.old, by rw [tg_old g2]; exact g3⟩
  · rcases hd.cases with hd | ⟨rfl, rfl⟩
    · rw [tg_old hd] at hwt
      obtain ⟨i', c', g1, g2, g3⟩ := h.first i c hd w hw hwt
      exact ⟨i', c', g1, g2.old, by rw [tg_old g2]; exact g3⟩
    · rw [tg_new] at hwt
      obtain ⟨i, c, g1, g2, g3⟩ := h.reach w hw (by omega)
      exact ⟨i, c, g2.bef hk, g2.old, by rw [tg_old g2]; exact g3⟩
/-- A row is finished. -/
theorem OInv.next (h : OInv n K src L num rs row) (hi : rs.length < L.length) (hk : row.length = K) (b : Bool) : OInv n K src L num (rs ++ [(b, row)]) [] := by
  have hd : ∀ i c, Dn K (rs ++ [(b, row)]) [] i c → Dn K rs row i c := by
    intro i c hd
    rcases hd with hd | hd
    · simp at hd
      by_cases e : i = rs.length
      · exact .inr ⟨e, by omega⟩
      · exact .inl ⟨by omega, hd.2⟩
    · simp at hd
  have hu : ∀ i c, Dn K rs row i c → Dn K (rs ++ [(b, row)]) [] i c := by
    intro i c hd
    rcases hd with hd | hd
    · exact .inl ⟨by simp; omega, hd.2⟩
    · exact .inl ⟨by simp; omega, by omega⟩
  have ht : ∀ i c, Dn K rs row i c → tg (rs ++ [(b, row)]) [] i c = tg rs row i c := by
    intro i c hd
    unfold tg
    rcases hd with hd | hd
    · rw [if_pos (by simp; omega), if_pos hd.1, nR_app, if_pos hd.1]
    · rw [if_pos (by simp; omega), if_neg (by omega), nR_app, if_neg (by omega), hd.1, Nat.sub_self, nR_one]
  refine ⟨h.nd, h.lt, h.zero, h.nlen, h.num, fun i hi' => ?_, fun i c g => ?_, fun v hv hvl => ?_, fun i c g w hw hwt => ?_, by simp; omega⟩
  · simp at hi'
    rw [nR_app]
    split
    · rename_i e; exact h.rl i e
    · have : i - rs.length = 0 := by omega
      rw [this, nR_one]; exact hk
  · rw [ht _ _ (hd _ _ g)]; exact h.done i c (hd _ _ g)
  · obtain ⟨i, c, g1, g2, g3⟩ := h.reach v hv hvl
    exact ⟨i, c, g1, hu _ _ g2, by rw [ht _ _ g2]; exact g3⟩
  · rw [ht _ _ (hd _ _ g)] at hwt
    obtain ⟨i', c', g1, g2, g3⟩ := h.first i c (hd _ _ g) w hw hwt
    exact ⟨i', c', g1, hu _ _ g2, by rw [ht _ _ g2]; exact g3⟩
theorem OInv.start {n K : Nat} {src : Nat → Nat → Int} {num : List Int} (hn : 0 < n) (hl : num.length = n) (h : ∀ s, s < n → nI num s = -1) : OInv n K src [0] (num.set 0 0) [] [] := by
  refine ⟨by simp, fun j hj => ?_, ⟨by simp, rfl⟩, by simpa using hl, fun s hs => ?_, fun i hi => by simp at hi, fun i c hd => ?_, fun v hv hvl => ?_, fun i c hd => ?_, by simp⟩
  · simp at hj; subst hj; exact hn
  · rw [nI_set (by omega)]
    by_cases e : 0 = s
    · subst e; rw [if_pos rfl]; exact .inr ⟨by omega, rfl⟩
    · rw [if_neg e]; exact .inl ⟨h s hs, by simp; omega⟩
  · rcases hd with hd | hd <;> simp at hd
  · simp at hvl; omega
  · rcases hd with hd | hd <;> simp at hd
end

/-- Rows whose states are numbered as they are met. -/
structure Ordered (K : Nat) (rs : List Rw) : Prop where
  pos : 0 < rs.length
  rl : ∀ i, i < rs.length → (nR rs i).2.length = K
  rng : ∀ i c, i < rs.length → c < K → -1 ≤ nI (nR rs i).2 c ∧ nI (nR rs i).2 c < rs.length
  reach : ∀ v, 1 ≤ v → v < rs.length → ∃ i c, i < v ∧ c < K ∧ nI (nR rs i).2 c = v
  first : ∀ i c, i < rs.length → c < K → ∀ w : Nat, 1 ≤ w → (w : Int) < nI (nR rs i).2 c → ∃ i' c', Bef i' c' i c ∧ c' < K ∧ nI (nR rs i').2 c' = w
/-- What Order makes: L tells the old number of each new state. -/
structure OrdOf (n K : Nat) (src : Nat → Nat → Int) (L : List Nat) (rs : List Rw) : Prop where
  nd : L.Nodup
  lt : ∀ j, j < L.length → nN L j < n
  zero : nN L 0 = 0
  len : rs.length = L.length
  ord : Ordered K rs
  to : ∀ i c, i < L.length → c < K → (src (nN L i) c < 0 ∧ nI (nR rs i).2 c = src (nN L i) c) ∨ (0 ≤ src (nN L i) c ∧ 0 ≤ nI (nR rs i).2 c ∧ L[(nI (nR rs i).2 c).toNat]? = some (src (nN L i) c).toNat)
theorem OInv.fin {n K : Nat} {src : Nat → Nat → Int} {L : List Nat} {num : List Int} {rs : List Rw} (h : OInv n K src L num rs []) (he : L.length ≤ rs.length) (hs : ∀ s c, s < n → c < K → -1 ≤ src s c) : OrdOf n K src L rs := by
  have hlen : rs.length = L.length := by have := h.le; omega
  have hD : ∀ {i c}, i < rs.length → c < K → Dn K rs [] i c := fun a b => .inl ⟨a, b⟩
  have hT : ∀ {i c}, i < rs.length → tg rs [] i c = nI (nR rs i).2 c := fun a => by unfold tg; rw [if_pos a]
  have hD' : ∀ {i c}, Dn K rs [] i c → i < rs.length ∧ c < K := fun hd => by
    rcases hd with hd | hd
    · exact hd
    · simp at hd
  refine ⟨h.nd, h.lt, h.zero.2, hlen, ⟨by have := h.zero.1; omega, h.rl, fun i c hi hc => ?_, fun v hv hvl => ?_, fun i c hi hc w hw hwt => ?_⟩, fun i c hi hc => ?_⟩
  · have g := h.done i c (hD hi hc)
    rw [hT hi] at g
    have hsr := hs (nN L i) c (h.lt i (by omega)) hc
    rcases g with g | g
    · omega
    · have := (List.getElem?_eq_some_iff.1 g.2.2).1; omega
  · obtain ⟨i, c, g1, g2, g3⟩ := h.reach v hv (by omega)
    obtain ⟨a, b⟩ := hD' g2
    exact ⟨i, c, g1, b, by rw [hT a] at g3; exact g3⟩
  · rw [← hT hi] at hwt
    obtain ⟨i', c', g1, g2, g3⟩ := h.first i c (hD hi hc) w hw hwt
    obtain ⟨a, b⟩ := hD' g2
    exact ⟨i', c', g1, b, by rw [hT a] at g3; exact g3⟩
  · have g := h.done i c (hD (by omega) hc)
    rw [hT (by omega)] at g
    exact g

/-- Two orders of the same are one. -/
theorem Ordered.unique {K : Nat} {A B : List Rw} (hA : Ordered K A) (hB : Ordered K B) {R : Nat → Nat → Prop} (h0 : R 0 0) (hlt : ∀ i j, R i j → i < A.length ∧ j < B.length)
    (hfun : ∀ i j j', R i j → R i j' → j = j') (hinj : ∀ i i' j, R i j → R i' j → i = i')
    (hto : ∀ i j c, R i j → c < K → (nI (nR A i).2 c = -1 ∧ nI (nR B j).2 c = -1) ∨ (0 ≤ nI (nR A i).2 c ∧ 0 ≤ nI (nR B j).2 c ∧ R (nI (nR A i).2 c).toNat (nI (nR B j).2 c).toNat)) :
    A.length = B.length ∧ ∀ i c, i < A.length → c < K → nI (nR A i).2 c = nI (nR B i).2 c := by
  have half : ∀ {A B : List Rw}, Ordered K A → Ordered K B → ∀ {R : Nat → Nat → Prop}, R 0 0 → (∀ i j, R i j → i < A.length ∧ j < B.length) → (∀ i j j', R i j → R i j' → j = j') → (∀ i i' j, R i j → R i' j → i = i') →
      (∀ i j c, R i j → c < K → (nI (nR A i).2 c = -1 ∧ nI (nR B j).2 c = -1) ∨ (0 ≤ nI (nR A i).2 c ∧ 0 ≤ nI (nR B j).2 c ∧ R (nI (nR A i).2 c).toNat (nI (nR B j).2 c).toNat)) →
      ∀ v, v < A.length → R v v := by
    intro A B hA hB R h0 hlt hfun hinj hto v
    induction v using Nat.strongRecOn with
    | ind v ih =>
      intro hv
      by_cases hz : v = 0
      · subst hz; exact h0
      -- the first place that leads to v
      have ex : ∃ p : Nat × Nat, p.1 < v ∧ p.2 < K ∧ nI (nR A p.1).2 p.2 = v ∧ ∀ i' c', Bef i' c' p.1 p.2 → c' < K → nI (nR A i').2 c' ≠ v := by
        obtain ⟨i, c, g1, g2, g3⟩ := hA.reach v (by omega) hv
        have aux : ∀ m i c, i * K + c = m → i < v → c < K → nI (nR A i).2 c = v → ∃ p : Nat × Nat, p.1 < v ∧ p.2 < K ∧ nI (nR A p.1).2 p.2 = v ∧ ∀ i' c', Bef i' c' p.1 p.2 → c' < K → nI (nR A i').2 c' ≠ v := by
          intro m
          induction m using Nat.strongRecOn with
          | ind m ihm =>
            intro i c hm g1 g2 g3
            by_cases hq : ∃ i' c', Bef i' c' i c ∧ c' < K ∧ nI (nR A i').2 c' = v
            · obtain ⟨i', c', q1, q2, q3⟩ := hq
              refine ihm (i' * K + c') ?_ i' c' rfl ?_ q2 q3
              · rcases q1 with q1 | q1
                · have : (i' + 1) * K ≤ i * K := Nat.mul_le_mul_right K q1
                  rw [Nat.succ_mul] at this
                  omega
                · rw [q1.1]; omega
              · rcases q1 with q1 | q1 <;> omega
            · exact ⟨(i, c), g1, g2, g3, fun i' c' q1 q2 q3 => hq ⟨i', c', q1, q2, q3⟩⟩
        exact aux _ i c rfl g1 g2 g3
      obtain ⟨⟨i, c⟩, g1, g2, g3, g4⟩ := ex
      simp only at g1 g2 g3 g4
      have hRi := ih i g1 (by omega)
      rcases hto i i c hRi g2 with q | q
      · omega
      · have e1 : (nI (nR A i).2 c).toNat = v := by omega
        rw [e1] at q
        generalize hu : (nI (nR B i).2 c).toNat = u at q
        by_cases e : u = v
        · rw [e] at q; exact q.2.2
        · exfalso
          by_cases hlt' : u < v
          · exact e (hinj v u u q.2.2 (ih u hlt' (by omega)) ).symm
          · obtain ⟨i', c', p1, p2, p3⟩ := hB.first i c (hlt i i hRi).2 g2 v (by omega) (by omega)
            have hi' : i' < v := by rcases p1 with p1 | p1 <;> omega
            have hRi' := ih i' hi' (by omega)
            rcases hto i' i' c' hRi' p2 with r | r
            · omega
            · have e2 : (nI (nR B i').2 c').toNat = v := by omega
              rw [e2] at r
              have hne := g4 i' c' p1 p2
              generalize hw : (nI (nR A i').2 c').toNat = w at r
              have hwv : w ≠ v := by omega
              by_cases hwl : w < v
              · have := ih w hwl (by omega)
                exact hwv (hfun w v w r.2.2 this).symm
              · obtain ⟨i2, c2, s1, s2, s3⟩ := hA.first i' c' (hlt i' i' hRi').1 p2 v (by omega) (by omega)
                refine g4 i2 c2 ?_ s2 s3
                rcases s1 with s1 | s1 <;> rcases p1 with p1 | p1
                · exact .inl (by omega)
                · exact .inl (by omega)
                · exact .inl (by omega)
                · exact .inr ⟨by omega, by omega⟩
  have h1 := half hA hB h0 hlt hfun hinj hto
  have h2 := half (R := fun i j => R j i) hB hA h0 (fun i j h => (hlt j i h).symm) (fun i j j' a b => hinj j j' i a b) (fun i i' j a b => hfun j i i' a b) (fun i j c h hc => by
    rcases hto j i c h hc with q | q
    · exact .inl q.symm
    · exact .inr ⟨q.2.1, q.1, q.2.2⟩)
  refine ⟨?_, fun i c hi hc => ?_⟩
  · have a1 := (hlt _ _ (h1 (A.length - 1) (by have := hA.pos; omega))).2
    have a2 := (hlt _ _ (h2 (B.length - 1) (by have := hB.pos; omega))).1
    have := hA.pos
    have := hB.pos
    omega
  · rcases hto i i c (h1 i hi) hc with q | q
    · omega
    · have hr := h1 _ ((hlt _ _ q.2.2).1)
      have := hfun _ _ _ q.2.2 hr
      omega
end Go.Vm
end
section
set_option linter.unusedSimpArgs false
set_option linter.unusedVariables false
set_option maxHeartbeats 1000000
namespace Go.Vm.Ytnajiilcdcffdaa
open Go.Vm
def cnt (c : List Nat) : Nat := c.foldl (fun n x => max n (x + 1)) 0
theorem cnt_take {c : List Nat} {i : Nat} (h : i < c.length) : cnt (c.take (i + 1)) = max (cnt (c.take i)) (nN c i + 1) := by
  unfold cnt; rw [take_nN h, List.foldl_append]; rfl
structure Cls (c : List Nat) : Prop where
  len : c.length = 256
  lt : ∀ i, nN c i < 256
theorem cnt_le' (c : List Nat) (hc : ∀ i, nN c i < 256) : ∀ i, cnt (c.take i) ≤ 256
  | 0 => by simp [cnt]
  | i + 1 => by
    by_cases h : i < c.length
    · rw [cnt_take h]; have := cnt_le' c hc i; have := hc i; omega
    · rw [List.take_of_length_le (by omega)]; have := cnt_le' c hc i; rwa [List.take_of_length_le (by omega)] at this
theorem Cls.cnt_le {c : List Nat} (hc : Cls c) : cnt c ≤ 256 := by
  have := cnt_le' c hc.lt 256
  rwa [List.take_of_length_le (by rw [hc.len]; omega)] at this
theorem ref_classes {c : List Nat} (hc : Cls c) (b1 b2 : Bool) (nx mk : List PV) : Gives code 26 [.agg [.arr (U8s c), .sl b1 nx, .sl b2 mk]] (fun r => r = .int .i64 (cnt c)) := by
  refine gives_of rfl ?_
  simp (maxSteps := 2000000) (disch := omega) only [vm, ↓reduceIte, Nat.reduceEqDiff, decide_eq_true, decide_eq_false, if_pos, if_neg, U8s_get, Us_get, Ns_get, Rs_get, Bs_get, wrap64, wrap8, Int.cast_ofNat_Int, Int.reduceLT, Int.reduceLE, Int.reduceToNat, reduceCtorEq, Bool.not_true, Bool.not_false, gt_iff_lt, ge_iff_le, maxBytes, List.reduceReplicate, Nat.reduceAdd, Nat.reduceBEq, List.cons.injEq, and_false, false_and, and_true, true_and, and_self, v26]
  refine W_iter (fun i (_ : Unit) => ⟨[(1, .ptr 1 []), (3, .int .i64 (cnt (c.take i))), (4, .int .i64 i)], [(1, .agg [.arr (U8s c), .sl b1 nx, .sl b2 mk])], []⟩) 256 (fun _ _ => True) 0 () ?_ trivial (by omega) ?_ ?_
  · rfl
  · intro _ _
    simp (maxSteps := 2000000) (disch := omega) only [vm, ↓reduceIte, Nat.reduceEqDiff, decide_eq_true, decide_eq_false, if_pos, if_neg, U8s_get, Us_get, Ns_get, Rs_get, Bs_get, wrap64, wrap8, Int.cast_ofNat_Int, Int.reduceLT, Int.reduceLE, Int.reduceToNat, reduceCtorEq, Bool.not_true, Bool.not_false, gt_iff_lt, ge_iff_le, maxBytes, List.reduceReplicate, Nat.reduceAdd, Nat.reduceBEq, List.cons.injEq, and_false, false_and, and_true, true_and, and_self]
    rw [List.take_of_length_le (by rw [hc.len]; omega)]
  · intro i _ h _
    have hb := hc.lt i
    have hle := cnt_le' c hc.lt i
    have hl := hc.len
    simp (maxSteps := 2000000) (disch := omega) only [vm, ↓reduceIte, Nat.reduceEqDiff, decide_eq_true, decide_eq_false, if_pos, if_neg, U8s_get, Us_get, Ns_get, Rs_get, Bs_get, wrap64, wrap8, Int.cast_ofNat_Int, Int.reduceLT, Int.reduceLE, Int.reduceToNat, reduceCtorEq, Bool.not_true, Bool.not_false, gt_iff_lt, ge_iff_le, maxBytes, List.reduceReplicate, Nat.reduceAdd, Nat.reduceBEq, List.cons.injEq, and_false, false_and, and_true, true_and, and_self]
    refine ⟨(), ?_⟩
    rw [cnt_take (by omega)]
    simp
    omega
theorem ref_gapless {c : List Nat} (hc : Cls c) (b1 b2 : Bool) (nx mk : List PV) : Gives code 25 [.agg [.arr (U8s c), .sl b1 nx, .sl b2 mk]] (fun r => ∃ b, r = .bool b ∧ (b = true ↔ ∀ k, k < cnt c → k ∈ c)) := by
  refine gives_of rfl ?_
  obtain ⟨_, _, hC, rfl⟩ := ref_classes hc b1 b2 nx mk
  have hcl := hc.cnt_le
  simp (maxSteps := 2000000) (disch := omega) only [vm, ↓reduceIte, Nat.reduceEqDiff, decide_eq_true, decide_eq_false, if_pos, if_neg, U8s_get, Us_get, Ns_get, Rs_get, Bs_get, wrap64, wrap8, Int.cast_ofNat_Int, Int.reduceLT, Int.reduceLE, Int.reduceToNat, reduceCtorEq, Bool.not_true, Bool.not_false, gt_iff_lt, ge_iff_le, maxBytes, List.reduceReplicate, Nat.reduceAdd, Nat.reduceBEq, List.cons.injEq, and_false, false_and, and_true, true_and, and_self, v25]
  refine W_iter (fun i (_ : Unit) => ⟨[(1, .ptr 1 []), (3, .int .i64 i)], [(1, .agg [.arr (U8s c), .sl b1 nx, .sl b2 mk])], []⟩) (cnt c) (fun i _ => ∀ k, k < i → k ∈ c) 0 () rfl (fun k hk => by omega) (by omega) ?_ ?_
  · intro _ hI
    simp (maxSteps := 2000000) (disch := omega) only [vm, ↓reduceIte, Nat.reduceEqDiff, decide_eq_true, decide_eq_false, if_pos, if_neg, U8s_get, Us_get, Ns_get, Rs_get, Bs_get, wrap64, wrap8, Int.cast_ofNat_Int, Int.reduceLT, Int.reduceLE, Int.reduceToNat, reduceCtorEq, Bool.not_true, Bool.not_false, gt_iff_lt, ge_iff_le, maxBytes, List.reduceReplicate, Nat.reduceAdd, Nat.reduceBEq, List.cons.injEq, and_false, false_and, and_true, true_and, and_self, hC]
    exact ⟨true, rfl, by simpa using hI⟩
  · intro i _ h hI
    have hl := hc.len
    simp (maxSteps := 2000000) (disch := omega) only [vm, ↓reduceIte, Nat.reduceEqDiff, decide_eq_true, decide_eq_false, if_pos, if_neg, U8s_get, Us_get, Ns_get, Rs_get, Bs_get, wrap64, wrap8, Int.cast_ofNat_Int, Int.reduceLT, Int.reduceLE, Int.reduceToNat, reduceCtorEq, Bool.not_true, Bool.not_false, gt_iff_lt, ge_iff_le, maxBytes, List.reduceReplicate, Nat.reduceAdd, Nat.reduceBEq, List.cons.injEq, and_false, false_and, and_true, true_and, and_self, hC]
    refine W_iter (fun j (f : Bool) => ⟨[(1, .ptr 1 []), (3, .int .i64 i), (4, .bool f), (5, .int .i64 j)], [(1, .agg [.arr (U8s c), .sl b1 nx, .sl b2 mk])], []⟩) 256 (fun j f => f = true ↔ ∃ k, k < j ∧ nN c k = i) 0 false rfl (by simp) (by omega) ?_ ?_
    · intro f hf
      cases f with
      | false =>
        simp (maxSteps := 2000000) (disch := omega) only [vm, ↓reduceIte, Nat.reduceEqDiff, decide_eq_true, decide_eq_false, if_pos, if_neg, U8s_get, Us_get, Ns_get, Rs_get, Bs_get, wrap64, wrap8, Int.cast_ofNat_Int, Int.reduceLT, Int.reduceLE, Int.reduceToNat, reduceCtorEq, Bool.not_true, Bool.not_false, gt_iff_lt, ge_iff_le, maxBytes, List.reduceReplicate, Nat.reduceAdd, Nat.reduceBEq, List.cons.injEq, and_false, false_and, and_true, true_and, and_self]
        refine ⟨false, rfl, by simp, fun hall => ?_⟩
        obtain ⟨k, hk, e⟩ := mem_nN (hall i h)
        exact hf.2 ⟨k, by omega, e⟩
      | true =>
        simp (maxSteps := 2000000) (disch := omega) only [vm, ↓reduceIte, Nat.reduceEqDiff, decide_eq_true, decide_eq_false, if_pos, if_neg, U8s_get, Us_get, Ns_get, Rs_get, Bs_get, wrap64, wrap8, Int.cast_ofNat_Int, Int.reduceLT, Int.reduceLE, Int.reduceToNat, reduceCtorEq, Bool.not_true, Bool.not_false, gt_iff_lt, ge_iff_le, maxBytes, List.reduceReplicate, Nat.reduceAdd, Nat.reduceBEq, List.cons.injEq, and_false, false_and, and_true, true_and, and_self]
        obtain ⟨k, hk, e⟩ := hf.1 rfl
        have hm : i ∈ c := by rw [← e]; exact nN_mem (by omega)
        refine ⟨(), by simp, fun k hk => ?_⟩
        by_cases e : k = i
        · rw [e]; exact hm
        · exact hI k (by omega)
    · intro j f hj hf
      have hb := hc.lt j
      have step : ∀ g : Bool, (g = true ↔ f = true ∨ nN c j = i) → (g = true ↔ ∃ k, k < j + 1 ∧ nN c k = i) := by
        intro g hg
        rw [hg, hf]
        constructor
        · rintro (⟨k, h1, h2⟩ | h1)
          · exact ⟨k, by omega, h2⟩
          · exact ⟨j, by omega, h1⟩
        · rintro ⟨k, h1, h2⟩
          by_cases e : k = j
          · subst e; exact .inr h2
          · exact .inl ⟨k, by omega, h2⟩
      cases f with
      | true => simp (maxSteps := 2000000) (disch := omega) only [vm, ↓reduceIte, Nat.reduceEqDiff, decide_eq_true, decide_eq_false, if_pos, if_neg, U8s_get, Us_get, Ns_get, Rs_get, Bs_get, wrap64, wrap8, Int.cast_ofNat_Int, Int.reduceLT, Int.reduceLE, Int.reduceToNat, reduceCtorEq, Bool.not_true, Bool.not_false, gt_iff_lt, ge_iff_le, maxBytes, List.reduceReplicate, Nat.reduceAdd, Nat.reduceBEq, List.cons.injEq, and_false, false_and, and_true, true_and, and_self]; exact ⟨true, by simp, step true (by simp)⟩
      | false =>
        by_cases e : nN c j = i
        · simp (maxSteps := 2000000) (disch := omega) only [vm, ↓reduceIte, Nat.reduceEqDiff, decide_eq_true, decide_eq_false, if_pos, if_neg, U8s_get, Us_get, Ns_get, Rs_get, Bs_get, wrap64, wrap8, Int.cast_ofNat_Int, Int.reduceLT, Int.reduceLE, Int.reduceToNat, reduceCtorEq, Bool.not_true, Bool.not_false, gt_iff_lt, ge_iff_le, maxBytes, List.reduceReplicate, Nat.reduceAdd, Nat.reduceBEq, List.cons.injEq, and_false, false_and, and_true, true_and, and_self]; exact ⟨true, by simp, step true (by simp [e])⟩
        · simp (maxSteps := 2000000) (disch := omega) only [vm, ↓reduceIte, Nat.reduceEqDiff, decide_eq_true, decide_eq_false, if_pos, if_neg, U8s_get, Us_get, Ns_get, Rs_get, Bs_get, wrap64, wrap8, Int.cast_ofNat_Int, Int.reduceLT, Int.reduceLE, Int.reduceToNat, reduceCtorEq, Bool.not_true, Bool.not_false, gt_iff_lt, ge_iff_le, maxBytes, List.reduceReplicate, Nat.reduceAdd, Nat.reduceBEq, List.cons.injEq, and_false, false_and, and_true, true_and, and_self]; exact ⟨false, by simp, step false (by simpa using e)⟩
end Go.Vm.Ytnajiilcdcffdaa
end
section
set_option linter.unusedSimpArgs false
set_option linter.unusedVariables false
set_option maxHeartbeats 2000000
namespace Go.Vm.Ytnajiilcdcffdaa
open Go.Vm
structure RowP (c : List Nat) (nx : List Rw) (mk : List Int) (i : Nat) : Prop where
  len : (nR nx i).2.length = cnt c
  mark : -1 ≤ nI mk i ∧ nI mk i < 32768
  to : ∀ k, k < (nR nx i).2.length → -1 ≤ nI (nR nx i).2 k ∧ nI (nR nx i).2 k < nx.length
structure RightP (c : List Nat) (nx : List Rw) (mk : List Int) : Prop where
  n1 : 1 ≤ nx.length
  n2 : nx.length ≤ 32768
  mkl : mk.length = nx.length
  gap : ∀ k, k < cnt c → k ∈ c
  row : ∀ i, i < nx.length → RowP c nx mk i
theorem ansF {p : Prop} (h : ¬ p) : ∃ b, PV.bool false = .bool b ∧ (b = true ↔ p) := ⟨false, rfl, by simpa using h⟩
theorem ansT {p : Prop} (h : p) : ∃ b, PV.bool true = .bool b ∧ (b = true ↔ p) := ⟨true, rfl, by simpa using h⟩

theorem ref_right {c : List Nat} (hc : Cls c) (b1 b2 : Bool) (nx : List Rw) (mk : List Int) : Gives code 9 [Dfa c b1 nx b2 mk] (fun r => ∃ b, r = .bool b ∧ (b = true ↔ RightP c nx mk)) := by
  refine gives_of rfl ?_
  unfold Dfa
  obtain ⟨_, _, hC, rfl⟩ := ref_classes hc b1 b2 (Rs nx) (Ns mk)
  obtain ⟨_, _, hG, gb, rfl, hgb⟩ := ref_gapless hc b1 b2 (Rs nx) (Ns mk)
  have hcl := hc.cnt_le
  by_cases h1 : nx.length < 1
  · simp (maxSteps := 2000000) (disch := omega) only [vm, ↓reduceIte, Nat.reduceEqDiff, decide_eq_true, decide_eq_false, if_pos, if_neg, U8s_get, Us_get, Ns_get, Rs_get, Bs_get, wrap64, wrap8, Int.cast_ofNat_Int, Int.reduceLT, Int.reduceLE, Int.reduceToNat, reduceCtorEq, Bool.not_true, Bool.not_false, gt_iff_lt, ge_iff_le, maxBytes, List.reduceReplicate, Nat.reduceAdd, Nat.reduceBEq, List.cons.injEq, and_false, false_and, and_true, true_and, and_self, v9]
    exact ansF fun h => by have := h.n1; omega
  by_cases h2 : 32768 < nx.length
  · simp (maxSteps := 2000000) (disch := omega) only [vm, ↓reduceIte, Nat.reduceEqDiff, decide_eq_true, decide_eq_false, if_pos, if_neg, U8s_get, Us_get, Ns_get, Rs_get, Bs_get, wrap64, wrap8, Int.cast_ofNat_Int, Int.reduceLT, Int.reduceLE, Int.reduceToNat, reduceCtorEq, Bool.not_true, Bool.not_false, gt_iff_lt, ge_iff_le, maxBytes, List.reduceReplicate, Nat.reduceAdd, Nat.reduceBEq, List.cons.injEq, and_false, false_and, and_true, true_and, and_self, v9]
    exact ansF fun h => by have := h.n2; omega
  by_cases h3' : mk.length ≠ nx.length
  · simp (maxSteps := 2000000) (disch := omega) only [vm, ↓reduceIte, Nat.reduceEqDiff, decide_eq_true, decide_eq_false, if_pos, if_neg, U8s_get, Us_get, Ns_get, Rs_get, Bs_get, wrap64, wrap8, Int.cast_ofNat_Int, Int.reduceLT, Int.reduceLE, Int.reduceToNat, reduceCtorEq, Bool.not_true, Bool.not_false, gt_iff_lt, ge_iff_le, maxBytes, List.reduceReplicate, Nat.reduceAdd, Nat.reduceBEq, List.cons.injEq, and_false, false_and, and_true, true_and, and_self, v9]
    exact ansF fun h => h3' h.mkl
  have h3 : mk.length = nx.length := by omega
  cases gb with
  | false =>
    simp (maxSteps := 2000000) (disch := omega) only [vm, ↓reduceIte, Nat.reduceEqDiff, decide_eq_true, decide_eq_false, if_pos, if_neg, U8s_get, Us_get, Ns_get, Rs_get, Bs_get, wrap64, wrap8, Int.cast_ofNat_Int, Int.reduceLT, Int.reduceLE, Int.reduceToNat, reduceCtorEq, Bool.not_true, Bool.not_false, gt_iff_lt, ge_iff_le, maxBytes, List.reduceReplicate, Nat.reduceAdd, Nat.reduceBEq, List.cons.injEq, and_false, false_and, and_true, true_and, and_self, v9, hG]
    exact ansF fun h => by have := hgb.2 h.gap; cases this
  | true =>
    have hgap := hgb.1 rfl
    simp (maxSteps := 2000000) (disch := omega) only [vm, ↓reduceIte, Nat.reduceEqDiff, decide_eq_true, decide_eq_false, if_pos, if_neg, U8s_get, Us_get, Ns_get, Rs_get, Bs_get, wrap64, wrap8, Int.cast_ofNat_Int, Int.reduceLT, Int.reduceLE, Int.reduceToNat, reduceCtorEq, Bool.not_true, Bool.not_false, gt_iff_lt, ge_iff_le, maxBytes, List.reduceReplicate, Nat.reduceAdd, Nat.reduceBEq, List.cons.injEq, and_false, false_and, and_true, true_and, and_self, v9, hG]
    refine W_iter (fun i (_ : Unit) => ⟨[(1, .ptr 1 []), (3, .int .i64 nx.length), (4, .int .i64 i)], [(1, .agg [.arr (U8s c), .sl b1 (Rs nx), .sl b2 (Ns mk)])], []⟩) nx.length (fun i _ => ∀ k, k < i → RowP c nx mk k) 0 () rfl (fun k hk => by omega) (by omega) ?_ ?_
    · intro _ hI
      simp (maxSteps := 2000000) (disch := omega) only [vm, ↓reduceIte, Nat.reduceEqDiff, decide_eq_true, decide_eq_false, if_pos, if_neg, U8s_get, Us_get, Ns_get, Rs_get, Bs_get, wrap64, wrap8, Int.cast_ofNat_Int, Int.reduceLT, Int.reduceLE, Int.reduceToNat, reduceCtorEq, Bool.not_true, Bool.not_false, gt_iff_lt, ge_iff_le, maxBytes, List.reduceReplicate, Nat.reduceAdd, Nat.reduceBEq, List.cons.injEq, and_false, false_and, and_true, true_and, and_self]
      exact ansT ⟨by omega, by omega, h3, hgap, hI⟩
    · intro i _ hi hI
      by_cases g1' : (nR nx i).2.length ≠ cnt c
      · simp (maxSteps := 2000000) (disch := omega) only [vm, ↓reduceIte, Nat.reduceEqDiff, decide_eq_true, decide_eq_false, if_pos, if_neg, U8s_get, Us_get, Ns_get, Rs_get, Bs_get, wrap64, wrap8, Int.cast_ofNat_Int, Int.reduceLT, Int.reduceLE, Int.reduceToNat, reduceCtorEq, Bool.not_true, Bool.not_false, gt_iff_lt, ge_iff_le, maxBytes, List.reduceReplicate, Nat.reduceAdd, Nat.reduceBEq, List.cons.injEq, and_false, false_and, and_true, true_and, and_self, hC]
        exact ansF fun h => g1' (h.row i hi).len
      have g1 : (nR nx i).2.length = cnt c := by omega
      by_cases g2 : nI mk i < -1
      · simp (maxSteps := 2000000) (disch := omega) only [vm, ↓reduceIte, Nat.reduceEqDiff, decide_eq_true, decide_eq_false, if_pos, if_neg, U8s_get, Us_get, Ns_get, Rs_get, Bs_get, wrap64, wrap8, Int.cast_ofNat_Int, Int.reduceLT, Int.reduceLE, Int.reduceToNat, reduceCtorEq, Bool.not_true, Bool.not_false, gt_iff_lt, ge_iff_le, maxBytes, List.reduceReplicate, Nat.reduceAdd, Nat.reduceBEq, List.cons.injEq, and_false, false_and, and_true, true_and, and_self, hC]
        exact ansF fun h => by have := (h.row i hi).mark; omega
      by_cases g3 : 32768 ≤ nI mk i
      · simp (maxSteps := 2000000) (disch := omega) only [vm, ↓reduceIte, Nat.reduceEqDiff, decide_eq_true, decide_eq_false, if_pos, if_neg, U8s_get, Us_get, Ns_get, Rs_get, Bs_get, wrap64, wrap8, Int.cast_ofNat_Int, Int.reduceLT, Int.reduceLE, Int.reduceToNat, reduceCtorEq, Bool.not_true, Bool.not_false, gt_iff_lt, ge_iff_le, maxBytes, List.reduceReplicate, Nat.reduceAdd, Nat.reduceBEq, List.cons.injEq, and_false, false_and, and_true, true_and, and_self, hC]
        exact ansF fun h => by have := (h.row i hi).mark; omega
      simp (maxSteps := 2000000) (disch := omega) only [vm, ↓reduceIte, Nat.reduceEqDiff, decide_eq_true, decide_eq_false, if_pos, if_neg, U8s_get, Us_get, Ns_get, Rs_get, Bs_get, wrap64, wrap8, Int.cast_ofNat_Int, Int.reduceLT, Int.reduceLE, Int.reduceToNat, reduceCtorEq, Bool.not_true, Bool.not_false, gt_iff_lt, ge_iff_le, maxBytes, List.reduceReplicate, Nat.reduceAdd, Nat.reduceBEq, List.cons.injEq, and_false, false_and, and_true, true_and, and_self, hC]
      refine W_iter (fun j (_ : Unit) => ⟨[(1, .ptr 1 []), (3, .int .i64 nx.length), (4, .int .i64 i), (5, .int .i64 j)], [(1, .agg [.arr (U8s c), .sl b1 (Rs nx), .sl b2 (Ns mk)])], []⟩) (nR nx i).2.length (fun j _ => ∀ k, k < j → -1 ≤ nI (nR nx i).2 k ∧ nI (nR nx i).2 k < nx.length) 0 () rfl (fun k hk => by omega) (by omega) ?_ ?_
      · intro _ hJ
        simp (maxSteps := 2000000) (disch := omega) only [vm, ↓reduceIte, Nat.reduceEqDiff, decide_eq_true, decide_eq_false, if_pos, if_neg, U8s_get, Us_get, Ns_get, Rs_get, Bs_get, wrap64, wrap8, Int.cast_ofNat_Int, Int.reduceLT, Int.reduceLE, Int.reduceToNat, reduceCtorEq, Bool.not_true, Bool.not_false, gt_iff_lt, ge_iff_le, maxBytes, List.reduceReplicate, Nat.reduceAdd, Nat.reduceBEq, List.cons.injEq, and_false, false_and, and_true, true_and, and_self]
        refine ⟨(), by simp, fun k hk => ?_⟩
        by_cases e : k = i
        · subst e; exact ⟨g1, by omega, hJ⟩
        · exact hI k (by omega)
      · intro j _ hj hJ
        by_cases k1 : nI (nR nx i).2 j < -1
        · simp (maxSteps := 2000000) (disch := omega) only [vm, ↓reduceIte, Nat.reduceEqDiff, decide_eq_true, decide_eq_false, if_pos, if_neg, U8s_get, Us_get, Ns_get, Rs_get, Bs_get, wrap64, wrap8, Int.cast_ofNat_Int, Int.reduceLT, Int.reduceLE, Int.reduceToNat, reduceCtorEq, Bool.not_true, Bool.not_false, gt_iff_lt, ge_iff_le, maxBytes, List.reduceReplicate, Nat.reduceAdd, Nat.reduceBEq, List.cons.injEq, and_false, false_and, and_true, true_and, and_self]
          exact ansF fun h => by have := (h.row i hi).to j hj; omega
        by_cases k2 : (nx.length : Int) ≤ nI (nR nx i).2 j
        · simp (maxSteps := 2000000) (disch := omega) only [vm, ↓reduceIte, Nat.reduceEqDiff, decide_eq_true, decide_eq_false, if_pos, if_neg, U8s_get, Us_get, Ns_get, Rs_get, Bs_get, wrap64, wrap8, Int.cast_ofNat_Int, Int.reduceLT, Int.reduceLE, Int.reduceToNat, reduceCtorEq, Bool.not_true, Bool.not_false, gt_iff_lt, ge_iff_le, maxBytes, List.reduceReplicate, Nat.reduceAdd, Nat.reduceBEq, List.cons.injEq, and_false, false_and, and_true, true_and, and_self]
          exact ansF fun h => by have := (h.row i hi).to j hj; omega
        simp (maxSteps := 2000000) (disch := omega) only [vm, ↓reduceIte, Nat.reduceEqDiff, decide_eq_true, decide_eq_false, if_pos, if_neg, U8s_get, Us_get, Ns_get, Rs_get, Bs_get, wrap64, wrap8, Int.cast_ofNat_Int, Int.reduceLT, Int.reduceLE, Int.reduceToNat, reduceCtorEq, Bool.not_true, Bool.not_false, gt_iff_lt, ge_iff_le, maxBytes, List.reduceReplicate, Nat.reduceAdd, Nat.reduceBEq, List.cons.injEq, and_false, false_and, and_true, true_and, and_self]
        refine ⟨(), by simp, fun k hk => ?_⟩
        by_cases e : k = j
        · subst e; omega
        · exact hJ k (by omega)
end Go.Vm.Ytnajiilcdcffdaa
end
section
set_option linter.unusedSimpArgs false
set_option linter.unusedVariables false
set_option maxHeartbeats 2000000
namespace Go.Vm.Ytnajiilcdcffdaa
open Go.Vm
theorem count {c : List Nat} (hc : Cls c) : Gives code 42 [.arr (U8s c)] (fun r => r = .int .i64 (cnt c)) := by
  refine gives_of rfl ?_
  have hl := hc.len
  simp (maxSteps := 2000000) (disch := omega) only [vm, ↓reduceIte, Nat.reduceEqDiff, decide_eq_true, decide_eq_false, if_pos, if_neg, U8s_get, Us_get, Ns_get, Rs_get, Bs_get, wrap64, wrap8, Int.cast_ofNat_Int, Int.reduceLT, Int.reduceLE, Int.reduceToNat, reduceCtorEq, Bool.not_true, Bool.not_false, gt_iff_lt, ge_iff_le, maxBytes, List.reduceReplicate, Nat.reduceAdd, Nat.reduceBEq, List.cons.injEq, and_false, false_and, and_true, true_and, and_self, v42]
  refine W_iter (fun i (_ : Unit) => ⟨[(3, .int .i64 (cnt (c.take i))), (6, .arr (U8s c)), (7, .int .i64 i)], [], []⟩) 256 (fun _ _ => True) 0 () ?_ trivial (by omega) ?_ ?_
  · rfl
  · intro _ _
    simp (maxSteps := 2000000) (disch := omega) only [vm, ↓reduceIte, Nat.reduceEqDiff, decide_eq_true, decide_eq_false, if_pos, if_neg, U8s_get, Us_get, Ns_get, Rs_get, Bs_get, wrap64, wrap8, Int.cast_ofNat_Int, Int.reduceLT, Int.reduceLE, Int.reduceToNat, reduceCtorEq, Bool.not_true, Bool.not_false, gt_iff_lt, ge_iff_le, maxBytes, List.reduceReplicate, Nat.reduceAdd, Nat.reduceBEq, List.cons.injEq, and_false, false_and, and_true, true_and, and_self]
    rw [List.take_of_length_le (by omega)]
  · intro i _ h _
    have hb := hc.lt i
    have hle := cnt_le' c hc.lt i
    simp (maxSteps := 2000000) (disch := omega) only [vm, ↓reduceIte, Nat.reduceEqDiff, decide_eq_true, decide_eq_false, if_pos, if_neg, U8s_get, Us_get, Ns_get, Rs_get, Bs_get, wrap64, wrap8, Int.cast_ofNat_Int, Int.reduceLT, Int.reduceLE, Int.reduceToNat, reduceCtorEq, Bool.not_true, Bool.not_false, gt_iff_lt, ge_iff_le, maxBytes, List.reduceReplicate, Nat.reduceAdd, Nat.reduceBEq, List.cons.injEq, and_false, false_and, and_true, true_and, and_self]
    refine ⟨(), ?_⟩
    rw [cnt_take (by omega)]
    simp
    omega
theorem gapless {c : List Nat} (hc : Cls c) : Gives code 43 [.arr (U8s c), .int .i64 (cnt c)] (fun r => ∃ b, r = .bool b ∧ (b = true ↔ ∀ k, k < cnt c → k ∈ c)) := by
  refine gives_of rfl ?_
  have hl := hc.len
  have hcl := hc.cnt_le
  have hin : ∀ i, i < 256 → nN c i < cnt c := by
    intro i hi
    have : ∀ k, i < k → k ≤ 256 → nN c i < cnt (c.take k) := by
      intro k
      induction k with
      | zero => intro h; omega
      | succ k ih =>
        intro h1 h2
        rw [cnt_take (by omega)]
        by_cases e : i = k
        · subst e; omega
        · have := ih (by omega) (by omega); omega
    have := this 256 hi (by omega)
    rwa [List.take_of_length_le (by omega)] at this
  have hrep : List.replicate (cnt c) (PV.bool false) = Bs (List.replicate (cnt c) false) := Bs_replicate
  simp (maxSteps := 2000000) (disch := omega) only [vm, ↓reduceIte, Nat.reduceEqDiff, decide_eq_true, decide_eq_false, if_pos, if_neg, U8s_get, Us_get, Ns_get, Rs_get, Bs_get, wrap64, wrap8, Int.cast_ofNat_Int, Int.reduceLT, Int.reduceLE, Int.reduceToNat, reduceCtorEq, Bool.not_true, Bool.not_false, gt_iff_lt, ge_iff_le, maxBytes, List.reduceReplicate, Nat.reduceAdd, Nat.reduceBEq, List.cons.injEq, and_false, false_and, and_true, true_and, and_self, v43, maxBytes, hrep]
  refine W_iter (fun i (l : List Bool) => ⟨[(5, .ref [0, 5]), (12, .arr (U8s c)), (13, .int .i64 i)], [], [([0, 5], .row ⟨false, false, Bs l⟩)]⟩) 256
    (fun i l => l.length = cnt c ∧ ∀ k, k < cnt c → (nB l k = true ↔ ∃ j, j < i ∧ nN c j = k)) 0 (List.replicate (cnt c) false) ?_ ⟨by simp, fun k hk => by rw [nB_rep hk]; simp⟩ (by omega) ?_ ?_
  · rfl
  · rintro l ⟨h1, h2⟩
    simp (maxSteps := 2000000) (disch := omega) only [vm, ↓reduceIte, Nat.reduceEqDiff, decide_eq_true, decide_eq_false, if_pos, if_neg, U8s_get, Us_get, Ns_get, Rs_get, Bs_get, wrap64, wrap8, Int.cast_ofNat_Int, Int.reduceLT, Int.reduceLE, Int.reduceToNat, reduceCtorEq, Bool.not_true, Bool.not_false, gt_iff_lt, ge_iff_le, maxBytes, List.reduceReplicate, Nat.reduceAdd, Nat.reduceBEq, List.cons.injEq, and_false, false_and, and_true, true_and, and_self]
    refine W_iter (fun i (_ : Unit) => ⟨[(20, .ref [0, 20]), (21, .int .i64 l.length), (22, .int .i64 i)], [], [([0, 20], .row ⟨false, false, Bs l⟩)]⟩) l.length
      (fun i _ => ∀ k, k < i → nB l k = true) 0 () rfl (fun k hk => by omega) (by omega) ?_ ?_
    · intro _ hI
      simp (maxSteps := 2000000) (disch := omega) only [vm, ↓reduceIte, Nat.reduceEqDiff, decide_eq_true, decide_eq_false, if_pos, if_neg, U8s_get, Us_get, Ns_get, Rs_get, Bs_get, wrap64, wrap8, Int.cast_ofNat_Int, Int.reduceLT, Int.reduceLE, Int.reduceToNat, reduceCtorEq, Bool.not_true, Bool.not_false, gt_iff_lt, ge_iff_le, maxBytes, List.reduceReplicate, Nat.reduceAdd, Nat.reduceBEq, List.cons.injEq, and_false, false_and, and_true, true_and, and_self]
      refine ansT fun k hk => ?_
      obtain ⟨j, hj, e⟩ := (h2 k hk).1 (hI k (by omega))
      rw [← e]
      exact nN_mem (by omega)
    · intro i _ hi hI
      cases hb : nB l i with
      | true =>
        simp (maxSteps := 2000000) (disch := omega) only [vm, ↓reduceIte, Nat.reduceEqDiff, decide_eq_true, decide_eq_false, if_pos, if_neg, U8s_get, Us_get, Ns_get, Rs_get, Bs_get, wrap64, wrap8, Int.cast_ofNat_Int, Int.reduceLT, Int.reduceLE, Int.reduceToNat, reduceCtorEq, Bool.not_true, Bool.not_false, gt_iff_lt, ge_iff_le, maxBytes, List.reduceReplicate, Nat.reduceAdd, Nat.reduceBEq, List.cons.injEq, and_false, false_and, and_true, true_and, and_self, hb]
        refine ⟨(), by simp, fun k hk => ?_⟩
        by_cases e : k = i
        · rw [e]; exact hb
        · exact hI k (by omega)
      | false =>
        simp (maxSteps := 2000000) (disch := omega) only [vm, ↓reduceIte, Nat.reduceEqDiff, decide_eq_true, decide_eq_false, if_pos, if_neg, U8s_get, Us_get, Ns_get, Rs_get, Bs_get, wrap64, wrap8, Int.cast_ofNat_Int, Int.reduceLT, Int.reduceLE, Int.reduceToNat, reduceCtorEq, Bool.not_true, Bool.not_false, gt_iff_lt, ge_iff_le, maxBytes, List.reduceReplicate, Nat.reduceAdd, Nat.reduceBEq, List.cons.injEq, and_false, false_and, and_true, true_and, and_self, hb]
        refine ansF fun hall => ?_
        obtain ⟨j, hj, e⟩ := mem_nN (hall i (by omega))
        have := (h2 i (by omega)).2 ⟨j, by omega, e⟩
        rw [hb] at this
        cases this
  · rintro i l hi ⟨h1, h2⟩
    have := hin i hi
    simp (maxSteps := 2000000) (disch := omega) only [vm, ↓reduceIte, Nat.reduceEqDiff, decide_eq_true, decide_eq_false, if_pos, if_neg, U8s_get, Us_get, Ns_get, Rs_get, Bs_get, wrap64, wrap8, Int.cast_ofNat_Int, Int.reduceLT, Int.reduceLE, Int.reduceToNat, reduceCtorEq, Bool.not_true, Bool.not_false, gt_iff_lt, ge_iff_le, maxBytes, List.reduceReplicate, Nat.reduceAdd, Nat.reduceBEq, List.cons.injEq, and_false, false_and, and_true, true_and, and_self]
    refine ⟨l.set (nN c i) true, by simp, by simpa using h1, fun k hk => ?_⟩
    rw [nB_set (by omega)]
    by_cases e : nN c i = k
    · simp only [e, if_true, true_iff]
      exact ⟨i, by omega, e⟩
    · rw [if_neg e, h2 k hk]
      constructor
      · rintro ⟨j, h3, h4⟩; exact ⟨j, by omega, h4⟩
      · rintro ⟨j, h3, h4⟩
        by_cases e' : j = i
        · subst e'; exact absurd h4 e
        · exact ⟨j, by omega, h4⟩
theorem right {c : List Nat} (hc : Cls c) (b1 b2 : Bool) (nx : List Rw) (mk : List Int) : Gives code 27 [Dfa c b1 nx b2 mk] (fun r => ∃ b, r = .bool b ∧ (b = true ↔ RightP c nx mk)) := by
  refine gives_of rfl ?_
  unfold Dfa
  obtain ⟨_, _, hC, rfl⟩ := count hc
  obtain ⟨_, _, hG, gb, rfl, hgb⟩ := gapless hc
  have hcl := hc.cnt_le
  by_cases h1 : nx.length = 0
  · simp (maxSteps := 2000000) (disch := omega) only [vm, ↓reduceIte, Nat.reduceEqDiff, decide_eq_true, decide_eq_false, if_pos, if_neg, U8s_get, Us_get, Ns_get, Rs_get, Bs_get, wrap64, wrap8, Int.cast_ofNat_Int, Int.reduceLT, Int.reduceLE, Int.reduceToNat, reduceCtorEq, Bool.not_true, Bool.not_false, gt_iff_lt, ge_iff_le, maxBytes, List.reduceReplicate, Nat.reduceAdd, Nat.reduceBEq, List.cons.injEq, and_false, false_and, and_true, true_and, and_self, v27]
    exact ansF fun h => by have := h.n1; omega
  by_cases h2 : 32768 < nx.length
  · simp (maxSteps := 2000000) (disch := omega) only [vm, ↓reduceIte, Nat.reduceEqDiff, decide_eq_true, decide_eq_false, if_pos, if_neg, U8s_get, Us_get, Ns_get, Rs_get, Bs_get, wrap64, wrap8, Int.cast_ofNat_Int, Int.reduceLT, Int.reduceLE, Int.reduceToNat, reduceCtorEq, Bool.not_true, Bool.not_false, gt_iff_lt, ge_iff_le, maxBytes, List.reduceReplicate, Nat.reduceAdd, Nat.reduceBEq, List.cons.injEq, and_false, false_and, and_true, true_and, and_self, v27]
    exact ansF fun h => by have := h.n2; omega
  by_cases h3' : mk.length ≠ nx.length
  · simp (maxSteps := 2000000) (disch := omega) only [vm, ↓reduceIte, Nat.reduceEqDiff, decide_eq_true, decide_eq_false, if_pos, if_neg, U8s_get, Us_get, Ns_get, Rs_get, Bs_get, wrap64, wrap8, Int.cast_ofNat_Int, Int.reduceLT, Int.reduceLE, Int.reduceToNat, reduceCtorEq, Bool.not_true, Bool.not_false, gt_iff_lt, ge_iff_le, maxBytes, List.reduceReplicate, Nat.reduceAdd, Nat.reduceBEq, List.cons.injEq, and_false, false_and, and_true, true_and, and_self, v27]
    exact ansF fun h => h3' h.mkl
  have h3 : mk.length = nx.length := by omega
  cases gb with
  | false =>
    simp (maxSteps := 2000000) (disch := omega) only [vm, ↓reduceIte, Nat.reduceEqDiff, decide_eq_true, decide_eq_false, if_pos, if_neg, U8s_get, Us_get, Ns_get, Rs_get, Bs_get, wrap64, wrap8, Int.cast_ofNat_Int, Int.reduceLT, Int.reduceLE, Int.reduceToNat, reduceCtorEq, Bool.not_true, Bool.not_false, gt_iff_lt, ge_iff_le, maxBytes, List.reduceReplicate, Nat.reduceAdd, Nat.reduceBEq, List.cons.injEq, and_false, false_and, and_true, true_and, and_self, v27, hG, hC]
    exact ansF fun h => by have := hgb.2 h.gap; cases this
  | true =>
    have hgap := hgb.1 rfl
    simp (maxSteps := 2000000) (disch := omega) only [vm, ↓reduceIte, Nat.reduceEqDiff, decide_eq_true, decide_eq_false, if_pos, if_neg, U8s_get, Us_get, Ns_get, Rs_get, Bs_get, wrap64, wrap8, Int.cast_ofNat_Int, Int.reduceLT, Int.reduceLE, Int.reduceToNat, reduceCtorEq, Bool.not_true, Bool.not_false, gt_iff_lt, ge_iff_le, maxBytes, List.reduceReplicate, Nat.reduceAdd, Nat.reduceBEq, List.cons.injEq, and_false, false_and, and_true, true_and, and_self, v27, hG, hC]
    refine W_iter (fun i (_ : Unit) => ⟨[(1, .ptr 1 []), (3, .int .i64 nx.length), (4, .int .i64 (cnt c)), (34, .sl b1 (Rs nx)), (35, .int .i64 nx.length), (36, .int .i64 i)], [(1, .agg [.arr (U8s c), .sl b1 (Rs nx), .sl b2 (Ns mk)])], []⟩) nx.length (fun i _ => ∀ k, k < i → RowP c nx mk k) 0 () rfl (fun k hk => by omega) (by omega) ?_ ?_
    · intro _ hI
      simp (maxSteps := 2000000) (disch := omega) only [vm, ↓reduceIte, Nat.reduceEqDiff, decide_eq_true, decide_eq_false, if_pos, if_neg, U8s_get, Us_get, Ns_get, Rs_get, Bs_get, wrap64, wrap8, Int.cast_ofNat_Int, Int.reduceLT, Int.reduceLE, Int.reduceToNat, reduceCtorEq, Bool.not_true, Bool.not_false, gt_iff_lt, ge_iff_le, maxBytes, List.reduceReplicate, Nat.reduceAdd, Nat.reduceBEq, List.cons.injEq, and_false, false_and, and_true, true_and, and_self]
      exact ansT ⟨by omega, by omega, h3, hgap, hI⟩
    · intro i _ hi hI
      by_cases g1' : (nR nx i).2.length ≠ cnt c
      · simp (maxSteps := 2000000) (disch := omega) only [vm, ↓reduceIte, Nat.reduceEqDiff, decide_eq_true, decide_eq_false, if_pos, if_neg, U8s_get, Us_get, Ns_get, Rs_get, Bs_get, wrap64, wrap8, Int.cast_ofNat_Int, Int.reduceLT, Int.reduceLE, Int.reduceToNat, reduceCtorEq, Bool.not_true, Bool.not_false, gt_iff_lt, ge_iff_le, maxBytes, List.reduceReplicate, Nat.reduceAdd, Nat.reduceBEq, List.cons.injEq, and_false, false_and, and_true, true_and, and_self]
        exact ansF fun h => g1' (h.row i hi).len
      have g1 : (nR nx i).2.length = cnt c := by omega
      by_cases g2 : nI mk i < -1
      · simp (maxSteps := 2000000) (disch := omega) only [vm, ↓reduceIte, Nat.reduceEqDiff, decide_eq_true, decide_eq_false, if_pos, if_neg, U8s_get, Us_get, Ns_get, Rs_get, Bs_get, wrap64, wrap8, Int.cast_ofNat_Int, Int.reduceLT, Int.reduceLE, Int.reduceToNat, reduceCtorEq, Bool.not_true, Bool.not_false, gt_iff_lt, ge_iff_le, maxBytes, List.reduceReplicate, Nat.reduceAdd, Nat.reduceBEq, List.cons.injEq, and_false, false_and, and_true, true_and, and_self]
        exact ansF fun h => by have := (h.row i hi).mark; omega
      by_cases g3 : 32768 ≤ nI mk i
      · simp (maxSteps := 2000000) (disch := omega) only [vm, ↓reduceIte, Nat.reduceEqDiff, decide_eq_true, decide_eq_false, if_pos, if_neg, U8s_get, Us_get, Ns_get, Rs_get, Bs_get, wrap64, wrap8, Int.cast_ofNat_Int, Int.reduceLT, Int.reduceLE, Int.reduceToNat, reduceCtorEq, Bool.not_true, Bool.not_false, gt_iff_lt, ge_iff_le, maxBytes, List.reduceReplicate, Nat.reduceAdd, Nat.reduceBEq, List.cons.injEq, and_false, false_and, and_true, true_and, and_self]
        exact ansF fun h => by have := (h.row i hi).mark; omega
      simp (maxSteps := 2000000) (disch := omega) only [vm, ↓reduceIte, Nat.reduceEqDiff, decide_eq_true, decide_eq_false, if_pos, if_neg, U8s_get, Us_get, Ns_get, Rs_get, Bs_get, wrap64, wrap8, Int.cast_ofNat_Int, Int.reduceLT, Int.reduceLE, Int.reduceToNat, reduceCtorEq, Bool.not_true, Bool.not_false, gt_iff_lt, ge_iff_le, maxBytes, List.reduceReplicate, Nat.reduceAdd, Nat.reduceBEq, List.cons.injEq, and_false, false_and, and_true, true_and, and_self]
      refine W_iter (fun j (_ : Unit) => ⟨[(1, .ptr 1 []), (3, .int .i64 nx.length), (4, .int .i64 (cnt c)), (34, .sl b1 (Rs nx)), (35, .int .i64 nx.length), (36, .int .i64 i), (61, .sl (nR nx i).1 (Ns (nR nx i).2)), (62, .int .i64 (nR nx i).2.length), (63, .int .i64 j)], [(1, .agg [.arr (U8s c), .sl b1 (Rs nx), .sl b2 (Ns mk)])], []⟩) (nR nx i).2.length (fun j _ => ∀ k, k < j → -1 ≤ nI (nR nx i).2 k ∧ nI (nR nx i).2 k < nx.length) 0 () rfl (fun k hk => by omega) (by omega) ?_ ?_
      · intro _ hJ
        simp (maxSteps := 2000000) (disch := omega) only [vm, ↓reduceIte, Nat.reduceEqDiff, decide_eq_true, decide_eq_false, if_pos, if_neg, U8s_get, Us_get, Ns_get, Rs_get, Bs_get, wrap64, wrap8, Int.cast_ofNat_Int, Int.reduceLT, Int.reduceLE, Int.reduceToNat, reduceCtorEq, Bool.not_true, Bool.not_false, gt_iff_lt, ge_iff_le, maxBytes, List.reduceReplicate, Nat.reduceAdd, Nat.reduceBEq, List.cons.injEq, and_false, false_and, and_true, true_and, and_self]
        refine ⟨(), by simp, fun k hk => ?_⟩
        by_cases e : k = i
        · subst e; exact ⟨g1, by omega, hJ⟩
        · exact hI k (by omega)
      · intro j _ hj hJ
        by_cases k1 : nI (nR nx i).2 j < -1
        · simp (maxSteps := 2000000) (disch := omega) only [vm, ↓reduceIte, Nat.reduceEqDiff, decide_eq_true, decide_eq_false, if_pos, if_neg, U8s_get, Us_get, Ns_get, Rs_get, Bs_get, wrap64, wrap8, Int.cast_ofNat_Int, Int.reduceLT, Int.reduceLE, Int.reduceToNat, reduceCtorEq, Bool.not_true, Bool.not_false, gt_iff_lt, ge_iff_le, maxBytes, List.reduceReplicate, Nat.reduceAdd, Nat.reduceBEq, List.cons.injEq, and_false, false_and, and_true, true_and, and_self]
          exact ansF fun h => by have := (h.row i hi).to j hj; omega
        by_cases k2 : (nx.length : Int) ≤ nI (nR nx i).2 j
        · simp (maxSteps := 2000000) (disch := omega) only [vm, ↓reduceIte, Nat.reduceEqDiff, decide_eq_true, decide_eq_false, if_pos, if_neg, U8s_get, Us_get, Ns_get, Rs_get, Bs_get, wrap64, wrap8, Int.cast_ofNat_Int, Int.reduceLT, Int.reduceLE, Int.reduceToNat, reduceCtorEq, Bool.not_true, Bool.not_false, gt_iff_lt, ge_iff_le, maxBytes, List.reduceReplicate, Nat.reduceAdd, Nat.reduceBEq, List.cons.injEq, and_false, false_and, and_true, true_and, and_self]
          exact ansF fun h => by have := (h.row i hi).to j hj; omega
        simp (maxSteps := 2000000) (disch := omega) only [vm, ↓reduceIte, Nat.reduceEqDiff, decide_eq_true, decide_eq_false, if_pos, if_neg, U8s_get, Us_get, Ns_get, Rs_get, Bs_get, wrap64, wrap8, Int.cast_ofNat_Int, Int.reduceLT, Int.reduceLE, Int.reduceToNat, reduceCtorEq, Bool.not_true, Bool.not_false, gt_iff_lt, ge_iff_le, maxBytes, List.reduceReplicate, Nat.reduceAdd, Nat.reduceBEq, List.cons.injEq, and_false, false_and, and_true, true_and, and_self]
        refine ⟨(), by simp, fun k hk => ?_⟩
        by_cases e : k = j
        · subst e; omega
        · exact hJ k (by omega)
end Go.Vm.Ytnajiilcdcffdaa
end
section
set_option linter.unusedSimpArgs false
set_option linter.unusedVariables false
set_option maxHeartbeats 2000000
namespace Go.Vm.Ytnajiilcdcffdaa
open Go.Vm
structure SmallP (nx : List Rw) (mk : List Int) : Prop where
  n : nx.length ≤ 20
  m : mk.length ≤ 30
  row : ∀ i, i < nx.length → (nR nx i).2.length ≤ 256
theorem small (c : List Nat) (b1 b2 : Bool) (nx : List Rw) (mk : List Int) : Gives code 8 [Dfa c b1 nx b2 mk] (fun r => ∃ b, r = .bool b ∧ (b = true ↔ SmallP nx mk)) := by
  refine gives_of rfl ?_
  unfold Dfa
  by_cases h1 : 20 < nx.length
  · simp (maxSteps := 2000000) (disch := omega) only [vm, ↓reduceIte, Nat.reduceEqDiff, decide_eq_true, decide_eq_false, if_pos, if_neg, U8s_get, Us_get, Ns_get, Rs_get, Bs_get, wrap64, wrap8, Int.cast_ofNat_Int, Int.reduceLT, Int.reduceLE, Int.reduceToNat, reduceCtorEq, Bool.not_true, Bool.not_false, gt_iff_lt, ge_iff_le, maxBytes, List.reduceReplicate, Nat.reduceAdd, Nat.reduceBEq, List.cons.injEq, and_false, false_and, and_true, true_and, and_self, v8]
    exact ansF fun h => by have := h.n; omega
  by_cases h2 : 30 < mk.length
  · simp (maxSteps := 2000000) (disch := omega) only [vm, ↓reduceIte, Nat.reduceEqDiff, decide_eq_true, decide_eq_false, if_pos, if_neg, U8s_get, Us_get, Ns_get, Rs_get, Bs_get, wrap64, wrap8, Int.cast_ofNat_Int, Int.reduceLT, Int.reduceLE, Int.reduceToNat, reduceCtorEq, Bool.not_true, Bool.not_false, gt_iff_lt, ge_iff_le, maxBytes, List.reduceReplicate, Nat.reduceAdd, Nat.reduceBEq, List.cons.injEq, and_false, false_and, and_true, true_and, and_self, v8]
    exact ansF fun h => by have := h.m; omega
  simp (maxSteps := 2000000) (disch := omega) only [vm, ↓reduceIte, Nat.reduceEqDiff, decide_eq_true, decide_eq_false, if_pos, if_neg, U8s_get, Us_get, Ns_get, Rs_get, Bs_get, wrap64, wrap8, Int.cast_ofNat_Int, Int.reduceLT, Int.reduceLE, Int.reduceToNat, reduceCtorEq, Bool.not_true, Bool.not_false, gt_iff_lt, ge_iff_le, maxBytes, List.reduceReplicate, Nat.reduceAdd, Nat.reduceBEq, List.cons.injEq, and_false, false_and, and_true, true_and, and_self, v8]
  refine W_iter (fun i (_ : Unit) => ⟨[(1, .ptr 1 []), (3, .int .i64 i)], [(1, .agg [.arr (U8s c), .sl b1 (Rs nx), .sl b2 (Ns mk)])], []⟩) nx.length (fun i _ => ∀ k, k < i → (nR nx k).2.length ≤ 256) 0 () rfl (fun k hk => by omega) (by omega) ?_ ?_
  · intro _ hI
    simp (maxSteps := 2000000) (disch := omega) only [vm, ↓reduceIte, Nat.reduceEqDiff, decide_eq_true, decide_eq_false, if_pos, if_neg, U8s_get, Us_get, Ns_get, Rs_get, Bs_get, wrap64, wrap8, Int.cast_ofNat_Int, Int.reduceLT, Int.reduceLE, Int.reduceToNat, reduceCtorEq, Bool.not_true, Bool.not_false, gt_iff_lt, ge_iff_le, maxBytes, List.reduceReplicate, Nat.reduceAdd, Nat.reduceBEq, List.cons.injEq, and_false, false_and, and_true, true_and, and_self]
    exact ansT ⟨by omega, by omega, hI⟩
  · intro i _ hi hI
    by_cases g : 256 < (nR nx i).2.length
    · simp (maxSteps := 2000000) (disch := omega) only [vm, ↓reduceIte, Nat.reduceEqDiff, decide_eq_true, decide_eq_false, if_pos, if_neg, U8s_get, Us_get, Ns_get, Rs_get, Bs_get, wrap64, wrap8, Int.cast_ofNat_Int, Int.reduceLT, Int.reduceLE, Int.reduceToNat, reduceCtorEq, Bool.not_true, Bool.not_false, gt_iff_lt, ge_iff_le, maxBytes, List.reduceReplicate, Nat.reduceAdd, Nat.reduceBEq, List.cons.injEq, and_false, false_and, and_true, true_and, and_self]
      exact ansF fun h => by have := h.row i hi; omega
    simp (maxSteps := 2000000) (disch := omega) only [vm, ↓reduceIte, Nat.reduceEqDiff, decide_eq_true, decide_eq_false, if_pos, if_neg, U8s_get, Us_get, Ns_get, Rs_get, Bs_get, wrap64, wrap8, Int.cast_ofNat_Int, Int.reduceLT, Int.reduceLE, Int.reduceToNat, reduceCtorEq, Bool.not_true, Bool.not_false, gt_iff_lt, ge_iff_le, maxBytes, List.reduceReplicate, Nat.reduceAdd, Nat.reduceBEq, List.cons.injEq, and_false, false_and, and_true, true_and, and_self]
    refine ⟨(), by simp, fun k hk => ?_⟩
    by_cases e : k = i
    · subst e; omega
    · exact hI k (by omega)
/-- The first blocks: by marks, nowhere behind all. -/
def blk0 (n : Nat) (mk : List Int) : List Int := mk.map (· + 1) ++ List.replicate (n + 1 - mk.length) 0
theorem blocks {c : List Nat} {nx : List Rw} {mk : List Int} (h : RightP c nx mk) (b1 b2 : Bool) : Gives code 32 [Dfa c b1 nx b2 mk] (fun r => ∃ l, r = .own false (Ns l) ∧ l.length = nx.length + 1 ∧ (∀ i, i < nx.length → nI l i = nI mk i + 1) ∧ nI l nx.length = 0) := by
  refine gives_of rfl ?_
  unfold Dfa
  have h2 := h.n2
  have h3 := h.mkl
  have e1 : ((nx.length : Int) + 1).toNat = nx.length + 1 := by omega
  simp (maxSteps := 2000000) (disch := omega) only [vm, ↓reduceIte, Nat.reduceEqDiff, decide_eq_true, decide_eq_false, if_pos, if_neg, U8s_get, Us_get, Ns_get, Rs_get, Bs_get, wrap64, wrap8, Int.cast_ofNat_Int, Int.reduceLT, Int.reduceLE, Int.reduceToNat, reduceCtorEq, Bool.not_true, Bool.not_false, gt_iff_lt, ge_iff_le, maxBytes, List.reduceReplicate, Nat.reduceAdd, Nat.reduceBEq, List.cons.injEq, and_false, false_and, and_true, true_and, and_self, v32, maxBytes, e1, Ns_replicate]
  refine W_iter (fun i (l : List Int) => ⟨[(3, .ref [0, 3]), (12, .sl b2 (Ns mk)), (13, .int .i64 mk.length), (14, .int .i64 i)], [], [([0, 3], .row ⟨false, false, Ns l⟩)]⟩) mk.length
    (fun i l => l.length = nx.length + 1 ∧ (∀ k, k < i → nI l k = nI mk k + 1) ∧ ∀ k, i ≤ k → k < nx.length + 1 → nI l k = 0) 0 (List.replicate (nx.length + 1) 0) ?_ ⟨by simp, fun k hk => by omega, fun k _ hk => nI_rep hk⟩ (by omega) ?_ ?_
  · rfl
  · rintro l ⟨g1, g2, g3⟩
    simp (maxSteps := 2000000) (disch := omega) only [vm, ↓reduceIte, Nat.reduceEqDiff, decide_eq_true, decide_eq_false, if_pos, if_neg, U8s_get, Us_get, Ns_get, Rs_get, Bs_get, wrap64, wrap8, Int.cast_ofNat_Int, Int.reduceLT, Int.reduceLE, Int.reduceToNat, reduceCtorEq, Bool.not_true, Bool.not_false, gt_iff_lt, ge_iff_le, maxBytes, List.reduceReplicate, Nat.reduceAdd, Nat.reduceBEq, List.cons.injEq, and_false, false_and, and_true, true_and, and_self]
    exact ⟨l, rfl, g1, fun i hi => g2 i (by omega), g3 _ (by omega) (by omega)⟩
  · rintro i l hi ⟨g1, g2, g3⟩
    have hm := (h.row i (by omega)).mark
    simp (maxSteps := 2000000) (disch := omega) only [vm, ↓reduceIte, Nat.reduceEqDiff, decide_eq_true, decide_eq_false, if_pos, if_neg, U8s_get, Us_get, Ns_get, Rs_get, Bs_get, wrap64, wrap8, Int.cast_ofNat_Int, Int.reduceLT, Int.reduceLE, Int.reduceToNat, reduceCtorEq, Bool.not_true, Bool.not_false, gt_iff_lt, ge_iff_le, maxBytes, List.reduceReplicate, Nat.reduceAdd, Nat.reduceBEq, List.cons.injEq, and_false, false_and, and_true, true_and, and_self]
    refine ⟨l.set i (nI mk i + 1), by simp, by simpa using g1, fun k hk => ?_, fun k hk hk2 => ?_⟩
    · rw [nI_set (by omega)]
      by_cases e : i = k
      · rw [if_pos e, e]
      · rw [if_neg e]; exact g2 k (by omega)
    · rw [nI_set (by omega), if_neg (by omega)]; exact g3 k (by omega) hk2
def word2 (n : Int) : List UInt8 := [UInt8.ofNat (IntKind.u8.wrap (n.fdiv 256)).toNat, UInt8.ofNat (IntKind.u8.wrap n).toNat]
theorem word (n : Int) : Gives code 55 [.int .i64 n] (fun r => r = .str (word2 n)) := by
  refine gives_of rfl ?_
  have e : (2 : Int) ^ (min 8 64) = 256 := by decide
  simp (maxSteps := 2000000) (disch := omega) only [vm, ↓reduceIte, Nat.reduceEqDiff, decide_eq_true, decide_eq_false, if_pos, if_neg, U8s_get, Us_get, Ns_get, Rs_get, Bs_get, wrap64, wrap8, Int.cast_ofNat_Int, Int.reduceLT, Int.reduceLE, Int.reduceToNat, reduceCtorEq, Bool.not_true, Bool.not_false, gt_iff_lt, ge_iff_le, maxBytes, List.reduceReplicate, Nat.reduceAdd, Nat.reduceBEq, List.cons.injEq, and_false, false_and, and_true, true_and, and_self, v55, bytesOf, IntKind.bits, e]
  rfl
end Go.Vm.Ytnajiilcdcffdaa
end
section
set_option linter.unusedSimpArgs false
set_option linter.unusedVariables false
set_option maxHeartbeats 2000000
namespace Go.Vm.Ytnajiilcdcffdaa
open Go.Vm
/-- Where a class leads from a state; nowhere is the last one. -/
def tgt (nx : List Rw) (i k : Nat) : Nat := if i < nx.length ∧ 0 ≤ nI (nR nx i).2 k then (nI (nR nx i).2 k).toNat else nx.length
def keyTo (nx : List Rw) (f : List Int) (i n : Nat) : List UInt8 := word2 (nI f i) ++ ((List.range n).map fun k => word2 (nI f (tgt nx i k))).flatten
theorem keyTo_succ (nx : List Rw) (f : List Int) (i n : Nat) : keyTo nx f i (n + 1) = keyTo nx f i n ++ word2 (nI f (tgt nx i n)) := by
  simp [keyTo, List.range_succ]
theorem keyTo_length (nx : List Rw) (f : List Int) (i : Nat) : ∀ n, (keyTo nx f i n).length = 2 + 2 * n
  | 0 => by simp [keyTo, word2]
  | n + 1 => by rw [keyTo_succ, List.length_append, keyTo_length nx f i n]; simp [word2]; omega
theorem tgt_le {c : List Nat} {nx : List Rw} {mk : List Int} (h : RightP c nx mk) {i k : Nat} (hk : k < cnt c) : tgt nx i k ≤ nx.length := by
  unfold tgt
  split
  · rename_i g
    have := (h.row i g.1).to k (by rw [(h.row i g.1).len]; exact hk)
    omega
  · exact Nat.le_refl _
theorem word_eq : ∃ o : Int → List PV, ∀ n, cv code 55 [.int .i64 n] = some (.str (word2 n), o n) := by
  have : ∀ n : Int, ∃ o, cv code 55 [.int .i64 n] = some (.str (word2 n), o) := fun n => by
    obtain ⟨_, o, h, rfl⟩ := word n
    exact ⟨o, h⟩
  exact ⟨fun n => (this n).choose, fun n => (this n).choose_spec⟩
theorem row {c : List Nat} {nx : List Rw} {mk : List Int} (hc : Cls c) (h : RightP c nx mk) (b1 b2 b : Bool) {f : List Int} (hf : f.length = nx.length + 1) {i : Nat} (hi : i < nx.length + 1) :
    Gives code 47 [Dfa c b1 nx b2 mk, .sl b (Ns f), .int .i64 i] (fun r => r = .str (keyTo nx f i (cnt c))) := by
  refine gives_of rfl ?_
  unfold Dfa
  obtain ⟨o, hw⟩ := word_eq
  obtain ⟨_, _, hC, rfl⟩ := count hc
  have h2 := h.n2
  have hcl := hc.cnt_le
  simp (maxSteps := 2000000) (disch := omega) only [vm, ↓reduceIte, Nat.reduceEqDiff, decide_eq_true, decide_eq_false, if_pos, if_neg, U8s_get, Us_get, Ns_get, Rs_get, Bs_get, wrap64, wrap8, Int.cast_ofNat_Int, Int.reduceLT, Int.reduceLE, Int.reduceToNat, reduceCtorEq, Bool.not_true, Bool.not_false, gt_iff_lt, ge_iff_le, maxBytes, List.reduceReplicate, Nat.reduceAdd, Nat.reduceBEq, List.cons.injEq, and_false, false_and, and_true, true_and, and_self, v47, hw, hC]
  refine W_iter (fun k (_ : Unit) => ⟨[(1, .sl b (Ns f)), (2, .int .i64 i), (3, .ptr 3 []), (7, .str (keyTo nx f i k)), (17, .int .i64 (cnt c)), (18, .int .i64 k)], [(3, .agg [.arr (U8s c), .sl b1 (Rs nx), .sl b2 (Ns mk)])], []⟩) (cnt c) (fun _ _ => True) 0 () ?_ trivial (by omega) ?_ ?_
  · simp (maxSteps := 2000000) (disch := omega) only [vm, ↓reduceIte, Nat.reduceEqDiff, decide_eq_true, decide_eq_false, if_pos, if_neg, U8s_get, Us_get, Ns_get, Rs_get, Bs_get, wrap64, wrap8, Int.cast_ofNat_Int, Int.reduceLT, Int.reduceLE, Int.reduceToNat, reduceCtorEq, Bool.not_true, Bool.not_false, gt_iff_lt, ge_iff_le, maxBytes, List.reduceReplicate, Nat.reduceAdd, Nat.reduceBEq, List.cons.injEq, and_false, false_and, and_true, true_and, and_self, keyTo, List.range_zero, List.map_nil, List.flatten_nil, List.append_nil]
  · intro _ _
    simp (maxSteps := 2000000) (disch := omega) only [vm, ↓reduceIte, Nat.reduceEqDiff, decide_eq_true, decide_eq_false, if_pos, if_neg, U8s_get, Us_get, Ns_get, Rs_get, Bs_get, wrap64, wrap8, Int.cast_ofNat_Int, Int.reduceLT, Int.reduceLE, Int.reduceToNat, reduceCtorEq, Bool.not_true, Bool.not_false, gt_iff_lt, ge_iff_le, maxBytes, List.reduceReplicate, Nat.reduceAdd, Nat.reduceBEq, List.cons.injEq, and_false, false_and, and_true, true_and, and_self]
  · intro k _ hk _
    have hl := keyTo_length nx f i k
    have hl2 : (word2 (nI f (tgt nx i k))).length = 2 := rfl
    have ht := tgt_le h (i := i) hk
    by_cases g1 : i < nx.length
    · have hr := h.row i g1
      have hrl := hr.len
      have hrt := hr.to k (by omega)
      by_cases g2 : 0 ≤ nI (nR nx i).2 k
      · have e : nI (nR nx i).2 k = (tgt nx i k : Int) := by unfold tgt; rw [if_pos ⟨g1, g2⟩]; omega
        simp (maxSteps := 2000000) (disch := omega) only [vm, ↓reduceIte, Nat.reduceEqDiff, decide_eq_true, decide_eq_false, if_pos, if_neg, U8s_get, Us_get, Ns_get, Rs_get, Bs_get, wrap64, wrap8, Int.cast_ofNat_Int, Int.reduceLT, Int.reduceLE, Int.reduceToNat, reduceCtorEq, Bool.not_true, Bool.not_false, gt_iff_lt, ge_iff_le, maxBytes, List.reduceReplicate, Nat.reduceAdd, Nat.reduceBEq, List.cons.injEq, and_false, false_and, and_true, true_and, and_self, hw, e]
        refine ⟨(), ?_⟩
        rw [keyTo_succ]
        simp
      · have e : tgt nx i k = nx.length := by unfold tgt; rw [if_neg (by omega)]
        rw [e] at hl2
        simp (maxSteps := 2000000) (disch := omega) only [vm, ↓reduceIte, Nat.reduceEqDiff, decide_eq_true, decide_eq_false, if_pos, if_neg, U8s_get, Us_get, Ns_get, Rs_get, Bs_get, wrap64, wrap8, Int.cast_ofNat_Int, Int.reduceLT, Int.reduceLE, Int.reduceToNat, reduceCtorEq, Bool.not_true, Bool.not_false, gt_iff_lt, ge_iff_le, maxBytes, List.reduceReplicate, Nat.reduceAdd, Nat.reduceBEq, List.cons.injEq, and_false, false_and, and_true, true_and, and_self, hw]
        refine ⟨(), ?_⟩
        rw [keyTo_succ, e]
        simp
    · have e : tgt nx i k = nx.length := by unfold tgt; rw [if_neg (by omega)]
      rw [e] at hl2
      simp (maxSteps := 2000000) (disch := omega) only [vm, ↓reduceIte, Nat.reduceEqDiff, decide_eq_true, decide_eq_false, if_pos, if_neg, U8s_get, Us_get, Ns_get, Rs_get, Bs_get, wrap64, wrap8, Int.cast_ofNat_Int, Int.reduceLT, Int.reduceLE, Int.reduceToNat, reduceCtorEq, Bool.not_true, Bool.not_false, gt_iff_lt, ge_iff_le, maxBytes, List.reduceReplicate, Nat.reduceAdd, Nat.reduceBEq, List.cons.injEq, and_false, false_and, and_true, true_and, and_self, hw]
      refine ⟨(), ?_⟩
      rw [keyTo_succ, e]
      simp
end Go.Vm.Ytnajiilcdcffdaa
end
section
set_option linter.unusedSimpArgs false
set_option linter.unusedVariables false
set_option maxHeartbeats 2000000
namespace Go.Vm.Ytnajiilcdcffdaa
open Go.Vm
theorem getElem?_inj {α : Type} {l : List α} (h : l.Nodup) {i j : Nat} {x : α} (h1 : l[i]? = some x) (h2 : l[j]? = some x) : i = j := by
  exact (List.getElem?_inj (List.getElem?_eq_some_iff.1 h1).1 h).1 (by rw [h1, h2])
structure SplitInv (K : Nat → List UInt8) (n i : Nat) (l : List Int) (ks : List (List UInt8)) : Prop where
  len : l.length = n
  nd : ks.Nodup
  at_ : ∀ j, j < i → 0 ≤ nI l j ∧ ks[(nI l j).toNat]? = some (K j)
  first : ∀ j, j < i → ∀ v : Nat, (v : Int) < nI l j → ∃ j', j' < j ∧ nI l j' = v
  all : ∀ v, v < ks.length → ∃ j, j < i ∧ nI l j = v
theorem SplitInv.old {K : Nat → List UInt8} {n i v : Nat} {l : List Int} {ks : List (List UInt8)} (h : SplitInv K n i l ks) (hi : i < n) (hv : ks[v]? = some (K i)) : SplitInv K n (i + 1) (l.set i v) ks := by
  have hlen := h.len
  have hvl := (List.getElem?_eq_some_iff.1 hv).1
  refine ⟨by simpa using hlen, h.nd, fun j hj => ?_, fun j hj w hw => ?_, fun w hw => ?_⟩
  · rw [nI_set (by omega)]
    by_cases e : i = j
    · subst e; rw [if_pos rfl]; exact ⟨by omega, by simpa using hv⟩
    · rw [if_neg e]; exact h.at_ j (by omega)
  · rw [nI_set (by omega)] at hw
    by_cases e : i = j
    · subst e
      rw [if_pos rfl] at hw
      obtain ⟨j', h1, h2⟩ := h.all w (by omega)
      exact ⟨j', h1, by rw [nI_set (by omega), if_neg (by omega)]; exact h2⟩
    · rw [if_neg e] at hw
      obtain ⟨j', h1, h2⟩ := h.first j (by omega) w hw
      exact ⟨j', h1, by rw [nI_set (by omega), if_neg (by omega)]; exact h2⟩
  · obtain ⟨j, h1, h2⟩ := h.all w hw
    exact ⟨j, by omega, by rw [nI_set (by omega), if_neg (by omega)]; exact h2⟩
theorem SplitInv.new {K : Nat → List UInt8} {n i : Nat} {l : List Int} {ks : List (List UInt8)} (h : SplitInv K n i l ks) (hi : i < n) (hv : K i ∉ ks) : SplitInv K n (i + 1) (l.set i ks.length) (ks ++ [K i]) := by
  have hlen := h.len
  refine ⟨by simpa using hlen, ?_, fun j hj => ?_, fun j hj w hw => ?_, fun w hw => ?_⟩
  · rw [List.nodup_append]
    exact ⟨h.nd, by simp, by simp; intro a ha e; exact hv (e ▸ ha)⟩
  · rw [nI_set (by omega)]
    by_cases e : i = j
    · subst e; rw [if_pos rfl]; exact ⟨by omega, by simp⟩
    · rw [if_neg e]
      obtain ⟨h1, h2⟩ := h.at_ j (by omega)
      exact ⟨h1, by rw [List.getElem?_append_left (List.getElem?_eq_some_iff.1 h2).1]; exact h2⟩
  · rw [nI_set (by omega)] at hw
    by_cases e : i = j
    · subst e
      rw [if_pos rfl] at hw
      obtain ⟨j', h1, h2⟩ := h.all w (by omega)
      exact ⟨j', h1, by rw [nI_set (by omega), if_neg (by omega)]; exact h2⟩
    · rw [if_neg e] at hw
      obtain ⟨j', h1, h2⟩ := h.first j (by omega) w hw
      exact ⟨j', h1, by rw [nI_set (by omega), if_neg (by omega)]; exact h2⟩
  · simp only [List.length_append, List.length_cons, List.length_nil] at hw
    by_cases e : w = ks.length
    · exact ⟨i, by omega, by rw [nI_set (by omega), if_pos rfl, e]⟩
    · obtain ⟨j, h1, h2⟩ := h.all w (by omega)
      exact ⟨j, by omega, by rw [nI_set (by omega), if_neg (by omega)]; exact h2⟩
theorem SplitInv.done {K : Nat → List UInt8} {n : Nat} {l : List Int} {ks : List (List UInt8)} (h : SplitInv K n n l ks) : Numbered n (fun i j => K i = K j) l ks.length := by
  refine ⟨h.len, fun i j hi hj => ?_, fun i hi => ?_, h.first, h.all⟩
  · obtain ⟨a1, a2⟩ := h.at_ i hi
    obtain ⟨b1, b2⟩ := h.at_ j hj
    constructor
    · intro e
      rw [e, b2] at a2
      exact (Option.some.inj a2).symm
    · intro e
      rw [e] at a2
      have := getElem?_inj h.nd a2 b2
      omega
  · obtain ⟨a1, a2⟩ := h.at_ i hi
    have := (List.getElem?_eq_some_iff.1 a2).1
    exact ⟨a1, by omega⟩
theorem split {c : List Nat} {nx : List Rw} {mk : List Int} (hc : Cls c) (h : RightP c nx mk) (b1 b2 b : Bool) {f : List Int} (hf : f.length = nx.length + 1) :
    Gives code 31 [Dfa c b1 nx b2 mk, .sl b (Ns f)] (fun r => ∃ l m, r = .agg [.own false (Ns l), .int .i64 (m : Nat)] ∧ Numbered (nx.length + 1) (fun i j => keyTo nx f i (cnt c) = keyTo nx f j (cnt c)) l m) := by
  refine gives_of rfl ?_
  have h2 := h.n2
  have hcl := hc.cnt_le
  have hrow : ∀ i, i < nx.length + 1 → ∃ o, cv code 47 [Dfa c b1 nx b2 mk, .sl b (Ns f), .int .i64 i] = some (.str (keyTo nx f i (cnt c)), o) := fun i hi => by
    obtain ⟨_, o, g, rfl⟩ := row hc h b1 b2 b hf hi
    exact ⟨o, g⟩
  unfold Dfa at hrow ⊢
  simp (maxSteps := 2000000) (disch := omega) only [vm, ↓reduceIte, Nat.reduceEqDiff, decide_eq_true, decide_eq_false, if_pos, if_neg, U8s_get, Us_get, Ns_get, Rs_get, Bs_get, wrap64, wrap8, Int.cast_ofNat_Int, Int.reduceLT, Int.reduceLE, Int.reduceToNat, reduceCtorEq, Bool.not_true, Bool.not_false, gt_iff_lt, ge_iff_le, maxBytes, List.reduceReplicate, Nat.reduceAdd, Nat.reduceBEq, List.cons.injEq, and_false, false_and, and_true, true_and, and_self, v31, maxBytes, hf, Ns_replicate]
  refine W_iter (fun i (a : List Int × List (List UInt8)) => ⟨[(1, .sl b (Ns f)), (2, .ptr 2 []), (6, .mref [0, 6]), (7, .ref [0, 7]), (17, .int .i64 (nx.length + 1 : Nat)), (18, .int .i64 i)], [(2, .agg [.arr (U8s c), .sl b1 (Rs nx), .sl b2 (Ns mk)])], [([0, 7], .row ⟨false, false, Ns a.1⟩), ([0, 6], .mp false (encM 0 a.2))]⟩) (nx.length + 1)
    (fun i a => SplitInv (fun i => keyTo nx f i (cnt c)) (nx.length + 1) i a.1 a.2) 0 (List.replicate (nx.length + 1) 0, []) ?_ ⟨by simp, by simp, fun j hj => by omega, fun j hj => by omega, fun v hv => by simp at hv⟩ (by omega) ?_ ?_
  · rfl
  · rintro ⟨l, ks⟩ hI
    simp (maxSteps := 2000000) (disch := omega) only [vm, ↓reduceIte, Nat.reduceEqDiff, decide_eq_true, decide_eq_false, if_pos, if_neg, U8s_get, Us_get, Ns_get, Rs_get, Bs_get, wrap64, wrap8, Int.cast_ofNat_Int, Int.reduceLT, Int.reduceLE, Int.reduceToNat, reduceCtorEq, Bool.not_true, Bool.not_false, gt_iff_lt, ge_iff_le, maxBytes, List.reduceReplicate, Nat.reduceAdd, Nat.reduceBEq, List.cons.injEq, and_false, false_and, and_true, true_and, and_self, encM_length]
    exact ⟨l, ks.length, rfl, hI.done⟩
  · rintro i ⟨l, ks⟩ hi hI
    simp only at hI ⊢
    obtain ⟨o, hr⟩ := hrow i hi
    have hlen := hI.len
    by_cases hk : keyTo nx f i (cnt c) ∈ ks
    · obtain ⟨v, hv⟩ := List.getElem?_of_mem hk
      have hfind := encM_find0 hI.nd hv
      simp (maxSteps := 2000000) (disch := omega) only [vm, ↓reduceIte, Nat.reduceEqDiff, decide_eq_true, decide_eq_false, if_pos, if_neg, U8s_get, Us_get, Ns_get, Rs_get, Bs_get, wrap64, wrap8, Int.cast_ofNat_Int, Int.reduceLT, Int.reduceLE, Int.reduceToNat, reduceCtorEq, Bool.not_true, Bool.not_false, gt_iff_lt, ge_iff_le, maxBytes, List.reduceReplicate, Nat.reduceAdd, Nat.reduceBEq, List.cons.injEq, and_false, false_and, and_true, true_and, and_self, hr, hfind]
      exact ⟨(l.set i v, ks), by simp, hI.old hi hv⟩
    · have hfind := encM_none (n := 0) hk
      have hput := encM_put0 hk
      simp (maxSteps := 2000000) (disch := omega) only [vm, ↓reduceIte, Nat.reduceEqDiff, decide_eq_true, decide_eq_false, if_pos, if_neg, U8s_get, Us_get, Ns_get, Rs_get, Bs_get, wrap64, wrap8, Int.cast_ofNat_Int, Int.reduceLT, Int.reduceLE, Int.reduceToNat, reduceCtorEq, Bool.not_true, Bool.not_false, gt_iff_lt, ge_iff_le, maxBytes, List.reduceReplicate, Nat.reduceAdd, Nat.reduceBEq, List.cons.injEq, and_false, false_and, and_true, true_and, and_self, hr, hfind, hput, encM_length]
      exact ⟨(l.set i ks.length, ks ++ [keyTo nx f i (cnt c)]), by simp, hI.new hi hk⟩
end Go.Vm.Ytnajiilcdcffdaa
end
section
set_option linter.unusedSimpArgs false
set_option linter.unusedVariables false
set_option maxHeartbeats 2000000
namespace Go.Vm.Ytnajiilcdcffdaa
open Go.Vm
theorem word2_inj {a b : Int} (ha : 0 ≤ a ∧ a < 65536) (hb : 0 ≤ b ∧ b < 65536) (h : word2 a = word2 b) : a = b := by
  have hw : ∀ n : Int, 0 ≤ n ∧ n < 65536 → (IntKind.u8.wrap (n.fdiv 256)).toNat = (n / 256).toNat ∧ (IntKind.u8.wrap n).toNat = (n % 256).toNat := by
    intro n hn
    have e : n.fdiv 256 = n / 256 := by rw [Int.fdiv_eq_ediv_of_nonneg _ (by omega)]
    rw [e, IntKind.wrap_u8, IntKind.wrap_u8]
    omega
  obtain ⟨a1, a2⟩ := hw a ha
  obtain ⟨b1, b2⟩ := hw b hb
  simp only [word2, a1, a2, b1, b2, List.cons.injEq, and_true] at h
  have h1 := congrArg UInt8.toNat h.1
  have h2 := congrArg UInt8.toNat h.2
  simp only [UInt8.toNat_ofNat'] at h1 h2
  omega
theorem word2_length (n : Int) : (word2 n).length = 2 := rfl
theorem keyTo_eq {nx : List Rw} {f : List Int} {i j : Nat} (hf : ∀ i, i < nx.length + 1 → 0 ≤ nI f i ∧ nI f i < 65536) (hi : i < nx.length + 1) (hj : j < nx.length + 1) : ∀ {n : Nat}, (∀ i k, k < n → tgt nx i k ≤ nx.length) →
    (keyTo nx f i n = keyTo nx f j n ↔ nI f i = nI f j ∧ ∀ k, k < n → nI f (tgt nx i k) = nI f (tgt nx j k))
  | 0, _ => by
    simp only [keyTo, List.range_zero, List.map_nil, List.flatten_nil, List.append_nil]
    exact ⟨fun h => ⟨word2_inj (hf i hi) (hf j hj) h, fun k hk => by omega⟩, fun h => by rw [h.1]⟩
  | n + 1, ht => by
    have ih := keyTo_eq hf hi hj (n := n) fun i k hk => ht i k (by omega)
    rw [keyTo_succ, keyTo_succ]
    constructor
    · intro h
      obtain ⟨h1, h2⟩ := List.append_inj h (by rw [keyTo_length, keyTo_length])
      obtain ⟨h3, h4⟩ := ih.1 h1
      refine ⟨h3, fun k hk => ?_⟩
      by_cases e : k = n
      · subst e
        exact word2_inj (hf _ (by have := ht i k (by omega); omega)) (hf _ (by have := ht j k (by omega); omega)) h2
      · exact h4 k (by omega)
    · intro h
      rw [ih.2 ⟨h.1, fun k hk => h.2 k (by omega)⟩, h.2 n (by omega)]
/-- The mark of a state; nowhere has none. -/
def mkOf (n : Nat) (mk : List Int) (i : Nat) : Int := if i < n then nI mk i else -1
abbrev EqD (c : List Nat) (nx : List Rw) (mk : List Int) := Eqv (cnt c) (tgt nx) (mkOf nx.length mk)
theorem tgt_le' {c : List Nat} {nx : List Rw} {mk : List Int} (h : RightP c nx mk) : ∀ i k, k < cnt c → tgt nx i k ≤ nx.length := fun i k hk => tgt_le h hk
/-- One split more. -/
theorem split_step {c : List Nat} {nx : List Rw} {mk : List Int} (h : RightP c nx mk) {t m : Nat} {f l : List Int} (hf : Numbered (nx.length + 1) (EqD c nx mk t) f m)
    {m' : Nat} (hl : Numbered (nx.length + 1) (fun i j => keyTo nx f i (cnt c) = keyTo nx f j (cnt c)) l m') : Numbered (nx.length + 1) (EqD c nx mk (t + 1)) l m' := by
  refine hl.congr fun i j hi hj => ?_
  have hle := hf.le
  have hn := h.n2
  rw [keyTo_eq (fun i hi => by have := hf.rng i hi; omega) hi hj (tgt_le' h), hf.same i j hi hj]
  refine and_congr Iff.rfl (forall_congr' fun k => forall_congr' fun hk => ?_)
  have h1 := tgt_le' h i k hk
  have h2 := tgt_le' h j k hk
  exact hf.same _ _ (by omega) (by omega)
theorem split_first {c : List Nat} {nx : List Rw} {mk : List Int} (h : RightP c nx mk) {f l : List Int} (hf1 : ∀ i, i < nx.length → nI f i = nI mk i + 1) (hf2 : nI f nx.length = 0)
    {m' : Nat} (hl : Numbered (nx.length + 1) (fun i j => keyTo nx f i (cnt c) = keyTo nx f j (cnt c)) l m') : Numbered (nx.length + 1) (EqD c nx mk 1) l m' := by
  have hfe : ∀ i, i < nx.length + 1 → nI f i = mkOf nx.length mk i + 1 := by
    intro i hi
    unfold mkOf
    by_cases e : i < nx.length
    · rw [if_pos e, hf1 i e]
    · have : i = nx.length := by omega
      subst this
      rw [if_neg e, hf2]; rfl
  have hm : ∀ i, i < nx.length + 1 → 0 ≤ nI f i ∧ nI f i < 65536 := by
    intro i hi
    by_cases e : i < nx.length
    · have := (h.row i e).mark; rw [hf1 i e]; omega
    · have : i = nx.length := by omega
      subst this; rw [hf2]; omega
  refine hl.congr fun i j hi hj => ?_
  rw [keyTo_eq hm hi hj (tgt_le' h), hfe i hi, hfe j hj]
  refine and_congr ⟨fun e => by show mkOf nx.length mk i = mkOf nx.length mk j; omega, fun e => by have e : mkOf nx.length mk i = mkOf nx.length mk j := e; omega⟩ (forall_congr' fun k => forall_congr' fun hk => ?_)
  have h1 := tgt_le' h i k hk
  have h2 := tgt_le' h j k hk
  rw [hfe _ (by omega), hfe _ (by omega)]
  exact ⟨fun e => by show mkOf nx.length mk _ = mkOf nx.length mk _; omega, fun e => by have e : mkOf nx.length mk (tgt nx i k) = mkOf nx.length mk (tgt nx j k) := e; omega⟩
theorem tgt_lt {c : List Nat} {nx : List Rw} {mk : List Int} (h : RightP c nx mk) : ∀ i k, i < nx.length + 1 → k < cnt c → tgt nx i k < nx.length + 1 := fun i k _ hk => by have := tgt_le h (i := i) hk; omega
theorem blocks_no {c : List Nat} {nx : List Rw} {mk : List Int} (hc : Cls c) (h : ¬ RightP c nx mk) (b1 b2 : Bool) : Gives code 11 [Dfa c b1 nx b2 mk] (fun r => r = .own true []) := by
  refine gives_of rfl ?_
  obtain ⟨_, o, hR, rb, rfl, hrb⟩ := right hc b1 b2 nx mk
  have : rb = false := by cases rb with | false => rfl | true => exact absurd (hrb.1 rfl) h
  subst this
  unfold Dfa at hR ⊢
  simp (maxSteps := 2000000) (disch := omega) only [vm, ↓reduceIte, Nat.reduceEqDiff, decide_eq_true, decide_eq_false, if_pos, if_neg, U8s_get, Us_get, Ns_get, Rs_get, Bs_get, wrap64, wrap8, Int.cast_ofNat_Int, Int.reduceLT, Int.reduceLE, Int.reduceToNat, reduceCtorEq, Bool.not_true, Bool.not_false, gt_iff_lt, ge_iff_le, maxBytes, List.reduceReplicate, Nat.reduceAdd, Nat.reduceBEq, List.cons.injEq, and_false, false_and, and_true, true_and, and_self, v11, hR]
theorem blocks_yes {c : List Nat} {nx : List Rw} {mk : List Int} (hc : Cls c) (h : RightP c nx mk) (b1 b2 : Bool) :
    Gives code 11 [Dfa c b1 nx b2 mk] (fun r => ∃ l, r = .own false (Ns l) ∧ Num nx.length (fun i j => ∀ t, EqD c nx mk t i j) l) := by
  refine gives_of rfl ?_
  obtain ⟨_, o, hR, rb, rfl, hrb⟩ := right hc b1 b2 nx mk
  have : rb = true := hrb.2 h
  subst this
  obtain ⟨_, o1, hB, l0, rfl, g1, g2, g3⟩ := blocks h b1 b2
  obtain ⟨_, o2, hS, l1, m1, rfl, hl1⟩ := split hc h b1 b2 false g1
  have hl1 := split_first h g2 g3 hl1
  have hsp : ∀ f : List Int, f.length = nx.length + 1 → Gives code 31 [Dfa c b1 nx b2 mk, .sl false (Ns f)] (fun r => ∃ l m, r = .agg [.own false (Ns l), .int .i64 (m : Nat)] ∧ Numbered (nx.length + 1) (fun i j => keyTo nx f i (cnt c) = keyTo nx f j (cnt c)) l m) := fun f hf => split hc h b1 b2 false hf
  unfold Dfa at hR hB hS hsp ⊢
  simp (maxSteps := 2000000) (disch := omega) only [vm, ↓reduceIte, Nat.reduceEqDiff, decide_eq_true, decide_eq_false, if_pos, if_neg, U8s_get, Us_get, Ns_get, Rs_get, Bs_get, wrap64, wrap8, Int.cast_ofNat_Int, Int.reduceLT, Int.reduceLE, Int.reduceToNat, reduceCtorEq, Bool.not_true, Bool.not_false, gt_iff_lt, ge_iff_le, maxBytes, List.reduceReplicate, Nat.reduceAdd, Nat.reduceBEq, List.cons.injEq, and_false, false_and, and_true, true_and, and_self, v11, hR, hB, hS]
  refine W_while (fun (a : List Int × Nat) => ⟨[(1, .ptr 1 []), (3, .ref [0, 3]), (4, .int .i64 a.2)], [(1, .agg [.arr (U8s c), .sl b1 (Rs nx), .sl b2 (Ns mk)])], [([0, 3], .row ⟨false, false, Ns a.1⟩)]⟩)
    (fun a => ∃ t, Numbered (nx.length + 1) (EqD c nx mk t) a.1 a.2) (fun a => nx.length + 1 - a.2) (l1, m1) ?_ ⟨1, hl1⟩ ?_
  · rfl
  · rintro ⟨f, m⟩ ⟨t, hf⟩
    simp only at hf ⊢
    have hfl := hf.len
    obtain ⟨_, o3, hS3, l', m', rfl, hl'⟩ := hsp f hfl
    have hl' := split_step h hf hl'
    obtain ⟨q1, q2⟩ := hf.finer hl' fun i j _ _ e => e.1
    have hll := hl'.len
    by_cases e : m' = m
    · simp (maxSteps := 2000000) (disch := omega) only [vm, ↓reduceIte, Nat.reduceEqDiff, decide_eq_true, decide_eq_false, if_pos, if_neg, U8s_get, Us_get, Ns_get, Rs_get, Bs_get, wrap64, wrap8, Int.cast_ofNat_Int, Int.reduceLT, Int.reduceLE, Int.reduceToNat, reduceCtorEq, Bool.not_true, Bool.not_false, gt_iff_lt, ge_iff_le, maxBytes, List.reduceReplicate, Nat.reduceAdd, Nat.reduceBEq, List.cons.injEq, and_false, false_and, and_true, true_and, and_self, hS3]
      refine ⟨l'.take nx.length, by simp [Ns, List.map_take], (hl'.num.take (Nat.le_succ _)).congr fun i j hi hj => ?_⟩
      refine Eqv.all (N := nx.length + 1) (tgt_lt h) (fun i j hi hj e1 => ?_) (by omega) (by omega)
      exact ⟨e1, fun k hk => q2 e.symm _ _ (tgt_lt h i k hi hk) (tgt_lt h j k hj hk) (e1.2 k hk)⟩
    · simp (maxSteps := 2000000) (disch := omega) only [vm, ↓reduceIte, Nat.reduceEqDiff, decide_eq_true, decide_eq_false, if_pos, if_neg, U8s_get, Us_get, Ns_get, Rs_get, Bs_get, wrap64, wrap8, Int.cast_ofNat_Int, Int.reduceLT, Int.reduceLE, Int.reduceToNat, reduceCtorEq, Bool.not_true, Bool.not_false, gt_iff_lt, ge_iff_le, maxBytes, List.reduceReplicate, Nat.reduceAdd, Nat.reduceBEq, List.cons.injEq, and_false, false_and, and_true, true_and, and_self, hS3]
      have := hl'.le
      exact ⟨(l', m'), by simp, ⟨t + 1, hl'⟩, by simp only; omega⟩
end Go.Vm.Ytnajiilcdcffdaa
end
section
set_option linter.unusedSimpArgs false
set_option linter.unusedVariables false
set_option maxHeartbeats 4000000
namespace Go.Vm.Ytnajiilcdcffdaa
open Go.Vm
theorem dmark (c : List Nat) (b1 b2 : Bool) (nx : List PV) (mk : List Int) {i : Nat} (hi : i < mk.length) : Gives code 49 [.agg [.arr (U8s c), .sl b1 nx, .sl b2 (Ns mk)], .int .i64 i] (fun r => r = .int .i64 (nI mk i)) := by
  refine gives_of rfl ?_
  simp (maxSteps := 2000000) (disch := omega) only [vm, ↓reduceIte, Nat.reduceEqDiff, decide_eq_true, decide_eq_false, if_pos, if_neg, U8s_get, Us_get, Ns_get, Rs_get, Bs_get, wrap64, wrap8, Int.cast_ofNat_Int, Int.reduceLT, Int.reduceLE, Int.reduceToNat, reduceCtorEq, Bool.not_true, Bool.not_false, gt_iff_lt, ge_iff_le, maxBytes, List.reduceReplicate, Nat.reduceAdd, Nat.reduceBEq, List.cons.injEq, and_false, false_and, and_true, true_and, and_self, v49]
inductive AliveP (nx : List Rw) (mk : List Int) : Nat → Prop
  | here {i : Nat} (h : 0 ≤ nI mk i) : AliveP nx mk i
  | step {i k j : Nat} (hk : k < (nR nx i).2.length) (hj : nI (nR nx i).2 k = j) (h : AliveP nx mk j) : AliveP nx mk i
def fcount : List Bool → Nat
  | [] => 0
  | b :: l => (if b then 0 else 1) + fcount l
theorem fcount_set : ∀ {l : List Bool} {i : Nat}, i < l.length → nB l i = false → fcount (l.set i true) + 1 = fcount l
  | b :: l, 0, _, h => by
    simp only [nB, List.getD_cons_zero] at h
    subst h
    simp [fcount]
    omega
  | b :: l, i + 1, hi, h => by
    have h' : nB l i = false := by simpa [nB] using h
    have := fcount_set (l := l) (i := i) (by simpa using hi) h'
    simp only [List.set_cons_succ, fcount]
    omega
  | [], _, hi, _ => by simp at hi
structure AlInv (nx : List Rw) (mk : List Int) (l : List Bool) : Prop where
  len : l.length = nx.length
  sound : ∀ i, i < nx.length → nB l i = true → AliveP nx mk i
  marks : ∀ i, i < nx.length → 0 ≤ nI mk i → nB l i = true
def ClosedAt (nx : List Rw) (l : List Bool) (i : Nat) : Prop := nB l i = true ∨ ∀ k, k < (nR nx i).2.length → ∀ j : Nat, nI (nR nx i).2 k = j → nB l j = false
theorem AlInv.done {nx : List Rw} {mk : List Int} {c : List Nat} (hR : RightP c nx mk) {l : List Bool} (h : AlInv nx mk l) (hc : ∀ i, i < nx.length → ClosedAt nx l i) : ∀ i, i < nx.length → (nB l i = true ↔ AliveP nx mk i) := by
  intro i hi
  refine ⟨h.sound i hi, fun ha => ?_⟩
  induction ha with
  | here h0 => exact h.marks _ hi h0
  | @step i k j hk hj ha ih =>
    have hj2 : j < nx.length := by have := (hR.row i hi).to k hk; omega
    rcases hc i hi with h1 | h1
    · exact h1
    · have := h1 k hk j hj
      rw [ih hj2] at this
      cases this
theorem alive {c : List Nat} {nx : List Rw} {mk : List Int} (hc : Cls c) (h : RightP c nx mk) (b1 b2 : Bool) :
    Gives code 44 [Dfa c b1 nx b2 mk] (fun r => ∃ l, r = .own false (Bs l) ∧ l.length = nx.length ∧ ∀ i, i < nx.length → (nB l i = true ↔ AliveP nx mk i)) := by
  refine gives_of rfl ?_
  have h2 := h.n2
  have h3 := h.mkl
  have hcnt := hc.cnt_le
  have hm : ∀ i, i < nx.length → ∃ o, cv code 49 [Dfa c b1 nx b2 mk, .int .i64 i] = some (.int .i64 (nI mk i), o) := fun i hi => by
    obtain ⟨_, o, g, rfl⟩ := dmark c b1 b2 (Rs nx) mk (i := i) (by omega)
    exact ⟨o, g⟩
  unfold Dfa at hm ⊢
  simp (maxSteps := 2000000) (disch := omega) only [vm, ↓reduceIte, Nat.reduceEqDiff, decide_eq_true, decide_eq_false, if_pos, if_neg, U8s_get, Us_get, Ns_get, Rs_get, Bs_get, wrap64, wrap8, Int.cast_ofNat_Int, Int.reduceLT, Int.reduceLE, Int.reduceToNat, reduceCtorEq, Bool.not_true, Bool.not_false, gt_iff_lt, ge_iff_le, maxBytes, List.reduceReplicate, Nat.reduceAdd, Nat.reduceBEq, List.cons.injEq, and_false, false_and, and_true, true_and, and_self, v44, maxBytes, Bs_replicate]
  refine W_iter (fun i (l : List Bool) => ⟨[(1, .ptr 1 []), (3, .ref [0, 3]), (15, .int .i64 nx.length), (16, .int .i64 i)], [(1, .agg [.arr (U8s c), .sl b1 (Rs nx), .sl b2 (Ns mk)])], [([0, 3], .row ⟨false, false, Bs l⟩)]⟩) nx.length
    (fun i l => l.length = nx.length ∧ ∀ k, k < nx.length → (nB l k = true ↔ k < i ∧ 0 ≤ nI mk k)) 0 (List.replicate nx.length false) ?_ ⟨by simp, fun k hk => by rw [nB_rep hk]; simp⟩ (by omega) ?_ ?_
  · simp (maxSteps := 2000000) (disch := omega) only [vm, ↓reduceIte, Nat.reduceEqDiff, decide_eq_true, decide_eq_false, if_pos, if_neg, U8s_get, Us_get, Ns_get, Rs_get, Bs_get, wrap64, wrap8, Int.cast_ofNat_Int, Int.reduceLT, Int.reduceLE, Int.reduceToNat, reduceCtorEq, Bool.not_true, Bool.not_false, gt_iff_lt, ge_iff_le, maxBytes, List.reduceReplicate, Nat.reduceAdd, Nat.reduceBEq, List.cons.injEq, and_false, false_and, and_true, true_and, and_self, List.length_replicate]
  · rintro l ⟨g1, g2⟩
    simp (maxSteps := 2000000) (disch := omega) only [vm, ↓reduceIte, Nat.reduceEqDiff, decide_eq_true, decide_eq_false, if_pos, if_neg, U8s_get, Us_get, Ns_get, Rs_get, Bs_get, wrap64, wrap8, Int.cast_ofNat_Int, Int.reduceLT, Int.reduceLE, Int.reduceToNat, reduceCtorEq, Bool.not_true, Bool.not_false, gt_iff_lt, ge_iff_le, maxBytes, List.reduceReplicate, Nat.reduceAdd, Nat.reduceBEq, List.cons.injEq, and_false, false_and, and_true, true_and, and_self]
    refine W_while (fun (a : List Bool × Bool) => ⟨[(1, .ptr 1 []), (3, .ref [0, 3]), (5, .bool a.2)], [(1, .agg [.arr (U8s c), .sl b1 (Rs nx), .sl b2 (Ns mk)])], [([0, 3], .row ⟨false, false, Bs a.1⟩)]⟩)
      (fun a => AlInv nx mk a.1 ∧ (a.2 = false → ∀ i, i < nx.length → ClosedAt nx a.1 i)) (fun a => 2 * fcount a.1 + if a.2 then 1 else 0) (l, true) rfl
      ⟨⟨g1, fun i hi hb => .here ((g2 i hi).1 hb).2, fun i hi hb => (g2 i hi).2 ⟨hi, hb⟩⟩, fun e => by cases e⟩ ?_
    rintro ⟨l0, mo⟩ ⟨hI, hcl⟩
    simp only at hI hcl ⊢
    have hl0 := hI.len
    cases mo with
    | false =>
      simp (maxSteps := 2000000) (disch := omega) only [vm, ↓reduceIte, Nat.reduceEqDiff, decide_eq_true, decide_eq_false, if_pos, if_neg, U8s_get, Us_get, Ns_get, Rs_get, Bs_get, wrap64, wrap8, Int.cast_ofNat_Int, Int.reduceLT, Int.reduceLE, Int.reduceToNat, reduceCtorEq, Bool.not_true, Bool.not_false, gt_iff_lt, ge_iff_le, maxBytes, List.reduceReplicate, Nat.reduceAdd, Nat.reduceBEq, List.cons.injEq, and_false, false_and, and_true, true_and, and_self]
      exact ⟨l0, rfl, hl0, hI.done h (hcl rfl)⟩
    | true =>
      simp (maxSteps := 2000000) (disch := omega) only [vm, ↓reduceIte, Nat.reduceEqDiff, decide_eq_true, decide_eq_false, if_pos, if_neg, U8s_get, Us_get, Ns_get, Rs_get, Bs_get, wrap64, wrap8, Int.cast_ofNat_Int, Int.reduceLT, Int.reduceLE, Int.reduceToNat, reduceCtorEq, Bool.not_true, Bool.not_false, gt_iff_lt, ge_iff_le, maxBytes, List.reduceReplicate, Nat.reduceAdd, Nat.reduceBEq, List.cons.injEq, and_false, false_and, and_true, true_and, and_self]
      refine W_iter (fun i (a : List Bool × Bool) => ⟨[(1, .ptr 1 []), (3, .ref [0, 3]), (5, .bool a.2), (29, .sl b1 (Rs nx)), (30, .int .i64 nx.length), (31, .int .i64 i)], [(1, .agg [.arr (U8s c), .sl b1 (Rs nx), .sl b2 (Ns mk)])], [([0, 3], .row ⟨false, false, Bs a.1⟩)]⟩) nx.length
        (fun i a => AlInv nx mk a.1 ∧ (a.2 = false → a.1 = l0 ∧ ∀ k, k < i → ClosedAt nx a.1 k) ∧ (a.2 = true → fcount a.1 < fcount l0)) 0 (l0, false) rfl ⟨hI, fun _ => ⟨rfl, fun k hk => by omega⟩, fun e => by cases e⟩ (by omega) ?_ ?_
      · rintro ⟨l1, m1⟩ ⟨q1, q2, q3⟩
        simp only at q1 q2 q3 ⊢
        simp (maxSteps := 2000000) (disch := omega) only [vm, ↓reduceIte, Nat.reduceEqDiff, decide_eq_true, decide_eq_false, if_pos, if_neg, U8s_get, Us_get, Ns_get, Rs_get, Bs_get, wrap64, wrap8, Int.cast_ofNat_Int, Int.reduceLT, Int.reduceLE, Int.reduceToNat, reduceCtorEq, Bool.not_true, Bool.not_false, gt_iff_lt, ge_iff_le, maxBytes, List.reduceReplicate, Nat.reduceAdd, Nat.reduceBEq, List.cons.injEq, and_false, false_and, and_true, true_and, and_self]
        refine ⟨(l1, m1), by simp, ⟨q1, fun e => (q2 e).2⟩, ?_⟩
        cases m1 with
        | false => obtain ⟨e, _⟩ := q2 rfl; subst e; simp
        | true => have := q3 rfl; simp; omega
      · rintro i ⟨l1, m1⟩ hi ⟨q1, q2, q3⟩
        simp only at q1 q2 q3 ⊢
        have hl1 := q1.len
        have hrt := (h.row i hi).to
        have hrl := (h.row i hi).len
        cases hb : nB l1 i with
        | true =>
          simp (maxSteps := 2000000) (disch := omega) only [vm, ↓reduceIte, Nat.reduceEqDiff, decide_eq_true, decide_eq_false, if_pos, if_neg, U8s_get, Us_get, Ns_get, Rs_get, Bs_get, wrap64, wrap8, Int.cast_ofNat_Int, Int.reduceLT, Int.reduceLE, Int.reduceToNat, reduceCtorEq, Bool.not_true, Bool.not_false, gt_iff_lt, ge_iff_le, maxBytes, List.reduceReplicate, Nat.reduceAdd, Nat.reduceBEq, List.cons.injEq, and_false, false_and, and_true, true_and, and_self, hb]
          refine ⟨(l1, m1), by simp, q1, fun e => ⟨(q2 e).1, fun k hk => ?_⟩, q3⟩
          by_cases ek : k = i
          · subst ek; exact .inl hb
          · exact (q2 e).2 k (by omega)
        | false =>
          simp (maxSteps := 2000000) (disch := omega) only [vm, ↓reduceIte, Nat.reduceEqDiff, decide_eq_true, decide_eq_false, if_pos, if_neg, U8s_get, Us_get, Ns_get, Rs_get, Bs_get, wrap64, wrap8, Int.cast_ofNat_Int, Int.reduceLT, Int.reduceLE, Int.reduceToNat, reduceCtorEq, Bool.not_true, Bool.not_false, gt_iff_lt, ge_iff_le, maxBytes, List.reduceReplicate, Nat.reduceAdd, Nat.reduceBEq, List.cons.injEq, and_false, false_and, and_true, true_and, and_self, hb]
          refine W_iter (fun j (_ : Unit) => ⟨[(1, .ptr 1 []), (3, .ref [0, 3]), (5, .bool m1), (6, .int .i64 i), (29, .sl b1 (Rs nx)), (30, .int .i64 nx.length), (31, .int .i64 i), (40, .sl (nR nx i).1 (Ns (nR nx i).2)), (41, .int .i64 (nR nx i).2.length), (42, .int .i64 j)], [(1, .agg [.arr (U8s c), .sl b1 (Rs nx), .sl b2 (Ns mk)])], [([0, 3], .row ⟨false, false, Bs l1⟩)]⟩) (nR nx i).2.length
            (fun j _ => ∀ k, k < j → ∀ t : Nat, nI (nR nx i).2 k = t → nB l1 t = false) 0 () rfl (fun k hk => by omega) (by omega) ?_ ?_
          · intro _ hJ
            simp (maxSteps := 2000000) (disch := omega) only [vm, ↓reduceIte, Nat.reduceEqDiff, decide_eq_true, decide_eq_false, if_pos, if_neg, U8s_get, Us_get, Ns_get, Rs_get, Bs_get, wrap64, wrap8, Int.cast_ofNat_Int, Int.reduceLT, Int.reduceLE, Int.reduceToNat, reduceCtorEq, Bool.not_true, Bool.not_false, gt_iff_lt, ge_iff_le, maxBytes, List.reduceReplicate, Nat.reduceAdd, Nat.reduceBEq, List.cons.injEq, and_false, false_and, and_true, true_and, and_self]
            refine ⟨(l1, m1), by simp, q1, fun e => ⟨(q2 e).1, fun k hk => ?_⟩, q3⟩
            by_cases ek : k = i
            · subst ek; exact .inr hJ
            · exact (q2 e).2 k (by omega)
          · intro j _ hj hJ
            have ht := hrt j hj
            by_cases hneg : nI (nR nx i).2 j < 0
            · simp (maxSteps := 2000000) (disch := omega) only [vm, ↓reduceIte, Nat.reduceEqDiff, decide_eq_true, decide_eq_false, if_pos, if_neg, U8s_get, Us_get, Ns_get, Rs_get, Bs_get, wrap64, wrap8, Int.cast_ofNat_Int, Int.reduceLT, Int.reduceLE, Int.reduceToNat, reduceCtorEq, Bool.not_true, Bool.not_false, gt_iff_lt, ge_iff_le, maxBytes, List.reduceReplicate, Nat.reduceAdd, Nat.reduceBEq, List.cons.injEq, and_false, false_and, and_true, true_and, and_self]
              refine ⟨(), by simp, fun k hk t ht => ?_⟩
              by_cases ek : k = j
              · subst ek; omega
              · exact hJ k (by omega) t ht
            · obtain ⟨t, et⟩ : ∃ t : Nat, nI (nR nx i).2 j = t := ⟨(nI (nR nx i).2 j).toNat, by omega⟩
              have htl : t < nx.length := by omega
              cases hbt : nB l1 t with
              | false =>
                simp (maxSteps := 2000000) (disch := omega) only [vm, ↓reduceIte, Nat.reduceEqDiff, decide_eq_true, decide_eq_false, if_pos, if_neg, U8s_get, Us_get, Ns_get, Rs_get, Bs_get, wrap64, wrap8, Int.cast_ofNat_Int, Int.reduceLT, Int.reduceLE, Int.reduceToNat, reduceCtorEq, Bool.not_true, Bool.not_false, gt_iff_lt, ge_iff_le, maxBytes, List.reduceReplicate, Nat.reduceAdd, Nat.reduceBEq, List.cons.injEq, and_false, false_and, and_true, true_and, and_self, et, hbt]
                refine ⟨(), by simp, fun k hk t' ht' => ?_⟩
                by_cases ek : k = j
                · subst ek
                  have : t' = t := by omega
                  rw [this]; exact hbt
                · exact hJ k (by omega) t' ht'
              | true =>
                simp (maxSteps := 2000000) (disch := omega) only [vm, ↓reduceIte, Nat.reduceEqDiff, decide_eq_true, decide_eq_false, if_pos, if_neg, U8s_get, Us_get, Ns_get, Rs_get, Bs_get, wrap64, wrap8, Int.cast_ofNat_Int, Int.reduceLT, Int.reduceLE, Int.reduceToNat, reduceCtorEq, Bool.not_true, Bool.not_false, gt_iff_lt, ge_iff_le, maxBytes, List.reduceReplicate, Nat.reduceAdd, Nat.reduceBEq, List.cons.injEq, and_false, false_and, and_true, true_and, and_self, et, hbt]
                have hf := fcount_set (l := l1) (i := i) (by omega) hb
                have hmono : fcount l1 ≤ fcount l0 := by
                  cases m1 with
                  | false => rw [(q2 rfl).1]; exact Nat.le_refl _
                  | true => have := q3 rfl; omega
                refine ⟨(l1.set i true, true), by simp, ⟨by simpa using hl1, fun k hk hbk => ?_, fun k hk hmk => ?_⟩, (fun e => by cases e), fun _ => by simp only; omega⟩
                · simp only at hbk
                  rw [nB_set (by omega)] at hbk
                  by_cases ek : i = k
                  · subst ek; exact .step hj et (q1.sound t htl hbt)
                  · rw [if_neg ek] at hbk; exact q1.sound k hk hbk
                · simp only
                  rw [nB_set (by omega)]
                  by_cases ek : i = k
                  · rw [if_pos ek]
                  · rw [if_neg ek]; exact q1.marks k hk hmk
  · rintro i l hi ⟨g1, g2⟩
    obtain ⟨o, hmi⟩ := hm i hi
    simp (maxSteps := 2000000) (disch := omega) only [vm, ↓reduceIte, Nat.reduceEqDiff, decide_eq_true, decide_eq_false, if_pos, if_neg, U8s_get, Us_get, Ns_get, Rs_get, Bs_get, wrap64, wrap8, Int.cast_ofNat_Int, Int.reduceLT, Int.reduceLE, Int.reduceToNat, reduceCtorEq, Bool.not_true, Bool.not_false, gt_iff_lt, ge_iff_le, maxBytes, List.reduceReplicate, Nat.reduceAdd, Nat.reduceBEq, List.cons.injEq, and_false, false_and, and_true, true_and, and_self, hmi]
    refine ⟨l.set i (decide (0 ≤ nI mk i)), by simp, by simpa using g1, fun k hk => ?_⟩
    rw [nB_set (by omega)]
    by_cases ek : i = k
    · subst ek; simp
    · rw [if_neg ek, g2 k hk]
      constructor
      · rintro ⟨a, b⟩; exact ⟨by omega, b⟩
      · rintro ⟨a, b⟩; exact ⟨by omega, b⟩
theorem clone {b : Bool} {l : List Int} (hb : b = true → l = []) (hl : l.length ≤ 1000000) : Gives code 45 [.sl b (Ns l)] (fun r => r = .own b (Ns l)) := by
  refine gives_of rfl ?_
  cases b with
  | true =>
    obtain rfl := hb rfl
    simp (maxSteps := 2000000) (disch := omega) only [vm, ↓reduceIte, Nat.reduceEqDiff, decide_eq_true, decide_eq_false, if_pos, if_neg, U8s_get, Us_get, Ns_get, Rs_get, Bs_get, wrap64, wrap8, Int.cast_ofNat_Int, Int.reduceLT, Int.reduceLE, Int.reduceToNat, reduceCtorEq, Bool.not_true, Bool.not_false, gt_iff_lt, ge_iff_le, maxBytes, List.reduceReplicate, Nat.reduceAdd, Nat.reduceBEq, List.cons.injEq, and_false, false_and, and_true, true_and, and_self, v45]
    rfl
  | false =>
    simp (maxSteps := 2000000) (disch := omega) only [vm, ↓reduceIte, Nat.reduceEqDiff, decide_eq_true, decide_eq_false, if_pos, if_neg, U8s_get, Us_get, Ns_get, Rs_get, Bs_get, wrap64, wrap8, Int.cast_ofNat_Int, Int.reduceLT, Int.reduceLE, Int.reduceToNat, reduceCtorEq, Bool.not_true, Bool.not_false, gt_iff_lt, ge_iff_le, maxBytes, List.reduceReplicate, Nat.reduceAdd, Nat.reduceBEq, List.cons.injEq, and_false, false_and, and_true, true_and, and_self, v45, maxBytes]
end Go.Vm.Ytnajiilcdcffdaa
end
