/- A virtual machine for loaded programs, and that the interpreter does what it does. No conditions beyond each theorem. Composite values, new rows. What is handed on for good is written no more. New rows: composite slices, make. Composite arrays, make, bytes of a string. append: a region grows; the value it grew from is used up. append, joined. append: the step. Stores. Stores: the step. Maps: keys and how one is found. -/
import Derived.Test.YtnajiilcdcffdaaVm2
import Derived.Laws.IdiomStrings
import Derived.MapKept
section
set_option linter.unusedSimpArgs false
set_option linter.unusedVariables false
namespace Go.Vm
variable {P : Program} {F : Fr} {w w' : World} {st st' : St} {a a' : Act} {E E' : Env} {K : Act → World → Prop} {Q : Exit → Act → World → Prop} {o : Oper} {C : Nat → List PV → Option (PV × List PV)}

theorem box_sound {x : Operand} {y : VA} {td : TD} {t : TypeId} (h : Rel F st a w E) (ho : o.op = .box t x) (hnp : ∀ n, o.dst = some n → F.np ≤ n) (hc : chkTD P td t = true) (hx : argOk F.Γ x y td = true) (hd : dOk F.Γ F.N o.dst (.ptr td) = true)
    (hst : step C st o.dst (.box td y) = some st') (hK : ∀ a' w' E', Rel F st' a' w' E' → K a' w') : o.wp P a w K Q := by
  obtain ⟨n, hn, hN, hΓ⟩ := dOk_spec hd
  simp only [step] at hst
  split at hst
  · rename_i v hv
    simp only [hn, St.newBox] at hst
    split at hst
    · cases hst
    · rename_i hlive
      split at hst
      · rename_i hl
        simp only [Option.some.injEq] at hst
        subst hst
        obtain ⟨hrv, hok⟩ := h.arg hx hv
        obtain ⟨cs, hr, _, hcells⟩ := hrv.rt (by simpa using hlive) (chkTD.notTup hc)
        obtain ⟨E', hr⟩ := h.newBox (t := t) hl hN hΓ hr hok (hnp _ hn)
        refine upon_value (w' := w.alloc (.cells cs.toArray t)) ?_ (hK _ _ E' (by rw [hn]; exact hr))
        simp only [execOp, ho, Instr.box, Sem.run_bind, Result.andThen_ok, newVar, newRow, run_newObj, Sem.run_pure, hcells]
        rfl
      · cases hst
  · cases hst

/-! ### Parts -/
def partsOk (Γ : Nat → TD) (ty : Nat → Option TD) : List (Nat × Operand) → List (Nat × VA) → Bool
  | [], [] => true
  | (i, x) :: r, (j, y) :: s => decide (i = j) && (match ty i with | some td => argOk Γ x y td && (match td with | .tup _ => false | _ => true) | none => false) && partsOk Γ ty r s
  | _, _ => false
theorem foldl_set (cs : List Value) : ∀ (off k : Nat) (cur : Array Value), off + k + cs.length ≤ cur.size →
    ((cs.zipIdx k).foldl (fun (acc : Array Value) (x : Value × Nat) => acc.setIfInBounds (off + x.2) x.1) cur).toList = splice (off + k) cs cur.toList := by
  induction cs with
  | nil => intro off k cur h; simp [splice]
  | cons c cs ih =>
    intro off k cur h
    simp only [List.length_cons] at h
    rw [List.zipIdx_cons, List.foldl_cons, ih off (k + 1) _ (by simp; omega)]
    simp only [Array.toList_setIfInBounds]
    apply List.ext_getElem?
    intro i
    simp only [splice, List.getElem?_append, List.length_append, List.length_take, List.length_drop, List.length_set, List.getElem?_take, List.getElem?_drop, List.getElem?_set, Array.length_toList, List.length_cons]
    repeat' split
    all_goals first
      | rfl
      | (exfalso; omega)
      | (rename_i h1 h2; simp only [List.getElem?_cons]; split <;> first | rfl | (exfalso; omega) | (congr 1; omega))
      | skip
    all_goals first
      | (congr 1; omega)
      | (rw [show i - (off + k) = 0 from by omega]; rfl)
      | (obtain ⟨j, hj⟩ : ∃ j, i - (off + k) = j + 1 := ⟨i - (off + k) - 1, by omega⟩; rw [hj, List.getElem?_cons_succ]; congr 1; omega)
      | skip

/-- What the parts are, for the machine and for the interpreter. -/
inductive Parts (w : World) (E : Env) (st : St) (ty : Nat → Option TD) : List (Nat × Value) → List (Nat × PV) → Prop
  | nil : Parts w E st ty [] []
  | cons {i : Nat} {v : Value} {p : PV} {td : TD} {vs : List (Nat × Value)} {ps : List (Nat × PV)} (ht : ty i = some td) (hn : ∀ ts, td ≠ .tup ts) (h : RV w E td v p) (ho : Ok st p) (hs : Parts w E st ty vs ps) : Parts w E st ty ((i, v) :: vs) ((i, p) :: ps)
theorem Rel.parts (h : Rel F st a w E) {ty : Nat → Option TD} : ∀ {xs : List (Nat × Operand)} {ys : List (Nat × VA)} {l : List (Nat × PV)}, partsOk F.Γ ty xs ys = true → evalParts st ys = some l →
    Parts w E st ty (xs.map fun (i, x) => (i, a.eval x)) l
  | [], [], l, _, hl => by
    simp only [evalParts, Option.some.injEq] at hl
    subst hl
    exact .nil
  | (i, x) :: xs, (j, y) :: ys, l, hx, hl => by
    simp only [partsOk, Bool.and_eq_true, decide_eq_true_eq] at hx
    obtain ⟨⟨rfl, h1⟩, h2⟩ := hx
    split at h1
    · rename_i td htd
      simp only [Bool.and_eq_true] at h1
      simp only [evalParts] at hl
      split at hl
      · rename_i v hv
        split at hl
        · rename_i l' hl'
          simp only [Option.some.injEq] at hl
          subst hl
          obtain ⟨k1, k2⟩ := h.arg h1.1 hv
          exact .cons htd (by rintro ts rfl; simp at h1) k1 k2 (h.parts h2 hl')
        · cases hl
      · cases hl
    · cases h1
  | [], _ :: _, _, hx, _ => by simp [partsOk] at hx
  | _ :: _, [], _, hx, _ => by simp [partsOk] at hx

theorem fill_struct {fs : List TD} {places : Nat → Option (Nat × Nat)} (hpl : ∀ i t o, TD.field fs i = some (t, o) → places i = some (o, t.size)) :
    ∀ {vs : List (Nat × Value)} {l : List (Nat × PV)} {cs : List Value} {ps r : List PV}, Parts w E st (fun i => (TD.field fs i).map (·.1)) vs l → RTs w E fs cs ps → fill ps l = some r →
    ∃ cs', Instr.fill places cs.toArray vs = some cs'.toArray ∧ RTs w E fs cs' r ∧ (∀ q ∈ r, q ∈ ps ∨ ∃ i, (i, q) ∈ l)
  | _, _, cs, ps, r, .nil, h, hf => by
    simp only [fill, Option.some.injEq] at hf
    subst hf
    exact ⟨cs, rfl, h, fun q hq => .inl hq⟩
  | _, _, cs, ps, r, .cons (i := i) (v := v) (p := p) (td := td) (vs := vs) (ps := l) ht hn hv _ hs, h, hf => by
    simp only [fill] at hf
    split at hf
    · rename_i hlive
      split at hf
      · rename_i hi
        obtain ⟨ds, hr, hv1, hv2⟩ := hv.rt hlive hn
        cases hfi : TD.field fs i with
        | none => rw [hfi] at ht; cases ht
        | some to =>
          obtain ⟨t, o⟩ := to
          rw [hfi] at ht
          simp only [Option.map_some, Option.some.injEq] at ht
          subst ht
          have hsz := TD.field_size hfi
          have hl := h.length
          have hdl := hr.length
          have h2 := h.set hfi hi hr
          obtain ⟨cs', k1, k2, k3⟩ := fill_struct hpl hs h2 hf
          refine ⟨cs', ?_, k2, fun q hq => ?_⟩
          · simp only [Instr.fill, hpl _ _ _ hfi, hv2, List.size_toArray]
            rw [if_neg (by simp; omega)]
            have hfold := foldl_set ds o 0 cs.toArray (by simp; omega)
            have he : (ds.toArray.zipIdx.foldl (fun (acc : Array Value) (x : Value × Nat) => acc.setIfInBounds (o + x.2) x.1) cs.toArray) = (splice o ds cs).toArray := by
              apply Array.ext'
              rw [← Array.foldl_toList]
              simpa using hfold
            rw [← k1]
            exact congrArg (fun z => Instr.fill places z vs) he
          · rcases k3 q hq with h1 | ⟨j, h1⟩
            · rcases List.mem_or_eq_of_mem_set h1 with h1 | h1
              · exact .inl h1
              · subst h1
                exact .inr ⟨i, by simp⟩
            · exact .inr ⟨j, by simp [h1]⟩
      · cases hf
    · cases hf
theorem idss_mem {q : PV} {ps : List PV} (hq : q ∈ ps) : (∀ r ∈ ids q, r ∈ idss ps) ∧ (∀ b ∈ bxs q, b ∈ bxss ps) := by
  obtain ⟨i, hi⟩ := List.getElem?_of_mem hq
  exact idss_get hi
theorem idss_of : ∀ {ps : List PV} {r : RId}, r ∈ idss ps → ∃ q ∈ ps, r ∈ ids q
  | p :: ps, r, h => by
    simp only [idss, List.mem_append] at h
    rcases h with h | h
    · exact ⟨p, by simp, h⟩
    · obtain ⟨q, h1, h2⟩ := idss_of h
      exact ⟨q, by simp [h1], h2⟩
  | [], r, h => by simp [idss] at h
theorem bxss_of : ∀ {ps : List PV} {b : Nat}, b ∈ bxss ps → ∃ q ∈ ps, b ∈ bxs q
  | p :: ps, r, h => by
    simp only [bxss, List.mem_append] at h
    rcases h with h | h
    · exact ⟨p, by simp, h⟩
    · obtain ⟨q, h1, h2⟩ := bxss_of h
      exact ⟨q, by simp [h1], h2⟩
  | [], r, h => by simp [bxss] at h
theorem Parts.ok {ty : Nat → Option TD} : ∀ {vs : List (Nat × Value)} {l : List (Nat × PV)}, Parts w E st ty vs l → ∀ i q, (i, q) ∈ l → Ok st q
  | _, _, .nil, i, q, h => by simp at h
  | _, _, .cons _ _ _ ho hs, i, q, h => by
    rcases List.mem_cons.1 h with h | h
    · injection h with h1 h2
      subst h2
      exact ho
    · exact hs.ok i q h
theorem Ok.agg {ps : List PV} (h : ∀ q ∈ ps, Ok st q) : Ok st (.agg ps) :=
  ⟨fun r hr => by obtain ⟨q, h1, h2⟩ := idss_of (by simpa [ids] using hr); exact (h q h1).1 r h2, fun b hb => by obtain ⟨q, h1, h2⟩ := bxss_of (by simpa [bxs] using hb); exact (h q h1).2 b h2⟩

/-- The places of a struct's fields, as the machine reckons them. -/
theorem places_run {fs : List TD} {off : Nat} : ∀ {fields : List Field}, chkFs P fs off fields = true →
    ∃ pl : List (Nat × Nat), ((fields.mapM (m := Sem) fun f => do pure (f.offset, ← sizeOf f.type)).run P w = .ok pl w) ∧ ∀ i t o, TD.field fs i = some (t, o) → pl[i]? = some (off + o, t.size) := by
  induction fs generalizing off with
  | nil =>
    intro fields h
    cases fields with
    | nil => exact ⟨[], by simp, fun i t o h => by simp [TD.field] at h⟩
    | cons _ _ => simp [chkFs] at h
  | cons t ts ih =>
    intro fields h
    cases fields with
    | nil => simp [chkFs] at h
    | cons f fl =>
      simp only [chkFs, Bool.and_eq_true, decide_eq_true_eq] at h
      obtain ⟨pl, h1, h2⟩ := ih h.2
      refine ⟨(f.offset, t.size) :: pl, ?_, ?_⟩
      · rw [List.mapM_cons]
        simp only [Sem.run_bind, sizeOf_run h.1.2, Result.andThen_ok, Sem.run_pure, h1]
      · intro i u o hi
        cases i with
        | zero =>
          simp only [TD.field, Option.some.injEq, Prod.mk.injEq] at hi
          obtain ⟨rfl, rfl⟩ := hi
          simp [h.1.1.1]
        | succ i =>
          simp only [TD.field] at hi
          split at hi
          · rename_i u' o' hu
            simp only [Option.some.injEq, Prod.mk.injEq] at hi
            obtain ⟨rfl, rfl⟩ := hi
            have := h2 _ _ _ hu
            simp only [List.getElem?_cons_succ, this, Option.some.injEq, Prod.mk.injEq, and_true]
            omega
          · cases hi
theorem build_struct_sound {fs : List TD} {t : TypeId} {parts : Array (Nat × Operand)} {parts' : List (Nat × VA)} (h : Rel F st a w E) (ho : o.op = .build t parts) (hc : chkTD P (.struct fs) t = true)
    (hx : partsOk F.Γ (fun i => (TD.field fs i).map (·.1)) parts.toList parts' = true) (hd : dOk F.Γ F.N o.dst (.struct fs) = true)
    (hst : step C st o.dst (.build (.struct fs) parts') = some st') (hK : ∀ a' w' E', Rel F st' a' w' E' → K a' w') : o.wp P a w K Q := by
  simp only [step] at hst
  split at hst
  · rename_i l hl
    split at hst
    · rename_i r hr
      have hp := h.parts hx hl
      obtain ⟨fields, hu, hcf⟩ := chkTD.struct hc
      obtain ⟨pl, hpl1, hpl2⟩ := places_run (P := P) (w := w) hcf
      have hz := zeros_rt w E hcf
      obtain ⟨cs', k1, k2, k3⟩ := fill_struct (places := fun i => pl.toArray[i]?) (fun i t o hi => by simpa using hpl2 i t o hi) hp hz hr
      refine put_sound (v := .agg cs'.toArray) h hd hst ?_ (.cells (cs := cs') (.struct k2) rfl) (Ok.agg fun q hq => ?_) hK
      · have hm : (fields.mapM (m := Sem) fun f => do pure (f.offset, ← sizeOf f.type)).run P w = .ok pl.toArray w := by
          rw [← Array.toArray_toList (xs := fields), List.mapM_toArray]
          simp only [Sem.run_map, hpl1, Result.andThen_ok]
        have hzc : ((TD.struct fs).valOf (TD.struct fs).zcells).cells = (TD.zcellss fs).toArray := rfl
        have hmp : (parts.map fun (i, x) => (i, a.eval x)).toList = parts.toList.map fun (i, x) => (i, a.eval x) := by simp
        simp only [execOp, ho, Instr.build, Sem.run_bind, zeroValue_run hc, Result.andThen_ok, run_underlying hu, hm, hzc, hmp, k1, Sem.run_pure]
      · rcases k3 q hq with h1 | ⟨i, h1⟩
        · have : ids q = [] ∧ bxs q = [] := by
            have hz := zeros_ids fs
            have := idss_mem h1
            refine ⟨?_, ?_⟩
            · cases e : ids q with
              | nil => rfl
              | cons x xs => have := this.1 x (by simp [e]); rw [hz.1] at this; cases this
            · cases e : bxs q with
              | nil => rfl
              | cons x xs => have := this.2 x (by simp [e]); rw [hz.2] at this; cases this
          exact Ok.of_nil this.1 this.2
        · exact hp.ok i q h1
    · cases hst
  · cases hst
end Go.Vm
end
section
set_option linter.unusedSimpArgs false
set_option linter.unusedVariables false
namespace Go.Vm
variable {P : Program} {F : Fr} {w w' : World} {st st' : St} {a a' : Act} {E E' : Env} {K : Act → World → Prop} {Q : Exit → Act → World → Prop} {o : Oper} {C : Nat → List PV → Option (PV × List PV)}

def RegC.isFrozen : RegC → Bool
  | .row g => g.frozen || g.isNil
  | .mp fz _ => fz
theorem Keeps.less' {X X' : Nat → Prop} (h : ∀ b, X' b → X b) : Keeps w w X X' := ⟨Nat.le_refl _, fun _ _ _ => rfl, fun b _ hb => h b hb⟩

theorem lookR_freeze (r q : RId) (g : RegC) : lookR q (putR r g st.rg) = if r = q then some g else lookR q st.rg := lookR_put r q g st.rg

/-- One region is written no more. -/
theorem Rel.freeze1 (h : Rel F st a w E) {r : RId} {g : RegC} (hg : lookR r st.rg = some g) :
    ∃ E', Rel F { st with rg := putR r g.freeze st.rg } a w E' ∧ (∀ b, E'.X b → E.X b) ∧ E'.rb = E.rb ∧ E'.bb = E.bb := by
  -- the block that is let go
  let gone : Nat → Prop := fun b => Holds st E (.inl r) b
  let E' : Env := { X := fun b => E.X b ∧ ¬ gone b, rb := E.rb, bb := E.bb }
  have hless : ∀ b, E'.X b → E.X b := fun b hb => hb.1
  have hk : Keeps w w E.X E'.X := Keeps.less' hless
  have back : ∀ x b, Holds { st with rg := putR r g.freeze st.rg } E' x b → Holds st E x b ∧ x ≠ .inl r := by
    intro x b hH
    cases hH with
    | row h1 h2 h3 =>
      rw [lookR_freeze] at h1
      split at h1
      · exfalso
        injection h1 with h1
        cases g with
        | row g0 => simp only [RegC.freeze, RegC.row.injEq] at h1; subst h1; simp at h2
        | mp fz es => simp [RegC.freeze] at h1
      · rename_i hne
        exact ⟨.row h1 h2 h3, fun e => hne (by injection e with e; exact e.symm)⟩
    | mp h1 h2 =>
      rw [lookR_freeze] at h1
      split at h1
      · exfalso
        injection h1 with h1
        cases g with
        | row g0 => simp [RegC.freeze] at h1
        | mp fz es => simp [RegC.freeze] at h1
      · rename_i hne
        exact ⟨.mp h1 h2, fun e => hne (by injection e with e; exact e.symm)⟩
    | box h1 h2 => exact ⟨.box h1 h2, by simp⟩
  have notgone : ∀ x b, Holds st E x b → x ≠ .inl r → ¬ gone b := fun x b hx hne hgone => hne (h.dist x (.inl r) b hx hgone)
  have up : ∀ q, OkId st q → OkId { st with rg := putR r g.freeze st.rg } q := fun q hq => hq.mono (fun s v hv => ⟨v, hv⟩) (fun s v hv => ⟨v, hv⟩)
  refine ⟨E', ⟨h.defers, h.size, ?_, ?_, ?_, ?_, ⟨?_, ?_, ?_⟩, h.since, ?_, ?_, h.pbox⟩, hless, rfl, rfl⟩
  · intro s p hp
    obtain ⟨v, h1, h2⟩ := h.slots s p hp
    exact ⟨v, h1, h2.keeps hk ⟨fun _ _ => rfl, fun _ _ => rfl⟩⟩
  · intro b p hp
    obtain ⟨td, ad, h1, h2, h3, cur, et, cs, h4, h5, h6⟩ := h.boxes b p hp
    exact ⟨td, ad, h1, ⟨h2, notgone _ _ (.box hp h1) (by simp)⟩, h3, cur, et, cs, h4, h5, h6.keeps hk ⟨fun _ _ => rfl, fun _ _ => rfl⟩⟩
  · intro q c hq
    rw [lookR_freeze] at hq
    split at hq
    · rename_i e
      subst e
      injection hq with hq
      subst hq
      have h0 := h.regs r g hg
      cases g with
      | row g0 =>
        rcases h0 with ⟨k1, k2, k3⟩ | ⟨k1, e, ad, cap, k2, k3⟩
        · exact .inl ⟨k1, k2, k3⟩
        · refine .inr ⟨k1, e, ad, cap, k2, .inr ⟨rfl, ?_⟩⟩
          rcases k3 with ⟨hf, m1, m2, m3, m4, cur, et, m5, m6, cf, m7, m8⟩ | ⟨hf, m⟩
          · have hH : Holds st E (.inl r) ad.block := .row hg hf k2
            exact .sl (fun _ => ⟨fun hx => hx.2 hH, (Array.getElem?_eq_some_iff.1 m5).1⟩) rfl m3 cf (fun i hi => CellsAt.of_in m2 m5 (m7 i hi)) (fun i x hx => (m8 i x hx).keeps hk)
          · exact m.keeps hk
      | mp fz es =>
        obtain ⟨k, e, b, k1, k2⟩ := h0
        refine ⟨k, e, b, k1, .inr ⟨rfl, ?_⟩⟩
        rcases k2 with ⟨rfl, m1, ms, clock, m2, m3⟩ | ⟨rfl, m⟩
        · have hH : Holds st E (.inl r) b := .mp hg k1
          exact .map ⟨fun hx => hx.2 hH, (Array.getElem?_eq_some_iff.1 m2).1⟩ m2 (m3.keeps hk)
        · exact m.keeps hk
    · rename_i hne
      have h0 := h.regs q c hq
      have hne' : (.inl q : RId ⊕ Nat) ≠ .inl r := fun e => hne (by injection e with e; exact e.symm)
      cases c with
      | row g0 =>
        rcases h0 with ⟨k1, k2, k3⟩ | ⟨k1, e, ad, cap, k2, k3⟩
        · exact .inl ⟨k1, k2, k3⟩
        · refine .inr ⟨k1, e, ad, cap, k2, ?_⟩
          rcases k3 with ⟨hf, m1, m2, m3, m4, cur, et, m5, m6, cf, m7, m8⟩ | ⟨hf, m⟩
          · exact .inl ⟨hf, ⟨m1, notgone _ _ (.row hq hf k2) hne'⟩, m2, m3, m4, cur, et, m5, m6, cf, m7, fun i x hx => (m8 i x hx).keeps hk⟩
          · exact .inr ⟨hf, m.keeps hk⟩
      | mp fz es =>
        obtain ⟨k, e, b, k1, k2⟩ := h0
        refine ⟨k, e, b, k1, ?_⟩
        rcases k2 with ⟨rfl, m1, ms, clock, m2, m3⟩ | ⟨rfl, m⟩
        · exact .inl ⟨rfl, ⟨m1, notgone _ _ (.mp hq k1) hne'⟩, ms, clock, m2, m3.keeps hk⟩
        · exact .inr ⟨rfl, m.keeps hk⟩
  · intro x y b hx hy
    exact h.dist x y b (back _ _ hx).1 (back _ _ hy).1
  · intro s q hq
    have := h.named.sl s q hq
    exact ⟨fun r hr => up r (this.1 r hr), this.2⟩
  · intro s q hq
    have := h.named.bx s q hq
    exact ⟨fun r hr => up r (this.1 r hr), this.2⟩
  · intro q c hq
    rw [lookR_freeze] at hq
    split at hq
    · rename_i e; subst e; exact up _ (h.named.rg _ _ hg)
    · exact up _ (h.named.rg q c hq)
  · intro x b hx
    exact h.fresh x b (back _ _ hx).1
  · intro b h1 h2 h3
    refine ⟨h.outer b h1 h2 h3, fun hgone => ?_⟩
    rcases h.fresh _ _ hgone with k | k
    · exact h3 k
    · omega

theorem freeze_look : ∀ (rs : List RId) (st : St) (q : RId), lookR q (st.freeze rs).rg = if q ∈ rs then (lookR q st.rg).map RegC.freeze else lookR q st.rg := by
  have fz : ∀ g : RegC, g.freeze.freeze = g.freeze := fun g => by cases g <;> rfl
  intro rs
  induction rs with
  | nil => intro st q; simp [St.freeze]
  | cons r rs ih =>
    intro st q
    simp only [St.freeze]
    split
    · rename_i g hg
      rw [ih]
      simp only [lookR_put]
      by_cases e : r = q
      · subst e
        simp [hg, fz]
      · have e' : ¬ q = r := fun h => e h.symm
        simp [e, e']
    · rename_i hg
      rw [ih]
      by_cases e : q = r
      · subst e
        simp [hg]
      · simp [e]
theorem freeze_sl : ∀ (rs : List RId) (st : St), (st.freeze rs).sl = st.sl ∧ (st.freeze rs).bx = st.bx
  | [], st => ⟨rfl, rfl⟩
  | r :: rs, st => by
    simp only [St.freeze]
    split
    · exact freeze_sl rs _
    · exact freeze_sl rs st
theorem Rel.freeze : ∀ (rs : List RId) {st : St} {E : Env}, Rel F st a w E → ∃ E', Rel F (st.freeze rs) a w E' ∧ (∀ b, E'.X b → E.X b) ∧ E'.rb = E.rb ∧ E'.bb = E.bb
  | [], st, E, h => ⟨E, h, fun _ hb => hb, rfl, rfl⟩
  | r :: rs, st, E, h => by
    simp only [St.freeze]
    split
    · rename_i g hg
      obtain ⟨E1, h1, k1, k2, k3⟩ := h.freeze1 hg
      obtain ⟨E2, h2, m1, m2, m3⟩ := Rel.freeze rs h1
      exact ⟨E2, h2, fun b hb => k1 b (m1 b hb), m2.trans k2, m3.trans k3⟩
    · exact Rel.freeze rs h

/-- The regions are written no more. -/
def AllFrozen (st : St) (rs : List RId) : Prop := ∀ r ∈ rs, ∀ g, lookR r st.rg = some g → g.isFrozen = true
theorem frozen_freeze (rs : List RId) (st : St) : AllFrozen (st.freeze rs) rs := by
  intro r hr g hg
  rw [freeze_look, if_pos hr] at hg
  cases hq : lookR r st.rg with
  | none => rw [hq] at hg; cases hg
  | some c =>
    rw [hq] at hg
    simp only [Option.map_some, Option.some.injEq] at hg
    subst hg
    cases c <;> simp [RegC.freeze, RegC.isFrozen]
theorem RC.part {X : Nat → Prop} {e : TD} {ad ad' : Addr} {len cap lo hi c : Nat} {n : Bool} {xs : List PV} (h : RC w X (.slice e) [.slice (some ad) len cap] (.sl n xs)) (h1 : lo ≤ hi) (h2 : hi ≤ xs.length) (h3 : hi - lo ≤ c)
    (h5 : 0 < c → ad' = ad.add (lo * e.size)) : RC w X (.slice e) [.slice (some ad') (hi - lo) c] (.sl n ((xs.drop lo).take (hi - lo))) := by
  cases h with
  | sl hX hl hc cf hcf hcs =>
    have hll : ((xs.drop lo).take (hi - lo)).length = hi - lo := by simp; omega
    refine RC.sl (fun h0 => ?_) hll h3 (fun i => cf (lo + i)) (fun i hi => ?_) (fun i u hu => ?_)
    · rw [hll] at h0
      rw [h5 (by omega), add_block]
      exact hX (by omega)
    · rw [hll] at hi
      rw [h5 (by omega), add_add, ← Nat.add_mul]
      exact hcf _ (by omega)
    · rw [List.getElem?_take] at hu
      split at hu
      · rw [List.getElem?_drop] at hu
        exact hcs _ _ hu
      · cases hu
theorem RegRep.imm {r : RId} {g : Reg} {e : TD} {v : Value} (h : RegRep w E r (.row g)) (hf : (RegC.row g).isFrozen = true) (hr : E.rb r = some (.row e v)) : RC w E.X (.slice e) [v] (.sl g.isNil g.xs) := by
  rcases h with ⟨h1, h2, e', h3⟩ | ⟨h1, e', ad, cap, h3, h4⟩
  · rw [hr] at h3
    injection h3 with h3
    injection h3 with h3 h5
    subst h5
    rw [h1, h2]
    exact .slnil
  · rw [hr] at h3
    injection h3 with h3
    injection h3 with h3 h5
    subst h3 h5
    rcases h4 with ⟨k, _⟩ | ⟨k, h6⟩
    · simp only [RegC.isFrozen, k, h1] at hf
      cases hf
    · rw [h1]
      exact h6
theorem RegRep.immMap {r : RId} {fz : Bool} {es : List (PV × PV)} {k e : TD} {b : Nat} (h : RegRep w E r (.mp fz es)) (hf : fz = true) (hb : E.rb r = some (.mp k e b)) : RC w E.X (.map k e) [.map (some b)] (.map es) := by
  obtain ⟨k', e', b', h1, h2⟩ := h
  rw [hb] at h1
  injection h1 with h1
  injection h1 with h1 h1' h1''
  subst h1 h1' h1''
  rcases h2 with ⟨k, _⟩ | ⟨_, h3⟩
  · rw [hf] at k; cases k
  · exact h3

theorem content_freeze (rs : List RId) (st : St) (p : PV) : (st.freeze rs).content p = st.content p := by
  cases p <;> simp only [St.content]
  case ref r =>
    rw [freeze_look]
    by_cases hr : r ∈ rs
    · rw [if_pos hr]
      cases lookR r st.rg with
      | none => rfl
      | some g => cases g <;> rfl
    · rw [if_neg hr]
  case sub r lo hi =>
    rw [freeze_look]
    by_cases hr : r ∈ rs
    · rw [if_pos hr]
      cases lookR r st.rg with
      | none => rfl
      | some g => cases g <;> rfl
    · rw [if_neg hr]

mutual
theorem RC.imm_same {X : Nat → Prop} {st0 : St} : ∀ {td : TD} {cs : List Value} {p q : PV} {rs : List RId}, RC w X td cs p → st0.imm p = some (q, rs) → q = p
  | _, _, _, q, rs, .bool _, h => by simp only [St.imm, Option.some.injEq, Prod.mk.injEq] at h; exact h.1.symm
  | _, _, _, q, rs, .int _ _, h => by simp only [St.imm, Option.some.injEq, Prod.mk.injEq] at h; exact h.1.symm
  | _, _, _, q, rs, .str _, h => by simp only [St.imm, Option.some.injEq, Prod.mk.injEq] at h; exact h.1.symm
  | _, _, _, q, rs, .struct hs, h => by
    simp only [St.imm] at h
    split at h
    · rename_i gs l hl
      simp only [Option.some.injEq, Prod.mk.injEq] at h
      rw [← h.1, RCs.imm_same hs hl]
    · cases h
  | _, _, _, q, rs, .arr _ _, h => by simp only [St.imm, Option.some.injEq, Prod.mk.injEq] at h; exact h.1.symm
  | _, _, _, q, rs, .slnil, h => by simp only [St.imm, Option.some.injEq, Prod.mk.injEq] at h; exact h.1.symm
  | _, _, _, q, rs, .sl .., h => by simp only [St.imm, Option.some.injEq, Prod.mk.injEq] at h; exact h.1.symm
  | _, _, _, q, rs, .mapnil, h => by simp only [St.imm, Option.some.injEq, Prod.mk.injEq] at h; exact h.1.symm
  | _, _, _, q, rs, .map .., h => by simp only [St.imm, Option.some.injEq, Prod.mk.injEq] at h; exact h.1.symm
  | _, _, _, q, rs, .fn _, h => by simp only [St.imm, Option.some.injEq, Prod.mk.injEq] at h; exact h.1.symm
  | _, _, _, q, rs, .nilfn, h => by simp only [St.imm, Option.some.injEq, Prod.mk.injEq] at h; exact h.1.symm
  | _, _, _, q, rs, .nilptr, h => by simp only [St.imm, Option.some.injEq, Prod.mk.injEq] at h; exact h.1.symm
theorem RCs.imm_same {X : Nat → Prop} {st0 : St} : ∀ {fs : List TD} {cs : List Value} {ps qs : List PV} {rs : List RId}, RCs w X fs cs ps → st0.imms ps = some (qs, rs) → qs = ps
  | _, _, _, qs, rs, .nil, h => by simp only [St.imms, Option.some.injEq, Prod.mk.injEq] at h; exact h.1.symm
  | _, _, _, qs, rs, .cons hr hs, h => by
    simp only [St.imms] at h
    split at h
    · rename_i y l hy
      split at h
      · rename_i ys m hys
        simp only [Option.some.injEq, Prod.mk.injEq] at h
        rw [← h.1, RC.imm_same hr hy, RCs.imm_same hs hys]
      · cases h
    · cases h
end

-- What an immutable copy of a value stands for, once its regions are written no more.
mutual
theorem RT.imm' (h : Rel F st a w E) {st0 : St} {rs0 : List RId} (he : st = st0.freeze rs0) : ∀ {td : TD} {cs : List Value} {p q : PV} {rs : List RId}, RT w E td cs p → st0.imm p = some (q, rs) → AllFrozen st rs → RC w E.X td cs q
  | td, cs, p, q, rs, .imm hr, hi, hf => by
    have key : ∀ {td : TD} {cs : List Value} {p q : PV} {rs : List RId}, RC w E.X td cs p → st0.imm p = some (q, rs) → q = p := RC.imm_same
    rw [key hr hi]
    exact hr
  | _, _, _, q, rs, .struct hs, hi, hf => by
    simp only [St.imm] at hi
    split at hi
    · rename_i gs l hl
      simp only [Option.some.injEq, Prod.mk.injEq] at hi
      obtain ⟨rfl, rfl⟩ := hi
      exact .struct (RTs.imm' h he hs hl hf)
    · cases hi
  | _, _, _, q, rs, .nil, hi, hf => by
    simp only [St.imm, Option.some.injEq, Prod.mk.injEq] at hi
    obtain ⟨rfl, rfl⟩ := hi
    exact .slnil
  | _, _, _, q, rs, .ref (r := r) hr _, hi, hf => by
    simp only [St.imm] at hi
    split at hi
    · rename_i g hg
      simp only [Option.some.injEq, Prod.mk.injEq] at hi
      obtain ⟨rfl, rfl⟩ := hi
      obtain ⟨g', hg', e1, e2⟩ : ∃ g', lookR r st.rg = some (.row g') ∧ g'.isNil = g.isNil ∧ g'.xs = g.xs := by
        rw [he, freeze_look, hg]
        split
        · exact ⟨_, rfl, rfl, rfl⟩
        · exact ⟨_, rfl, rfl, rfl⟩
      have := (h.regs _ _ hg').imm (hf r (by simp) _ hg') hr
      rwa [e1, e2] at this
    · cases hi
  | _, _, _, q, rs, .sub (r := r) hr h1 h2 h3 h4 h5 h6, hi, hf => by
    simp only [St.imm] at hi
    split at hi
    · rename_i g hg
      split at hi
      · rename_i hb
        simp only [Option.some.injEq, Prod.mk.injEq] at hi
        obtain ⟨rfl, rfl⟩ := hi
        obtain ⟨g', hg', e1, e2⟩ : ∃ g', lookR r st.rg = some (.row g') ∧ g'.isNil = g.isNil ∧ g'.xs = g.xs := by
          rw [he, freeze_look, hg]
          split
          · exact ⟨_, rfl, rfl, rfl⟩
          · exact ⟨_, rfl, rfl, rfl⟩
        have := (h.regs _ _ hg').imm (hf r (by simp) _ hg') hr
        rw [e1, e2] at this
        exact this.part h1 hb.2 h3 h5
      · cases hi
    · cases hi
  | _, _, _, q, rs, .subnil (r := r) hr, hi, hf => by
    simp only [St.imm] at hi
    split at hi
    · rename_i g hg
      split at hi
      · rename_i hb
        simp only [Option.some.injEq, Prod.mk.injEq] at hi
        obtain ⟨rfl, rfl⟩ := hi
        obtain ⟨g', hg', e1, e2⟩ : ∃ g', lookR r st.rg = some (.row g') ∧ g'.isNil = g.isNil ∧ g'.xs = g.xs := by
          rw [he, freeze_look, hg]
          split
          · exact ⟨_, rfl, rfl, rfl⟩
          · exact ⟨_, rfl, rfl, rfl⟩
        have := (h.regs _ _ hg').imm (hf r (by simp) _ hg') hr
        rw [e1, e2] at this
        cases hn : g.isNil with
        | true => simpa using RC.slnil
        | false => rw [hn] at this; cases this
      · cases hi
    · cases hi
  | _, _, _, q, rs, .mref (r := r) hr, hi, hf => by
    simp only [St.imm] at hi
    split at hi
    · rename_i fz es hg
      simp only [Option.some.injEq, Prod.mk.injEq] at hi
      obtain ⟨rfl, rfl⟩ := hi
      obtain ⟨fz', hg', hfz⟩ : ∃ fz', lookR r st.rg = some (.mp fz' es) ∧ (RegC.mp fz' es).isFrozen = fz' := by
        rw [he, freeze_look, hg]
        split
        · exact ⟨_, rfl, rfl⟩
        · exact ⟨_, rfl, rfl⟩
      have h1 := hf r (by simp) _ hg'
      rw [hfz] at h1
      exact (h.regs _ _ hg').immMap h1 hr
    · cases hi
  | _, _, _, q, rs, .ptr .., hi, hf => by simp [St.imm] at hi
  | _, _, _, q, rs, .eptr .., hi, hf => by simp [St.imm] at hi
  | _, _, _, q, rs, .rptr .., hi, hf => by simp [St.imm] at hi
  | _, _, _, q, rs, .dead .., hi, hf => by simp [St.imm] at hi
theorem RTs.imm' (h : Rel F st a w E) {st0 : St} {rs0 : List RId} (he : st = st0.freeze rs0) : ∀ {fs : List TD} {cs : List Value} {ps qs : List PV} {rs : List RId}, RTs w E fs cs ps → st0.imms ps = some (qs, rs) → AllFrozen st rs → RCs w E.X fs cs qs
  | _, _, _, qs, rs, .nil, hi, hf => by
    simp only [St.imms, Option.some.injEq, Prod.mk.injEq] at hi
    obtain ⟨rfl, rfl⟩ := hi
    exact .nil
  | _, _, _, qs, rs, .cons hr hs, hi, hf => by
    simp only [St.imms] at hi
    split at hi
    · rename_i y l hy
      split at hi
      · rename_i ys m hys
        simp only [Option.some.injEq, Prod.mk.injEq] at hi
        obtain ⟨rfl, rfl⟩ := hi
        exact .cons (RT.imm' h he hr hy (fun r hr => hf r (by simp [hr]))) (RTs.imm' h he hs hys (fun r hr => hf r (by simp [hr])))
      · cases hi
    · cases hi
end
end Go.Vm
end
section
set_option linter.unusedSimpArgs false
set_option linter.unusedVariables false
namespace Go.Vm
variable {P : Program} {F : Fr} {w w' : World} {st st' : St} {a a' : Act} {E E' : Env} {K : Act → World → Prop} {Q : Exit → Act → World → Prop} {o : Oper} {C : Nat → List PV → Option (PV × List PV)}

theorem flatten_mod (z : List Value) (hz : 0 < z.length) : ∀ (n i : Nat), i < n * z.length → ((List.replicate n z).flatten)[i]? = some (z[i % z.length]'(Nat.mod_lt _ hz)) := by
  intro n
  induction n with
  | zero => intro i hi; simp at hi
  | succ n ih =>
    intro i hi
    rw [List.replicate_succ, List.flatten_cons]
    by_cases h : i < z.length
    · rw [List.getElem?_append_left h, List.getElem?_eq_getElem h]
      congr 1
      congr 1
      exact (Nat.mod_eq_of_lt h).symm
    · have hb : i - z.length < n * z.length := by rw [Nat.succ_mul] at hi; omega
      have hm : (i - z.length) % z.length = i % z.length := (Nat.mod_eq_sub_mod (by omega)).symm
      rw [List.getElem?_append_right (by omega), ih _ hb]
      simp only [hm]
theorem madeCells_eq (z : List Value) (n : Nat) (hz : 0 < z.length) : (madeCells z.toArray (n * z.length)).toList = (List.replicate n z).flatten := by
  apply List.ext_getElem?
  intro i
  have hl : ((List.replicate n z).flatten).length = n * z.length := by simp
  by_cases hi : i < n * z.length
  · have h1 : (madeCells z.toArray (n * z.length)).toList[i]? = some (z[i % z.length]'(Nat.mod_lt _ hz)) := by
      simp [madeCells, hi, Nat.mod_lt _ hz]
    rw [h1]
    exact (flatten_mod z hz n i hi).symm
  · have h2 : (madeCells z.toArray (n * z.length)).toList[i]? = none := List.getElem?_eq_none (by simp [madeCells]; omega)
    have h3 : ((List.replicate n z).flatten)[i]? = none := List.getElem?_eq_none (by rw [hl]; omega)
    rw [h2, h3]

/-- A row that has just been laid. -/
theorem RowRep.made {X : Nat → Prop} {e : TD} {g cap : Nat} {et : TypeId} {cs extra : List Value} {xs ys : List PV} (hX : X g) (hg : w.heap[g]? = some (.cells (cs ++ extra).toArray et (0, 0)))
    (h : RCa w X e cs ys) (hx : ∀ (i : Nat) (x : PV), xs[i]? = some x → ys[i]? = some x) (hl : xs.length ≤ cap) (hm : cap ≤ maxLen) (hc : cap * e.size ≤ (cs ++ extra).length) : RowRep w X e ⟨g, 0, none⟩ cap xs := by
  refine ⟨hX, rfl, hl, hm, _, et, hg, by simpa using hc, fun i => seg (i * e.size) e.size cs, fun i hi => ?_, fun i x hxi => (h.get (hx i x hxi)).2⟩
  intro j v hj
  have := seg_get hj
  simp only [List.getElem?_toArray, Nat.zero_add]
  rw [List.getElem?_append_left (List.getElem?_eq_some_iff.1 this).1]
  exact this
theorem RCa.take {X : Nat → Prop} {e : TD} : ∀ {cs : List Value} {ps : List PV}, RCa w X e cs ps → True := fun _ => trivial

/-- Immutable parts. -/
inductive PartsI (w : World) (X : Nat → Prop) (e : TD) : List (Nat × Value) → List (Nat × PV) → Prop
  | nil : PartsI w X e [] []
  | cons {i : Nat} {v : Value} {p : PV} {cs : List Value} {vs : List (Nat × Value)} {ps : List (Nat × PV)} (h : RC w X e cs p) (hv : v.cells = cs.toArray) (hs : PartsI w X e vs ps) : PartsI w X e ((i, v) :: vs) ((i, p) :: ps)
theorem PartsI.keeps {X X' : Nat → Prop} {e : TD} (hk : Keeps w w' X X') : ∀ {vs : List (Nat × Value)} {l : List (Nat × PV)}, PartsI w X e vs l → PartsI w' X' e vs l
  | _, _, .nil => .nil
  | _, _, .cons h hv hs => .cons (h.keeps hk) hv (hs.keeps hk)

theorem imm_live {p q : PV} {rs : List RId} (h : st.imm p = some (q, rs)) : p.live = true := by
  cases p <;> first | rfl | simp [St.imm] at h
theorem RV.imm (h : Rel F st a w E) {st0 : St} {rs0 : List RId} (he : st = st0.freeze rs0) {td : TD} {v : Value} {p q : PV} {rs : List RId} (hv : RV w E td v p) (hn : ∀ ts, td ≠ .tup ts) (hi : st0.imm p = some (q, rs)) (hf : AllFrozen st rs) :
    ∃ cs, RC w E.X td cs q ∧ v = td.valOf cs ∧ v.cells = cs.toArray := by
  obtain ⟨cs, h1, h2, h3⟩ := hv.rt (imm_live hi) hn
  exact ⟨cs, RT.imm' h he h1 hi hf, h2, h3⟩
theorem Parts.imm (h : Rel F st a w E) {st0 : St} {rs0 : List RId} (he : st = st0.freeze rs0) {ty : Nat → Option TD} {e : TD} (hty : ∀ i td, ty i = some td → td = e) :
    ∀ {vs : List (Nat × Value)} {l : List (Nat × PV)} {us : List PV} {rs : List RId}, Parts w E st0 ty vs l → st0.imms (fst2 l) = some (us, rs) → AllFrozen st rs → PartsI w E.X e vs (zip2 l us)
  | _, _, us, rs, .nil, hi, hf => by
    simp only [fst2, St.imms, Option.some.injEq, Prod.mk.injEq] at hi
    obtain ⟨rfl, rfl⟩ := hi
    exact .nil
  | _, _, us, rs, .cons ht hn hv ho hs, hi, hf => by
    simp only [fst2, St.imms] at hi
    split at hi
    · rename_i y l hy
      split at hi
      · rename_i ys m hys
        simp only [Option.some.injEq, Prod.mk.injEq] at hi
        obtain ⟨rfl, rfl⟩ := hi
        obtain ⟨cs, k1, k2, k3⟩ := RV.imm h he hv hn hy (fun r hr => hf r (by simp [hr]))
        have e1 := hty _ _ ht
        subst e1
        exact .cons k1 k3 (Parts.imm h he hty hs hys (fun r hr => hf r (by simp [hr])))
      · cases hi
    · cases hi
theorem Parts.env {ty : Nat → Option TD} (hk : Keeps w w' E.X E'.X) (hrb : E'.rb = E.rb) (hbb : E'.bb = E.bb) : ∀ {vs : List (Nat × Value)} {l : List (Nat × PV)}, Parts w E st ty vs l → Parts w' E' st ty vs l
  | _, _, .nil => .nil
  | _, _, .cons ht hn hv ho hs => .cons ht hn (hv.keeps hk ⟨fun _ _ => by rw [hrb], fun _ _ => by rw [hbb]⟩) ho (hs.env hk hrb hbb)

theorem fill_arr {X : Nat → Prop} {e : TD} :
    ∀ {vs : List (Nat × Value)} {l : List (Nat × PV)} {cs : List Value} {ps r : List PV}, PartsI w X e vs l → RCa w X e cs ps → fill ps l = some r →
    ∃ cs', Instr.fill (fun i => some (i * e.size, e.size)) cs.toArray vs = some cs'.toArray ∧ RCa w X e cs' r ∧ cs'.length = cs.length
  | _, _, cs, ps, r, .nil, h, hf => by
    simp only [fill, Option.some.injEq] at hf
    subst hf
    exact ⟨cs, rfl, h, rfl⟩
  | _, _, cs, ps, r, .cons (i := i) (v := v) (p := p) (cs := ds) (vs := vs) (ps := l) hp hv hs, h, hf => by
    simp only [fill] at hf
    split at hf
    · split at hf
      · rename_i hi
        have hl := h.length
        have hdl := hp.length
        have hm : (i + 1) * e.size ≤ ps.length * e.size := Nat.mul_le_mul_right _ hi
        rw [Nat.succ_mul] at hm
        have h2 := h.set hi hp
        obtain ⟨cs', k1, k2, k3⟩ := fill_arr hs h2 hf
        refine ⟨cs', ?_, k2, ?_⟩
        · simp only [Instr.fill, hv, List.size_toArray]
          rw [if_neg (by simp; omega)]
          have hfold := foldl_set ds (i * e.size) 0 cs.toArray (by simp; omega)
          have he : (ds.toArray.zipIdx.foldl (fun (acc : Array Value) (x : Value × Nat) => acc.setIfInBounds (i * e.size + x.2) x.1) cs.toArray) = (splice (i * e.size) ds cs).toArray := by
            apply Array.ext'
            rw [← Array.foldl_toList]
            simpa using hfold
          rw [← k1]
          exact congrArg (fun z => Instr.fill (fun i => some (i * e.size, e.size)) z vs) he
        · rw [k3, splice_length (by omega)]
      · cases hf
    · cases hf

/-- A row that the operation has laid becomes a region. -/
theorem Rel.laid (h : Rel F st a w E) {d n cap : Nat} {e : TD} {et : TypeId} {cs extra : List Value} {xs ys : List PV} (hd : look d st.sl = none) (hN : d < F.N) (hΓ : F.Γ d = .slice e)
    (hr : RCa w E.X e cs ys) (hx : ∀ (i : Nat) (x : PV), xs[i]? = some x → ys[i]? = some x) (hl : xs.length ≤ cap) (hm : cap ≤ maxLen) (hc : cap * e.size ≤ (cs ++ extra).length)
    (hw : ∀ b, b < w.heap.size → w'.heap[b]? = w.heap[b]?) (hsz : w.heap.size ≤ w'.heap.size) (hnew : w'.heap[w.heap.size]? = some (.cells (cs ++ extra).toArray et (0, 0))) (hs : Since F.w0 w' F.P0) :
    ∃ E', Rel F { st with sl := put d (.ref [0, d]) st.sl, rg := ([0, d], .row ⟨false, false, xs⟩) :: st.rg } (a.put (some d) (.slice (some ⟨w.heap.size, 0, none⟩) xs.length cap)) w' E' := by
  have hk : Keeps w w' E.X (fun b => E.X b ∨ ∃ ad len cap', (Value.slice (some ⟨w.heap.size, 0, none⟩) xs.length cap : Value) = .slice (some ad) len cap' ∧ b = ad.block) := by
    refine ⟨hsz, fun b _ hb => hw b hb, fun b hb hx => ?_⟩
    rcases hx with hx | ⟨ad, len, cap', e1, e2⟩
    · exact hx
    · injection e1 with e1
      injection e1 with e1
      subst e1
      simp only at e2
      omega
  refine h.newReg (e := e) (g := ⟨false, false, xs⟩) hd hN hΓ rfl hk hw hs (.inr ⟨rfl, ⟨w.heap.size, 0, none⟩, cap, rfl, Nat.le_refl _, ?_⟩)
  exact RowRep.made (.inr ⟨_, _, _, rfl, rfl⟩) hnew (hr.keeps hk) hx hl hm hc
theorem newReg_some {d : Option Nat} {g : Reg} (h : st.newReg d g = some st') : ∃ n, d = some n ∧ look n st.sl = none ∧ st' = { st with sl := put n (.ref [0, n]) st.sl, rg := ([0, n], .row g) :: st.rg } := by
  unfold St.newReg at h
  split at h
  · split at h
    · rename_i hl
      simp only [Option.some.injEq] at h
      exact ⟨_, rfl, hl, h.symm⟩
    · cases h
  · cases h

theorem buildSlice_sound {e : TD} {t : TypeId} {len : Nat} {parts : Array (Nat × Operand)} {parts' : List (Nat × VA)} (h : Rel F st a w E) (ho : o.op = .buildSlice t len parts) (hc : chkTD P (.slice e) t = true) (h0 : 0 < e.size)
    (hlen : len * e.size ≤ 16777216) (hx : partsOk F.Γ (fun _ => some e) parts.toList parts' = true) (hd : dOk F.Γ F.N o.dst (.slice e) = true)
    (hst : step C st o.dst (.buildSlice e len parts') = some st') (hK : ∀ a' w' E', Rel F st' a' w' E' → K a' w') : o.wp P a w K Q := by
  obtain ⟨n, hn, hN, hΓ⟩ := dOk_spec hd
  simp only [step] at hst
  split at hst
  · rename_i l hl
    split at hst
    · rename_i vs rs hvs
      split at hst
      · rename_i r hr
        obtain ⟨n', hn', hlk, rfl⟩ := newReg_some hst
        rw [hn] at hn'
        injection hn' with hn'
        subst hn'
        obtain ⟨te, hu, hce⟩ := chkTD.slice hc
        have hp := h.parts hx hl
        obtain ⟨E1, h1, k1, k2, k3⟩ := h.freeze rs
        have hpi := Parts.imm h1 rfl (e := e) (fun i td hi => by injection hi with hi; exact hi.symm) (hp.env (Keeps.less' k1) k2 k3) hvs (frozen_freeze rs st)
        have hz := zeroa_imm (P := P) (zero_imm w E1.X hce) len
        obtain ⟨cs', m1, m2, m3⟩ := fill_arr hpi hz hr
        have hll := m2.length
        have hzl : e.zcells.length = e.size := (zero_imm w E1.X hce).length
        have hfl : ((List.replicate len e.zcells).flatten).length = len * e.size := by simp [hzl]
        have hrl : r.length = len := by
          have : r.length * e.size = len * e.size := by rw [← hll, m3, hfl]
          exact Nat.eq_of_mul_eq_mul_right h0 this
        have hlt : len ≤ len * e.size := Nat.le_mul_of_pos_right _ h0
        obtain ⟨E', hrel⟩ := h1.laid (w' := w.alloc (.cells cs'.toArray te)) (n := len) (cap := len) (et := te) (extra := []) hlk hN hΓ m2 (fun _ _ hx => hx) (by omega) (by unfold maxLen; omega) (by simp; omega)
          (fun b hb => alloc_get_lt hb) (alloc_size _ _) (by simpa using alloc_get_new) h1.since.alloc
        rw [hrl] at hrel
        refine upon_value (w' := w.alloc (.cells cs'.toArray te)) ?_ (hK _ _ E' (by rw [hn]; exact hrel))
        have hcells : (e.valOf e.zcells).cells = e.zcells.toArray := valOf_cells (zero_imm w E1.X hce).one hzl
        have hmade : ((Array.range (len * e.size)).map fun i => e.zcells.toArray[i % e.zcells.toArray.size]!) = ((List.replicate len e.zcells).flatten).toArray := by
          have := madeCells_eq e.zcells len (by omega)
          apply Array.ext'
          rw [hzl] at this
          simpa [madeCells] using this
        have hmp : (parts.map fun (i, x) => (i, a.eval x)).toList = parts.toList.map fun (i, x) => (i, a.eval x) := by simp
        have hbound : ¬ (len * e.size > 2 ^ 24) := by omega
        by_cases hl0 : len * e.size = 0
        · have hfe : ((List.replicate len e.zcells).flatten) = [] := List.eq_nil_of_length_eq_zero (by rw [hfl]; exact hl0)
          rw [hfe] at m1
          have hr0 : ((Array.range (len * e.size)).map fun i => (#[] : Array Value)[i % (#[] : Array Value).size]!) = ([] : List Value).toArray := by rw [hl0]; simp
          simp only [execOp, ho, Instr.buildSlice, Sem.run_bind, run_underlying hu, Result.andThen_ok, sizeOf_run hce, if_neg hbound, if_pos hl0, Sem.run_pure, hmp, newRow, run_newObj]
          simp only [hr0, m1, Sem.run_bind, newRow, run_newObj, Result.andThen_ok, Sem.run_pure]
          rfl
        · simp only [execOp, ho, Instr.buildSlice, Sem.run_bind, run_underlying hu, Result.andThen_ok, sizeOf_run hce, if_neg hbound, if_neg hl0, zeroValue_run hce, hcells, Sem.run_pure, hmp, newRow, run_newObj]
          simp only [hmade, m1, Sem.run_bind, newRow, run_newObj, Result.andThen_ok, Sem.run_pure]
          rfl
      · cases hst
    · cases hst
  · cases hst
end Go.Vm
end
section
set_option linter.unusedSimpArgs false
set_option linter.unusedVariables false
namespace Go.Vm
variable {P : Program} {F : Fr} {w w' : World} {st st' : St} {a a' : Act} {E E' : Env} {K : Act → World → Prop} {Q : Exit → Act → World → Prop} {o : Oper} {C : Nat → List PV → Option (PV × List PV)}

theorem build_arr_sound {n : Nat} {e : TD} {t : TypeId} {parts : Array (Nat × Operand)} {parts' : List (Nat × VA)} (h : Rel F st a w E) (ho : o.op = .build t parts) (hc : chkTD P (.arr n e) t = true)
    (hx : partsOk F.Γ (fun _ => some e) parts.toList parts' = true) (hd : dOk F.Γ F.N o.dst (.arr n e) = true)
    (hst : step C st o.dst (.build (.arr n e) parts') = some st') (hK : ∀ a' w' E', Rel F st' a' w' E' → K a' w') : o.wp P a w K Q := by
  simp only [step] at hst
  split at hst
  · rename_i l hl
    split at hst
    · rename_i vs rs hvs
      split at hst
      · rename_i r hr
        obtain ⟨te, hu, hce⟩ := chkTD.arr hc
        have hp := h.parts hx hl
        obtain ⟨E1, h1, k1, k2, k3⟩ := h.freeze rs
        have hpi := Parts.imm h1 rfl (e := e) (fun i td hi => by injection hi with hi; exact hi.symm) (hp.env (Keeps.less' k1) k2 k3) hvs (frozen_freeze rs st)
        have hz := zeroa_imm (P := P) (zero_imm w E1.X hce) n
        obtain ⟨cs', m1, m2, m3⟩ := fill_arr hpi hz hr
        have hrl : r.length = n := by
          have : ∀ (l : List (Nat × PV)) (ps r : List PV), fill ps l = some r → r.length = ps.length := by
            intro l
            induction l with
            | nil => intro ps r h; simp only [fill, Option.some.injEq] at h; rw [h]
            | cons x l ih =>
              intro ps r h
              obtain ⟨i, v⟩ := x
              simp only [fill] at h
              split at h
              · split at h
                · rw [ih _ _ h, List.length_set]
                · cases h
              · cases h
          rw [this _ _ _ hr, List.length_replicate]
        refine put_sound (v := .agg cs'.toArray) h1 hd hst ?_ (.cells (cs := cs') (.imm (.arr hrl m2)) rfl) (RC.ok (.arr hrl m2)) hK
        have hzc : ((TD.arr n e).valOf (TD.arr n e).zcells).cells = ((List.replicate n e.zcells).flatten).toArray := rfl
        have hmp : (parts.map fun (i, x) => (i, a.eval x)).toList = parts.toList.map fun (i, x) => (i, a.eval x) := by simp
        simp only [execOp, ho, Instr.build, Sem.run_bind, zeroValue_run hc, Result.andThen_ok, run_underlying hu, sizeOf_run hce, hzc, hmp, m1, Sem.run_pure]
      · cases hst
    · cases hst
  · cases hst

theorem chkTD.bytes {td : TD} {t : TypeId} (h : chkTD P td t = true) : ∃ i z, P.info? t = some i ∧ i.size = td.size ∧ i.zero = some z ∧ z = td.valOf td.zcells := by
  obtain ⟨i, h1, h2, h3⟩ := chkTD.info h
  exact ⟨i, _, h1, h2, h3, rfl⟩

theorem makeSlice_sound {e : TD} {t te : TypeId} {i : TypeInfo} {x y : Operand} {x' y' : VA} {kl kc : IntKind} (h : Rel F st a w E) (ho : o.op = .makeSlice t x y) (hc : chkTD P (.slice e) t = true) (h0 : 0 < e.size)
    (hte : P.underlying t = some (.slice te)) (hi : P.info? te = some i)
    (hx : argOk F.Γ x x' (.int kl) = true) (hy : argOk F.Γ y y' (.int kc) = true) (hd : dOk F.Γ F.N o.dst (.slice e) = true)
    (hst : step C st o.dst (.makeSlice e i.bytes x' y') = some st') (hK : ∀ a' w' E', Rel F st' a' w' E' → K a' w') : o.wp P a w K Q := by
  obtain ⟨n, hn, hN, hΓ⟩ := dOk_spec hd
  simp only [step] at hst
  split at hst
  · rename_i j l j' c hl hcc
    split at hst
    · rename_i hb
      obtain ⟨n', hn', hlk, rfl⟩ := newReg_some hst
      rw [hn] at hn'
      injection hn' with hn'
      subst hn'
      obtain ⟨te', hu, hce⟩ := chkTD.slice hc
      rw [hte] at hu
      injection hu with hu
      injection hu with hu
      subst hu
      obtain ⟨i', z, hi', hsz, hz, hzv⟩ := chkTD.bytes hce
      rw [hi] at hi'
      injection hi' with hi'
      subst hi'
      obtain ⟨hv1, _⟩ := h.arg hx hl
      obtain ⟨hv2, _⟩ := h.arg hy hcc
      obtain ⟨e1, _⟩ := hv1.int
      obtain ⟨e2, _⟩ := hv2.int
      have hmb : maxBytes = 140737488355328 := rfl
      rw [hmb] at hb
      obtain ⟨b1, b2, b3, b4⟩ := hb
      have hrun := run_make (P := P) w t te i z hte hi hz j j' l c b1 b2 (by omega) b4
      have hzl : e.zcells.length = e.size := (zero_imm w E.X hce).length
      have hcells : z.cells = e.zcells.toArray := by rw [hzv]; exact valOf_cells (zero_imm w E.X hce).one hzl
      have hmade : madeCells z.cells (c.toNat * i.size) = ((List.replicate c.toNat e.zcells).flatten).toArray := by
        rw [hcells, hsz]
        have := madeCells_eq e.zcells c.toNat (by omega)
        rw [hzl] at this
        exact Array.ext' this
      rw [hmade] at hrun
      have hz2 := zeroa_imm (P := P) (zero_imm w E.X hce) c.toNat
      have hfl : ((List.replicate c.toNat e.zcells).flatten).length = c.toNat * e.size := by simp [hzl]
      have hlc : l.toNat ≤ c.toNat := by omega
      obtain ⟨E', hrel⟩ := h.laid (xs := List.replicate l.toNat e.izero) (w' := w.alloc (.cells ((List.replicate c.toNat e.zcells).flatten).toArray te)) (n := c.toNat) (cap := c.toNat) (et := te) (extra := []) hlk hN hΓ hz2
        (fun k x hk => by
          rw [List.getElem?_replicate] at hk ⊢
          split at hk
          · rw [if_pos (by omega)]; exact hk
          · cases hk) (by simpa using hlc) (by simp only [maxLen]; omega) (by simp [hzl])
        (fun b hb => alloc_get_lt hb) (alloc_size _ _) (by simpa using alloc_get_new) h.since.alloc
      refine upon_value (w' := w.alloc (.cells ((List.replicate c.toNat e.zcells).flatten).toArray te)) ?_ (hK _ _ E' (by rw [hn]; simpa using hrel))
      simp only [execOp, ho, e1, e2, Sem.run_bind, hrun, Result.andThen_ok, Sem.run_pure, List.length_replicate]
    · cases hst
  · cases hst

theorem Rel.grow (h : Rel F st a w E) (hsz : w.heap.size ≤ w'.heap.size) (hw : ∀ b, b < w.heap.size → w'.heap[b]? = w.heap[b]?) (hs : Since F.w0 w' F.P0) : Rel F st a w' E :=
  h.extend ⟨hsz, fun b _ hb => hw b hb, fun _ _ hx => hx⟩ (fun x b hH => ⟨hw b (h.held_lt hH), h.held_own hH⟩) (fun _ _ => rfl) (fun _ _ _ => rfl) hs h.outer

theorem convBytes_sound {x : Operand} {y : VA} {s t : TypeId} (h : Rel F st a w E) (ho : o.op = .convert s t x) (hs : chkTD P .str s = true) (ht : chkTD P (.slice (.int .u8)) t = true)
    (hx : argOk F.Γ x y .str = true) (hd : dOk F.Γ F.N o.dst (.slice (.int .u8)) = true)
    (hst : step C st o.dst (.convBytes y) = some st') (hK : ∀ a' w' E', Rel F st' a' w' E' → K a' w') : o.wp P a w K Q := by
  simp only [step] at hst
  split at hst
  · rename_i l hl
    obtain ⟨hv, _⟩ := h.arg hx hl
    obtain ⟨e1, _⟩ := hv.str
    obtain ⟨te, hut, hte⟩ := chkTD.slice ht
    have hrun := run_bytes_of_string (P := P) w s t te ⟨l.toArray⟩ (chkTD.str hs) hut (chkTD.int hte)
    generalize hw' : (w.drew.alloc (.cells (bytesRow ⟨l.toArray⟩ (grownCap w (⟨l.toArray⟩ : ByteArray).size 0 te)) te ((bytesRow ⟨l.toArray⟩ (grownCap w (⟨l.toArray⟩ : ByteArray).size 0 te)).size, (bytesRow ⟨l.toArray⟩ (grownCap w (⟨l.toArray⟩ : ByteArray).size 0 te)).size + 1))) = w' at hrun
    have hnew : w'.heap[w.heap.size]? = some (.cells (bytesRow ⟨l.toArray⟩ (grownCap w (⟨l.toArray⟩ : ByteArray).size 0 te)) te ((bytesRow ⟨l.toArray⟩ (grownCap w (⟨l.toArray⟩ : ByteArray).size 0 te)).size, (bytesRow ⟨l.toArray⟩ (grownCap w (⟨l.toArray⟩ : ByteArray).size 0 te)).size + 1)) := by
      rw [← hw']
      exact alloc_get_new (w := w.drew)
    have hold : ∀ b, b < w.heap.size → w'.heap[b]? = w.heap[b]? := fun b hb => by rw [← hw']; exact alloc_get_lt (w := w.drew) hb
    have hsz : w.heap.size < w'.heap.size := by rw [← hw']; show w.heap.size < (w.heap.push _).size; simp
    have hsi : Since F.w0 w' F.P0 := by
      have h0 := h.since
      rw [← hw']
      exact Since.alloc (w := w.drew) ⟨h0.os, h0.tape, h0.output, h0.size, h0.block⟩
    -- the new block is nobody's own
    have hfr := h.grow (Nat.le_of_lt hsz) hold hsi
    let X' : Nat → Prop := fun b => E.X b ∧ b < w.heap.size
    have hk : Keeps w' w' E.X X' := Keeps.less' fun b hb => hb.1
    have h2 : Rel F st a w' { E with X := X' } := hfr.extend hk (fun x b hH => by
        have hH' : Holds st E x b := hH
        exact ⟨rfl, h.held_own hH', h.held_lt hH'⟩) (fun _ _ => rfl) (fun _ _ _ => rfl) hsi (fun b k1 k2 k3 => ⟨h.outer b k1 k2 k3, Nat.lt_of_lt_of_le k2 h.since.size⟩)
    have hls : (⟨l.toArray⟩ : ByteArray).size = l.length := rfl
    have hcap : l.length ≤ grownCap w (⟨l.toArray⟩ : ByteArray).size 0 te := by
      have := grownCap_ge w (⟨l.toArray⟩ : ByteArray).size 0 te
      rw [hls] at this ⊢
      exact this
    have hcell : ∀ j, (hj : j < l.length) → w'.cell? ((⟨w.heap.size, 0, none⟩ : Addr).add j) = some (.int .u8 ((l[j]).toNat : Int)) := by
      intro j hj
      rw [cell_at rfl hnew]
      simp only [bytesRow, Nat.zero_add]
      rw [Array.getElem?_append_left (by simpa using hj)]
      simp [hj]
    have hrc : RC w' X' (.slice (.int .u8)) [.slice (some ⟨w.heap.size, 0, none⟩) l.length (grownCap w (⟨l.toArray⟩ : ByteArray).size 0 te)] (.sl false (pvBytes l)) := by
      refine .sl (fun _ => ⟨fun hx => ?_, hsz⟩) (by simp [pvBytes]) hcap (fun i => match l[i]? with | some c => [.int .u8 (c.toNat : Int)] | none => []) (fun i hi j v hj => ?_) (fun i x hx => ?_)
      · have := hx.2
        simp only at this
        omega
      · have hi' : i < l.length := by simpa [pvBytes] using hi
        simp only [List.getElem?_eq_getElem hi'] at hj
        cases j with
        | zero =>
          simp only [List.getElem?_cons_zero, Option.some.injEq] at hj
          rw [← hj, add_add]
          simpa [TD.size] using hcell i hi'
        | succ j => simp at hj
      · simp only [pvBytes, List.getElem?_map] at hx
        cases hlx : l[i]? with
        | none => rw [hlx] at hx; simp at hx
        | some c =>
          rw [hlx] at hx
          simp only [Option.map_some, Option.some.injEq] at hx
          subst hx
          simp only [hlx]
          exact .int _ _
    obtain ⟨n, hn, hN, hΓ⟩ := dOk_spec hd
    rw [hn] at hst
    simp only [St.putS, Option.some.injEq] at hst
    subst hst
    refine upon_value (w' := w') (v := .slice (some ⟨w.heap.size, 0, none⟩) l.length (grownCap w (⟨l.toArray⟩ : ByteArray).size 0 te)) ?_ ?_
    · simp only [execOp, ho, e1, Sem.run_bind, hrun, Result.andThen_ok, Sem.run_pure]
      rfl
    · rw [hn]
      exact hK _ _ _ (h2.putS hN (by rw [hΓ]; exact .cells (.imm hrc) rfl) (RC.ok hrc))
  · cases hst
end Go.Vm
end
section
set_option linter.unusedSimpArgs false
set_option linter.unusedVariables false
namespace Go.Vm
variable {P : Program} {F : Fr} {w w' : World} {st st' : St} {a a' : Act} {E E' : Env} {K : Act → World → Prop} {Q : Exit → Act → World → Prop} {o : Oper} {C : Nat → List PV → Option (PV × List PV)}

/-- What is appended: some cells, the same ones after a draw. -/
structure News (P : Program) (w : World) (size : Nat) (x : Value) (m : Nat) (news : List Value) : Prop where
  len : ∀ w1, (Builtin.lenOf x).run P w1 = .ok m w1
  now : (Builtin.firstCells size m x).run P w = .ok news.toArray w
  drew : (Builtin.firstCells size m x).run P w.drew = .ok news.toArray w.drew

def isRow (d : TypeDesc) : Prop := (∃ e, d = .slice e) ∨ d = .string

theorem run_append_fits {t u ty te : TypeId} {d : TypeDesc} {i : TypeInfo} (ht : P.underlying t = some (.slice te)) (hu : P.underlying u = some d) (hd : isRow d) (hi : P.info? te = some i)
    {ad : Addr} {n cap m : Nat} {x : Value} {news : List Value} (hx : News P w i.size x m news) (hroom : n + m ≤ cap) :
    (Builtin.append_ #[t, u] ty #[.slice (some ad) n cap, x]).run P w = ((storeCells (ad.add (n * i.size)) news).run P w).andThen fun _ w' => .ok (.slice (some ad) (n + m) cap) w' := by
  have h1 := hx.len w
  have h2 := hx.now
  rcases hd with ⟨e', rfl⟩ | rfl <;> simp [Builtin.append_, run_underlying ht, run_underlying hu, sizeOf, typeInfo, hi, h1, hroom, h2]
theorem run_append_fits_nil {t u ty te : TypeId} {d : TypeDesc} {i : TypeInfo} (ht : P.underlying t = some (.slice te)) (hu : P.underlying u = some d) (hd : isRow d) (hi : P.info? te = some i)
    {x : Value} {news : List Value} (hx : News P w i.size x 0 news) :
    (Builtin.append_ #[t, u] ty #[.slice none 0 0, x]).run P w = .ok (.slice none 0 0) w := by
  have h1 := hx.len w
  have h2 := hx.now
  rcases hd with ⟨e', rfl⟩ | rfl <;> simp [Builtin.append_, run_underlying ht, run_underlying hu, sizeOf, typeInfo, hi, h1, h2]
theorem run_append_grows {t u ty te : TypeId} {d : TypeDesc} {i : TypeInfo} {z : Value} (ht : P.underlying t = some (.slice te)) (hu : P.underlying u = some d) (hd : isRow d) (hi : P.info? te = some i) (hzz : i.zero = some z)
    {ad : Option Addr} {n cap m : Nat} {x : Value} {olds news : List Value} (hx : News P w i.size x m news) (ho : (Builtin.firstCells i.size n (.slice ad n cap)).run P w.drew = .ok olds.toArray w.drew)
    (hroom : cap < n + m) (h63 : ((n + m : Nat) : Int) ≤ 9223372036854775807) (hfit : Builtin.nextslicecap (n + m) cap * i.bytes ≤ 281474976710656) :
    (Builtin.append_ #[t, u] ty #[.slice ad n cap, x]).run P w =
      .ok (.slice (some ⟨w.heap.size, 0, none⟩) (n + m) (grownCap w (n + m) cap te))
        (w.drew.alloc (.cells ((olds ++ news) ++ (Builtin.zeroCells z.cells (grownCap w (n + m) cap te - (n + m))).toList).toArray te)) := by
  have h1 := hx.len w
  have h2 := hx.drew
  have hn : ¬ (n + m ≤ cap) := by omega
  have h63' : ¬ (9223372036854775807 < ((n : Int) + (m : Int))) := by omega
  have h48' : ¬ (281474976710656 < Builtin.nextslicecap (n + m) cap * i.bytes) := by omega
  rcases hd with ⟨e', rfl⟩ | rfl
  all_goals
    simp [Builtin.append_, run_underlying ht, run_underlying hu, sizeOf, typeInfo, zeroValue, hi, hzz, h1, hn, h63', h48', Question.forced, ho, h2, newRow, grownCap]
    congr 2
    apply Array.ext'
    simp [List.append_assoc]

/-! ### The cells of a slice, in one list -/
theorem rows_cells {X : Nat → Prop} {e : TD} : ∀ {xs : List PV} {ad : Addr}, (∀ (i : Nat) (x : PV), xs[i]? = some x → ∃ cs, CellsAt w (ad.add (i * e.size)) cs ∧ RC w X e cs x) → ∃ cs, RCa w X e cs xs ∧ CellsAt w ad cs
  | [], _, _ => ⟨[], .nil, fun j v hj => by simp at hj⟩
  | x :: xs, ad, h => by
    obtain ⟨c0, h1, h2⟩ := h 0 x rfl
    obtain ⟨cs, h3, h4⟩ := rows_cells (xs := xs) (ad := ad.add e.size) (fun i y hy => by
      obtain ⟨cs, k1, k2⟩ := h (i + 1) y (by simpa using hy)
      refine ⟨cs, ?_, k2⟩
      rw [add_add, Nat.add_comm, ← Nat.succ_mul]
      exact k1)
    refine ⟨c0 ++ cs, .cons h2 h3, fun j v hj => ?_⟩
    have hl := h2.length
    rw [List.getElem?_append] at hj
    split at hj
    · have := h1 j v hj
      rw [Nat.zero_mul, add_add, Nat.zero_add] at this
      exact this
    · have := h4 _ v hj
      rw [add_add] at this
      rw [show j = e.size + (j - c0.length) by omega]
      exact this
theorem SliceAt.cells {X : Nat → Prop} {e : TD} {v : Value} {n : Bool} {xs : List PV} (h : SliceAt w X e v n xs) :
    (n = true ∧ v = .slice none 0 0 ∧ xs = []) ∨ (n = false ∧ ∃ ad cap cs, v = .slice (some ad) xs.length cap ∧ xs.length ≤ cap ∧ RCa w X e cs xs ∧ CellsAt w ad cs) := by
  rcases h with h | ⟨h1, ad, cap, h2, h3, h4⟩
  · exact .inl h
  · obtain ⟨cs, k1, k2⟩ := rows_cells h4
    exact .inr ⟨h1, ad, cap, cs, h2, h3, k1, k2⟩

theorem News.slice {X : Nat → Prop} {e : TD} {v : Value} {n : Bool} {ys : List PV} (h : SliceAt w X e v n ys) : ∃ news, News P w e.size v ys.length news ∧ RCa w X e news ys := by
  rcases h.cells with ⟨_, rfl, rfl⟩ | ⟨_, ad, cap, cs, rfl, _, h1, h2⟩
  · exact ⟨[], ⟨fun w1 => by simp [Builtin.lenOf], by simp [Builtin.firstCells], by simp [Builtin.firstCells]⟩, .nil⟩
  · exact ⟨cs, ⟨fun w1 => by simp [Builtin.lenOf], run_firstCells_some w _ _ _ _ _ cs h1.length h2, run_firstCells_some w.drew _ _ _ _ _ cs h1.length h2⟩, h1⟩
theorem bytes_rca {X : Nat → Prop} : ∀ l : List UInt8, RCa w X (.int .u8) (l.map fun c => Value.int .u8 (c.toNat : Int)) (pvBytes l)
  | [] => .nil
  | c :: l => .cons (cs := [_]) (.int _ _) (bytes_rca l)
theorem News.str {X : Nat → Prop} (l : List UInt8) : ∃ news, News P w (TD.int .u8).size (.string ⟨l.toArray⟩) (pvBytes l).length news ∧ RCa w X (.int .u8) news (pvBytes l) := by
  have hx : (⟨l.toArray⟩ : ByteArray).extract 0 l.length = ⟨l.toArray⟩ := by
    rw [str_extract]; simp
  refine ⟨l.map fun c => Value.int .u8 (c.toNat : Int), ⟨fun w1 => ?_, ?_, ?_⟩, bytes_rca l⟩
  · simp [Builtin.lenOf, str_size, pvBytes]
  · simp [Builtin.firstCells, pvBytes, hx]
  · simp [Builtin.firstCells, pvBytes, hx]

/-! ### A region's base is let go -/
theorem Rel.drop (h : Rel F st a w E) (r : RId) : Rel F { st with rg := dropR r st.rg } a w E where
  defers := h.defers
  size := h.size
  slots := h.slots
  boxes := h.boxes
  regs q g hg := by
    simp only [lookR_drop] at hg
    split at hg
    · cases hg
    · exact h.regs q g hg
  dist x y b hx hy := by
    have back : ∀ x b, Holds { st with rg := dropR r st.rg } E x b → Holds st E x b := by
      intro x b hH
      cases hH with
      | row h1 h2 h3 => simp only [lookR_drop] at h1; split at h1; cases h1; exact .row h1 h2 h3
      | mp h1 h2 => simp only [lookR_drop] at h1; split at h1; cases h1; exact .mp h1 h2
      | box h1 h2 => exact .box h1 h2
    exact h.dist x y b (back _ _ hx) (back _ _ hy)
  named := ⟨h.named.sl, h.named.bx, fun q g hg => by
    simp only [lookR_drop] at hg
    split at hg
    · cases hg
    · exact h.named.rg q g hg⟩
  since := h.since
  fresh x b hx := by
    have back : ∀ x b, Holds { st with rg := dropR r st.rg } E x b → Holds st E x b := by
      intro x b hH
      cases hH with
      | row h1 h2 h3 => simp only [lookR_drop] at h1; split at h1; cases h1; exact .row h1 h2 h3
      | mp h1 h2 => simp only [lookR_drop] at h1; split at h1; cases h1; exact .mp h1 h2
      | box h1 h2 => exact .box h1 h2
    exact h.fresh x b (back _ _ hx)
  outer := h.outer
  pbox := h.pbox
theorem Rel.drop_free (h : Rel F st a w E) {r : RId} {b : Nat} (hb : Holds st E (.inl r) b) : ∀ x, ¬ Holds { st with rg := dropR r st.rg } E x b := by
  intro x hx
  have back : Holds st E x b ∧ x ≠ .inl r := by
    cases hx with
    | row h1 h2 h3 =>
      simp only [lookR_drop] at h1
      split at h1
      · cases h1
      · rename_i hne
        exact ⟨.row h1 h2 h3, fun e => hne (by injection e with e; exact e.symm)⟩
    | mp h1 h2 =>
      simp only [lookR_drop] at h1
      split at h1
      · cases h1
      · rename_i hne
        exact ⟨.mp h1 h2, fun e => hne (by injection e with e; exact e.symm)⟩
    | box h1 h2 => exact ⟨.box h1 h2, by simp⟩
  exact back.2 (h.dist _ _ _ back.1 hb)

/-- A block that nobody holds any more is written, and becomes the row of a new region. -/
theorem Rel.reRow (h : Rel F st a w E) {d b cap : Nat} {e : TD} {ad : Addr} {xs : List PV} (hd : look d st.sl = none) (hN : d < F.N) (hΓ : F.Γ d = .slice e)
    (hX : E.X b) (hno : ∀ x, ¬ Holds st E x b) (hfr : F.P0 b ∨ F.w0.heap.size ≤ b) (hsz : w'.heap.size = w.heap.size) (hw : ∀ c, c ≠ b → w'.heap[c]? = w.heap[c]?) (hs : Since F.w0 w' F.P0)
    (hb : ad.block = b) (hrow : RowRep w' E.X e ad cap xs) :
    ∃ E', Rel F { st with sl := put d (.ref [0, d]) st.sl, rg := ([0, d], .row ⟨false, false, xs⟩) :: st.rg } (a.put (some d) (.slice (some ad) xs.length cap)) w' E' := by
  let E' : Env := { X := E.X, rb := fun q => if q = [0, d] then some (.row e (.slice (some ad) xs.length cap)) else E.rb q, bb := E.bb }
  have hnok := h.notOk hd []
  have hk : Keeps w w' E.X E'.X := ⟨by omega, fun c hc _ => hw c (fun e => hc (by rw [e]; exact hX)), fun _ _ hx => hx⟩
  have h1 : Rel F st a w' E' := h.extend hk (fun x c hH => ⟨hw c (fun e => hno x (by rw [← e]; exact hH)), h.held_own hH⟩)
    (fun r hr => by
      show (if r = [0, d] then _ else _) = _
      rw [if_neg (fun he => hnok (by rw [← he]; exact hr))]) (fun _ _ _ => rfl) hs h.outer
  have hrb : E'.rb [0, d] = some (.row e (.slice (some ad) xs.length cap)) := by show (if _ then _ else _) = _; rw [if_pos rfl]
  have h2 := h1.putS (d := d) (v := .slice (some ad) xs.length cap) (p := .ref [0, d]) hN (by rw [hΓ]; exact .cells (.ref hrb rfl) rfl)
    ⟨fun r hr => by
      simp only [ids, List.mem_singleton] at hr
      exact .inl ⟨d, [], .ref [0, d], hr, by simp [look_put]⟩, fun b hb => by simp [bxs] at hb⟩
  have h3 := h2.addReg (r := [0, d]) (g := .row ⟨false, false, xs⟩) (h1.noReg hd []) (.inl ⟨d, [], .ref [0, d], rfl, by simp [look_put]⟩)
    (.inr ⟨rfl, e, ad, cap, hrb, .inl ⟨rfl, hrow⟩⟩)
    (by
      intro c hH
      have hcb : c = b := by
        cases hH with
        | row k1 k2 k3 =>
          rw [hrb] at k3
          injection k3 with k3
          injection k3 with _ k3
          injection k3 with k3
          injection k3 with k3
          subst k3
          exact hb
        | mp k1 k2 => rw [hrb] at k2; cases k2
      subst hcb
      refine ⟨fun x hx => hno x ?_, hfr⟩
      cases hx with
      | row k1 k2 k3 => exact .row k1 k2 (by have := h.named.rg _ _ k1; have hne : ¬ _ = [0, d] := fun he => hnok (by rw [← he]; exact this); simpa only [E', if_neg hne] using k3)
      | mp k1 k2 => exact .mp k1 (by have := h.named.rg _ _ k1; have hne : ¬ _ = [0, d] := fun he => hnok (by rw [← he]; exact this); simpa only [E', if_neg hne] using k2)
      | box k1 k2 => exact .box k1 k2)
  exact ⟨E', h3⟩

theorem add_none {ad : Addr} (h : ad.spot = none) (k : Nat) : ad.add k = ⟨ad.block, ad.off + k, none⟩ := by
  obtain ⟨b, o, s⟩ := ad
  simp only at h
  subst h
  unfold Addr.add
  split
  · rename_i e; subst e; rfl
  · rfl

theorem RowRep.sub {X : Nat → Prop} {e : TD} {ad ad' : Addr} {cap lo hi c : Nat} {xs : List PV} (h : RowRep w X e ad cap xs) (h1 : lo ≤ hi) (h2 : hi ≤ xs.length) (h3 : hi - lo ≤ c) (h4 : lo + c ≤ cap)
    (h5 : 0 < c → ad' = ad.add (lo * e.size)) (h6 : ∃ k, k ≤ lo ∧ ad' = ad.add (k * e.size)) : RowRep w X e ad' c ((xs.drop lo).take (hi - lo)) := by
  obtain ⟨k1, k2, k3, k4, cur, et, k5, k6, cf, k7, k8⟩ := h
  obtain ⟨k, hk, e1⟩ := h6
  have hll : ((xs.drop lo).take (hi - lo)).length = hi - lo := by simp; omega
  have hb : ad'.block = ad.block := by rw [e1, add_block]
  have ho : ad'.off = ad.off + k * e.size := by rw [e1, add_none k2]
  have hm : (k + c) * e.size ≤ cap * e.size := Nat.mul_le_mul_right _ (by omega)
  rw [Nat.add_mul] at hm
  refine ⟨by rw [hb]; exact k1, by rw [e1, add_none k2], by omega, by omega, cur, et, by rw [hb]; exact k5, by omega, fun i => cf (lo + i), fun i hi => ?_, fun i x hx => ?_⟩
  · rw [hll] at hi
    have h9 := h5 (by omega)
    have ho2 : ad'.off = ad.off + lo * e.size := by rw [h9, add_none k2]
    rw [ho2, Nat.add_assoc, ← Nat.add_mul]
    exact k7 _ (by omega)
  · rw [List.getElem?_take] at hx
    split at hx
    · rw [List.getElem?_drop] at hx
      exact k8 _ _ hx
    · cases hx
end Go.Vm
end
section
set_option linter.unusedSimpArgs false
set_option linter.unusedVariables false
namespace Go.Vm
variable {P : Program} {F : Fr} {w w' : World} {st st' : St} {a a' : Act} {E E' : Env} {K : Act → World → Prop} {Q : Exit → Act → World → Prop} {o : Oper} {C : Nat → List PV → Option (PV × List PV)}

theorem splice_row {cur : List Value} {o : Nat} {news : List Value} (h : o + news.length ≤ cur.length) :
    (∀ j, j < o → (cur.take o ++ news ++ cur.drop (o + news.length))[j]? = cur[j]?) ∧ (∀ j v, news[j]? = some v → (cur.take o ++ news ++ cur.drop (o + news.length))[o + j]? = some v) ∧
      (cur.take o ++ news ++ cur.drop (o + news.length)).length = cur.length ∧ (∀ j, o + news.length ≤ j → (cur.take o ++ news ++ cur.drop (o + news.length))[j]? = cur[j]?) := by
  have hl : (cur.take o).length = o := by simp; omega
  refine ⟨fun j hj => ?_, fun j v hj => ?_, by simp; omega, fun j hj => ?_⟩
  · rw [List.append_assoc, List.getElem?_append_left (by omega), List.getElem?_take, if_pos hj]
  · have := (List.getElem?_eq_some_iff.1 hj).1
    rw [List.append_assoc, List.getElem?_append_right (by omega), List.getElem?_append_left (by omega), hl, Nat.add_sub_cancel_left]
    exact hj
  · rw [List.getElem?_append_right (by simp; omega), List.getElem?_drop]
    congr 1
    simp
    omega

theorem RowRep.push {X : Nat → Prop} {e : TD} {ad : Addr} {c : Nat} {xs ys : List PV} {news : List Value} (h : RowRep w X e ad c xs) (hn : RCa w X e news ys) (hc : xs.length + ys.length ≤ c) :
    ∃ w', (storeCells (ad.add (xs.length * e.size)) news).run P w = .ok () w' ∧ RowRep w' X e ad c (xs ++ ys) ∧ w'.heap.size = w.heap.size ∧ (∀ b, b ≠ ad.block → w'.heap[b]? = w.heap[b]?) ∧
      (w'.os = w.os ∧ w'.tape = w.tape ∧ w'.output = w.output) := by
  obtain ⟨k1, k2, k3, k4, cur, et, k5, k6, cf, k7, k8⟩ := h
  have hnl := hn.length
  have hm : (xs.length + ys.length) * e.size ≤ c * e.size := Nat.mul_le_mul_right _ hc
  rw [Nat.add_mul] at hm
  have hfit : ad.off + xs.length * e.size + news.length ≤ cur.size := by omega
  have hst := run_storeCells_at P ad.block (ad.off + xs.length * e.size) et news 0 cur w k5 (by simpa using hfit) hn.one
  simp only [Nat.add_zero] at hst
  obtain ⟨s1, s2, s3, s4⟩ := splice_row (cur := cur.toList) (o := ad.off + xs.length * e.size) (news := news) (by simpa using hfit)
  refine ⟨_, by rw [add_none k2]; exact hst, ?_, by simp [World.setRow], fun b hb => setRow_other w _ b _ hb, rfl, rfl, rfl⟩
  have hk : Keeps w (w.setRow ad.block (cur.toList.take (ad.off + xs.length * e.size) ++ news ++ cur.toList.drop (ad.off + xs.length * e.size + news.length)).toArray) X X :=
    ⟨by simp [World.setRow], fun b hb _ => setRow_other w _ b _ (fun e => hb (by rw [e]; exact k1)), fun _ _ hx => hx⟩
  refine ⟨k1, k2, by simpa using hc, k4, _, et, setRow_heap w _ cur _ et _ k5, ?_, fun i => if i < xs.length then cf i else seg ((i - xs.length) * e.size) e.size news, fun i hi => ?_, fun i x hx => ?_⟩
  · simp only [List.size_toArray, s3, Array.length_toList]
    exact k6
  · intro j v hj
    simp only [List.getElem?_toArray]
    simp only at hj
    split at hj
    · rename_i hix
      obtain ⟨x, hx⟩ : ∃ x, xs[i]? = some x := ⟨_, List.getElem?_eq_getElem hix⟩
      have hl := (k8 i x hx).length
      have hjl := (List.getElem?_eq_some_iff.1 hj).1
      have hle : (i + 1) * e.size ≤ xs.length * e.size := Nat.mul_le_mul_right _ hix
      rw [Nat.succ_mul] at hle
      rw [s1 _ (by omega)]
      simpa using k7 i hix j v hj
    · rename_i hix
      have := seg_get hj
      have h2 := s2 _ v this
      have he : ad.off + i * e.size + j = ad.off + xs.length * e.size + ((i - xs.length) * e.size + j) := by
        have : i * e.size = xs.length * e.size + (i - xs.length) * e.size := by rw [← Nat.add_mul]; congr 1; omega
        omega
      rw [he]
      exact h2
  · by_cases hix : i < xs.length
    · rw [List.getElem?_append_left hix] at hx
      simp only [if_pos hix]
      exact (k8 i x hx).keeps hk
    · rw [List.getElem?_append_right (by omega)] at hx
      simp only [if_neg hix]
      exact (hn.get hx).2.keeps hk

theorem Since.write {P0 : Nat → Prop} {w0 : World} {b : Nat} (h : Since w0 w P0) (hb : P0 b ∨ w0.heap.size ≤ b) (hsz : w'.heap.size = w.heap.size) (hw : ∀ c, c ≠ b → w'.heap[c]? = w.heap[c]?)
    (ho : w'.os = w.os ∧ w'.tape = w.tape ∧ w'.output = w.output) : Since w0 w' P0 :=
  ⟨ho.1.trans h.os, ho.2.1.trans h.tape, ho.2.2.trans h.output, by rw [hsz]; exact h.size, fun c hP hc => (hw c (fun e => by subst e; rcases hb with hb | hb; exact hP hb; omega)).trans (h.block c hP hc)⟩

theorem RCa.append {X : Nat → Prop} {e : TD} : ∀ {cs ds : List Value} {xs ys : List PV}, RCa w X e cs xs → RCa w X e ds ys → RCa w X e (cs ++ ds) (xs ++ ys)
  | _, _, _, _, .nil, h => h
  | _, _, _, _, .cons h hs, h2 => by
    rw [List.append_assoc]
    exact .cons h (hs.append h2)

/-- A row has grown into a new block. -/
theorem Rel.grown (h : Rel F st a w E) {d n cap : Nat} {e : TD} {te : TypeId} {z : Array Value} {olds news : List Value} {xs ys : List PV} (hd : look d st.sl = none) (hN : d < F.N) (hΓ : F.Γ d = .slice e)
    (ho : RCa w E.X e olds xs) (hn : RCa w E.X e news ys) (h63 : xs.length + ys.length ≤ maxLen) (hz : z.size = e.size) :
    ∃ E', Rel F { st with sl := put d (.ref [0, d]) st.sl, rg := ([0, d], .row ⟨false, false, xs ++ ys⟩) :: st.rg }
      (a.put (some d) (.slice (some ⟨w.heap.size, 0, none⟩) (xs.length + ys.length) (grownCap w (xs.length + ys.length) cap te)))
      (w.drew.alloc (.cells ((olds ++ news) ++ (Builtin.zeroCells z (grownCap w (xs.length + ys.length) cap te - (xs.length + ys.length))).toList).toArray te)) E' := by
  have hge := grownCap_ge w (xs.length + ys.length) cap te
  have hle := grownCap_le_maxLen w (xs.length + ys.length) cap te h63
  have h1 := ho.append hn
  have hl := h1.length
  rw [List.length_append, List.length_append] at hl
  have h0 := h.since
  have := h.laid (d := d) (n := 0) (cap := grownCap w (xs.length + ys.length) cap te) (et := te) (extra := (Builtin.zeroCells z (grownCap w (xs.length + ys.length) cap te - (xs.length + ys.length))).toList)
    (w' := w.drew.alloc (.cells ((olds ++ news) ++ (Builtin.zeroCells z (grownCap w (xs.length + ys.length) cap te - (xs.length + ys.length))).toList).toArray te)) hd hN hΓ h1 (fun _ _ hx => hx)
    (by simpa using hge) hle (by
      simp only [List.length_append, hl, Array.length_toList, size_zeroCells, hz]
      rw [← Nat.add_mul]
      exact Nat.mul_le_mul_right _ (by omega))
    (fun b hb => alloc_get_lt (w := w.drew) hb) (alloc_size w.drew _) (alloc_get_new (w := w.drew)) (Since.alloc (w := w.drew) ⟨h0.os, h0.tape, h0.output, h0.size, h0.block⟩)
  simpa using this

section
variable {x y : Operand} {t u te : TypeId} {d : TypeDesc} {i : TypeInfo} {e : TD} {n m : Nat} {xs ys : List PV} {news : List Value}

theorem append_upon {v : Value} (ho : o.op = .call { callee := .builtin .append, args := #[x, y], argTypes := #[t, u] })
    (hr : (Builtin.append_ #[t, u] o.type #[a.eval x, a.eval y]).run P w = .ok v w') (hK : K (a.put o.dst v) w') : o.wp P a w K Q := by
  refine upon_value (w' := w') (v := v) (builtin_run ho fun cs => ?_) hK
  simp only [builtin, List.map_toArray, List.map_cons, List.map_nil, Sem.run_bind, hr, Result.andThen_ok, Sem.run_pure]

theorem append_nil_base (h : Rel F st a w E) (ho : o.op = .call { callee := .builtin .append, args := #[x, y], argTypes := #[t, u] }) (hc : chkTD P e te = true)
    (ht : P.underlying t = some (.slice te)) (hu : P.underlying u = some d) (hrow : isRow d) (hi : P.info? te = some i) (hby : 0 < i.bytes)
    (hx : a.eval x = .slice none 0 0) (hn : News P w e.size (a.eval y) ys.length news) (hys : RCa w E.X e news ys)
    (hdst : o.dst = some n) (hN : n < F.N) (hΓ : F.Γ n = .slice e) (hlk : look n st.sl = none) (hb : ys.length * i.bytes ≤ maxBytes)
    (hK : ∀ a' w' E', Rel F { st with sl := put n (.ref [0, n]) st.sl, rg := ([0, n], .row ⟨ys.isEmpty, false, ys⟩) :: st.rg } a' w' E' → K a' w') : o.wp P a w K Q := by
  obtain ⟨i', hi', hsz, hz⟩ := chkTD.info hc
  rw [hi] at hi'
  injection hi' with hi'
  subst hi'
  have hzl : e.zcells.length = e.size := (zero_imm w E.X hc).length
  have hcells : (e.valOf e.zcells).cells = e.zcells.toArray := valOf_cells (zero_imm w E.X hc).one hzl
  rw [← hsz] at hn
  have hmb : maxBytes = 140737488355328 := rfl
  rw [hmb] at hb
  have hle : ys.length ≤ ys.length * i.bytes := Nat.le_mul_of_pos_right _ hby
  cases ys with
  | nil =>
    have hrun := run_append_fits_nil (ty := o.type) ht hu hrow hi hn
    rw [← hx] at hrun
    refine append_upon ho hrun ?_
    rw [hx, hdst]
    obtain ⟨E', hrel⟩ := h.newReg (w' := w) (d := n) (e := e) (g := ⟨true, false, []⟩) (v := .slice none 0 0) hlk hN hΓ rfl
      ⟨Nat.le_refl _, fun _ _ _ => rfl, fun b hb hx => by rcases hx with hx | ⟨_, _, _, e1, _⟩; exact hx; cases e1⟩ (fun _ _ => rfl) h.since (.inl ⟨rfl, rfl, rfl⟩)
    exact hK _ _ E' hrel
  | cons y0 ys0 =>
    generalize hys' : y0 :: ys0 = ys at *
    have hpos : 0 < ys.length := by rw [← hys']; simp
    have hrun := run_append_grows (ty := o.type) (ad := none) (n := 0) (cap := 0) (olds := []) ht hu hrow hi hz hn (by simp [Builtin.firstCells]) (by omega) (by omega) (growslice_fits (by omega) (by rw [Nat.zero_add]; exact hb))
    rw [← hx] at hrun
    refine append_upon ho hrun ?_
    rw [hdst, hcells]
    obtain ⟨E', hrel⟩ := h.grown (xs := []) (olds := []) (n := 0) (cap := 0) (te := te) (z := e.zcells.toArray) hlk hN hΓ .nil hys (by simp only [maxLen, List.length_nil]; omega) (by simpa using hzl)
    have hemp : ys.isEmpty = false := by rw [← hys']; rfl
    rw [hemp] at hK
    exact hK _ _ E' (by simpa using hrel)

theorem append_row_base (h : Rel F st a w E) (ho : o.op = .call { callee := .builtin .append, args := #[x, y], argTypes := #[t, u] }) (hc : chkTD P e te = true)
    (ht : P.underlying t = some (.slice te)) (hu : P.underlying u = some d) (hrow : isRow d) (hi : P.info? te = some i) (hby : 0 < i.bytes)
    {ad : Addr} {cap : Nat} (hx : a.eval x = .slice (some ad) xs.length cap) (hrep : RowRep w E.X e ad cap xs) (hno : ∀ x, ¬ Holds st E x ad.block) (hfr : F.P0 ad.block ∨ F.w0.heap.size ≤ ad.block)
    (hn : News P w e.size (a.eval y) ys.length news) (hys : RCa w E.X e news ys)
    (hdst : o.dst = some n) (hN : n < F.N) (hΓ : F.Γ n = .slice e) (hlk : look n st.sl = none) (hb : (xs.length + ys.length) * i.bytes ≤ maxBytes)
    (hK : ∀ a' w' E', Rel F { st with sl := put n (.ref [0, n]) st.sl, rg := ([0, n], .row ⟨false, false, xs ++ ys⟩) :: st.rg } a' w' E' → K a' w') : o.wp P a w K Q := by
  obtain ⟨i', hi', hsz, hz⟩ := chkTD.info hc
  rw [hi] at hi'
  injection hi' with hi'
  subst hi'
  have hzl : e.zcells.length = e.size := (zero_imm w E.X hc).length
  have hcells : (e.valOf e.zcells).cells = e.zcells.toArray := valOf_cells (zero_imm w E.X hc).one hzl
  have hmb : maxBytes = 140737488355328 := rfl
  rw [hmb] at hb
  have hle : (xs.length + ys.length) ≤ (xs.length + ys.length) * i.bytes := Nat.le_mul_of_pos_right _ hby
  by_cases hroom : xs.length + ys.length ≤ cap
  · obtain ⟨w', h1, h2, h3, h4, h5⟩ := hrep.push (P := P) hys hroom
    have hrun := run_append_fits (ty := o.type) ht hu hrow hi (ad := ad) (n := xs.length) (cap := cap) (by rw [hsz]; exact hn) hroom
    rw [hsz, h1, ← hx] at hrun
    refine append_upon ho hrun ?_
    rw [hdst]
    obtain ⟨E', hrel⟩ := h.reRow (d := n) (e := e) hlk hN hΓ hrep.own hno hfr h3 h4 (h.since.write hfr h3 h4 h5) rfl h2
    exact hK _ _ E' (by simpa using hrel)
  · have hcellsR : ∃ olds, RCa w E.X e olds xs ∧ CellsAt w ad olds := by
      obtain ⟨k1, k2, k3, k4, cur, et, k5, k6, cf, k7, k8⟩ := hrep
      exact rows_cells fun i x hxi => ⟨cf i, CellsAt.of_in k2 k5 (k7 i (List.getElem?_eq_some_iff.1 hxi).1), k8 i x hxi⟩
    obtain ⟨olds, k1, k2⟩ := hcellsR
    have hold := run_firstCells_some (P := P) w.drew i.size xs.length ad xs.length cap olds (by rw [hsz]; exact k1.length) k2
    have hrun := run_append_grows (ty := o.type) (n := xs.length) (cap := cap) (olds := olds) ht hu hrow hi hz (by rw [hsz]; exact hn) hold (by omega) (by omega) (growslice_fits (by omega) (by omega))
    rw [← hx] at hrun
    refine append_upon ho hrun ?_
    rw [hdst, hcells]
    obtain ⟨E', hrel⟩ := h.grown (xs := xs) (olds := olds) (n := 0) (cap := cap) (te := te) (z := e.zcells.toArray) hlk hN hΓ k1 hys (by simp only [maxLen]; omega) (by simpa using hzl)
    exact hK _ _ E' (by simpa using hrel)
end
end Go.Vm
end
section
set_option linter.unusedSimpArgs false
set_option linter.unusedVariables false
namespace Go.Vm
variable {P : Program} {F : Fr} {w w' : World} {st st' : St} {a a' : Act} {E E' : Env} {K : Act → World → Prop} {Q : Exit → Act → World → Prop} {o : Oper} {C : Nat → List PV → Option (PV × List PV)}

theorem RegRep.row {r : RId} {g : Reg} {e : TD} {v : Value} (h : RegRep w E r (.row g)) (hf : g.frozen = false) (hr : E.rb r = some (.row e v)) :
    (g.isNil = true ∧ g.xs = [] ∧ v = .slice none 0 0) ∨ (g.isNil = false ∧ ∃ ad cap, v = .slice (some ad) g.xs.length cap ∧ RowRep w E.X e ad cap g.xs) := by
  rcases h with ⟨h1, h2, e', h3⟩ | ⟨h1, e', ad, cap, h3, h4⟩
  · rw [hr] at h3
    injection h3 with h3
    injection h3 with h3 h5
    exact .inl ⟨h1, h2, h5⟩
  · rw [hr] at h3
    injection h3 with h3
    injection h3 with h3 h5
    subst h3
    rcases h4 with ⟨_, h6⟩ | ⟨h7, _⟩
    · exact .inr ⟨h1, ad, cap, h5, h6⟩
    · rw [hf] at h7; cases h7

theorem append_sound {x y : Operand} {x' y' : VA} {t u te : TypeId} {d : TypeDesc} {i : TypeInfo} {e : TD} (h : Rel F st a w E)
    (ho : o.op = .call { callee := .builtin .append, args := #[x, y], argTypes := #[t, u] }) (hc : chkTD P (.slice e) t = true)
    (ht : P.underlying t = some (.slice te)) (hi : P.info? te = some i) (hby : 0 < i.bytes) (hx : argOk F.Γ x x' (.slice e) = true)
    (hy : (argOk F.Γ y y' (.slice e) = true ∧ chkTD P (.slice e) u = true) ∨ (argOk F.Γ y y' .str = true ∧ chkTD P .str u = true ∧ e = .int .u8)) (hd : dOk F.Γ F.N o.dst (.slice e) = true)
    (hst : step C st o.dst (.append i.bytes x' y') = some st') (hK : ∀ a' w' E', Rel F st' a' w' E' → K a' w') : o.wp P a w K Q := by
  obtain ⟨n, hn, hN, hΓ⟩ := dOk_spec hd
  obtain ⟨te', hu', hce⟩ := chkTD.slice hc
  rw [ht] at hu'
  injection hu' with hu'
  injection hu' with hu'
  subst hu'
  simp only [step] at hst
  split at hst
  · rename_i u0 v0 hu0 hv0
    split at hst
    · rename_i ys hys
      obtain ⟨hux, huok⟩ := h.arg hx hu0
      -- what is appended
      have hnews : ∃ d news, P.underlying u = some d ∧ isRow d ∧ News P w e.size (a.eval y) ys.length news ∧ RCa w E.X e news ys := by
        rcases hy with ⟨hy, hcu⟩ | ⟨hy, hcu, rfl⟩
        · obtain ⟨hv, _⟩ := h.arg hy hv0
          obtain ⟨tu, hu, _⟩ := chkTD.slice hcu
          have hcont : ∃ nn, st.content v0 = some (nn, ys) := by
            unfold St.news at hys
            split at hys
            · exact absurd hv.str.2 (by simp)
            · split at hys
              · rename_i nn zs hz
                injection hys with hys
                subst hys
                exact ⟨nn, hz⟩
              · cases hys
          obtain ⟨nn, hcont⟩ := hcont
          obtain ⟨news, k1, k2⟩ := News.slice (P := P) (h.content hv hcont)
          exact ⟨_, news, hu, .inl ⟨_, rfl⟩, k1, k2⟩
        · have hv := (h.arg hy hv0).1
          unfold St.news at hys
          split at hys
          · rename_i s
            injection hys with hys
            subst hys
            obtain ⟨news, k1, k2⟩ := News.str (P := P) (w := w) (X := E.X) s
            exact ⟨_, news, chkTD.str hcu, .inr rfl, by rw [hv.str.1]; exact k1, k2⟩
          · rename_i hne
            rcases hv.str_shape with ⟨s, rfl⟩ | rfl | rfl
            · exact absurd rfl (hne s)
            · simp [St.content] at hys
            · simp [St.content] at hys
      obtain ⟨d, news, hdu, hrow, hN1, hrc⟩ := hnews
      have hslv : ∀ {p : PV}, u0 = p → p.live = true → RT w E (.slice e) [a.eval x] p := by
        intro p hp hl
        subst hp
        exact hux.one rfl (fun e1 => by rw [e1] at hl; cases hl) (fun e1 => by rw [e1] at hl; cases hl) (by simp)
      split at hst
      · split at hst
        · rename_i hb
          obtain ⟨n', hn', hlk, rfl⟩ := newReg_some hst
          rw [hn] at hn'
          injection hn' with hn'
          subst hn'
          have h1 := hslv rfl rfl
          generalize hav : a.eval x = av at h1
          have hav' : a.eval x = .slice none 0 0 := by
            rw [hav]
            cases h1 with
            | imm h => cases h
            | nil => rfl
          exact append_nil_base h ho hce ht hdu hrow hi hby hav' hN1 hrc hn hN hΓ hlk hb hK
        · cases hst
      · split at hst
        · rename_i hb
          obtain ⟨n', hn', hlk, rfl⟩ := newReg_some hst
          rw [hn] at hn'
          injection hn' with hn'
          subst hn'
          have h1 := hslv rfl rfl
          generalize hav : a.eval x = av at h1
          have hav' : a.eval x = .slice none 0 0 := by
            rw [hav]
            cases h1 with
            | imm h => cases h; rfl
          exact append_nil_base h ho hce ht hdu hrow hi hby hav' hN1 hrc hn hN hΓ hlk hb hK
        · cases hst
      · rename_i r
        split at hst
        · rename_i g hg
          split at hst
          · rename_i hb
            obtain ⟨hb0, hb⟩ := hb
            have hfz : g.frozen = false := by simpa using hb0
            obtain ⟨n', hn', hlk, rfl⟩ := newReg_some hst
            rw [hn] at hn'
            injection hn' with hn'
            subst hn'
            have h1 := hslv rfl rfl
            generalize hav : a.eval x = av at h1
            cases h1 with
            | imm h => cases h
            | ref hr _ =>
              rcases (h.regs _ _ hg).row hfz hr with ⟨k1, k2, k3⟩ | ⟨k1, ad, cap, k2, k3⟩
              · rw [k1, k2] at hK
                rw [k2] at hb
                simp only [Bool.true_and, List.nil_append, List.length_nil, Nat.zero_add] at hK hb
                exact append_nil_base (h.drop r) ho hce ht hdu hrow hi hby (hav.trans k3) hN1 hrc hn hN hΓ hlk hb hK
              · rw [k1] at hK
                simp only [Bool.false_and] at hK
                have hold : Holds st E (.inl r) ad.block := .row hg hfz (k2 ▸ hr)
                exact append_row_base (h.drop r) ho hce ht hdu hrow hi hby (hav.trans k2) k3 (h.drop_free hold) (h.fresh _ _ hold) hN1 hrc hn hN hΓ hlk hb hK
          · cases hst
        · cases hst
      · rename_i r lo hi'
        split at hst
        · rename_i g hg
          split at hst
          · rename_i hb
            obtain ⟨hb0, hb1, hb2, hb⟩ := hb
            have hfz : g.frozen = false := by simpa using hb0
            obtain ⟨n', hn', hlk, rfl⟩ := newReg_some hst
            rw [hn] at hn'
            injection hn' with hn'
            subst hn'
            have h1 := hslv rfl rfl
            generalize hav : a.eval x = av at h1
            have hll : ((g.xs.drop lo).take (hi' - lo)).length = hi' - lo := by simp; omega
            cases h1 with
            | imm h => cases h
            | sub hr h1 h2 h3 h4 h5 h6 =>
              rename_i ad ad' len cap c
              rcases (h.regs _ _ hg).row hfz hr with ⟨k1, k2, k3⟩ | ⟨k1, ad0, cap0, k2, k3⟩
              · cases k3
              · injection k2 with k2 k2' k2''
                injection k2 with k2
                subst k2 k2' k2''
                rw [k1] at hK
                simp only [Bool.false_and] at hK
                have hold : Holds st E (.inl r) ad.block := .row hg hfz hr
                have hbk : ad'.block = ad.block := by obtain ⟨k, _, e1⟩ := h6; rw [e1, add_block]
                exact append_row_base (h.drop r) ho hce ht hdu hrow hi hby (by rw [hav, hll]) (k3.sub h1 hb2 h3 h4 h5 h6) (by rw [hbk]; exact h.drop_free hold) (by rw [hbk]; exact h.fresh _ _ hold)
                  hN1 hrc hn hN hΓ hlk (by rw [hll]; exact hb) hK
            | subnil hr =>
              rcases (h.regs _ _ hg).row hfz hr with ⟨k1, k2, k3⟩ | ⟨k1, ad, cap, k2, k3⟩
              · rw [k1, k2] at hK
                simp only [Bool.true_and, List.drop_nil, List.take_nil, List.nil_append] at hK
                exact append_nil_base (h.drop r) ho hce ht hdu hrow hi hby hav hN1 hrc hn hN hΓ hlk (by simpa using hb) hK
              · cases k2
          · cases hst
        · cases hst
      · cases hst
    · cases hst
  · cases hst
end Go.Vm
end
section
set_option linter.unusedSimpArgs false
set_option linter.unusedVariables false
namespace Go.Vm
variable {P : Program} {F : Fr} {w w' : World} {st st' : St} {a a' : Act} {E E' : Env} {K : Act → World → Prop} {Q : Exit → Act → World → Prop} {o : Oper} {C : Nat → List PV → Option (PV × List PV)}

/-- One block is written, and what the state says of it turns. -/
theorem Rel.write (h : Rel F st a w E) {x0 : RId ⊕ Nat} {b0 : Nat} (hH : Holds st E x0 b0) (hsz : w'.heap.size = w.heap.size) (hw : ∀ c, c ≠ b0 → w'.heap[c]? = w.heap[c]?)
    (ho : w'.os = w.os ∧ w'.tape = w.tape ∧ w'.output = w.output) (hsl : st'.sl = st.sl)
    (hbx : ∀ b p, look b st'.bx = some p → (look b st.bx = some p ∧ .inr b ≠ x0) ∨ (.inr b = x0 ∧ (∃ td ad, E.bb b = some (td, ad) ∧ BoxRep w' E td ad p) ∧ Ok st p))
    (hbx' : ∀ b p, look b st.bx = some p → ∃ p', look b st'.bx = some p')
    (hrg : ∀ r g, lookR r st'.rg = some g → (lookR r st.rg = some g ∧ .inl r ≠ x0) ∨ (.inl r = x0 ∧ RegRep w' E r g ∧ ∃ g0, lookR r st.rg = some g0))
    (hold : ∀ x b, Holds st' E x b → Holds st E x b) : Rel F st' a w' E := by
  have hX := h.held_own hH
  have hk : Keeps w w' E.X E.X := ⟨by omega, fun c hc _ => hw c (fun e => hc (by rw [e]; exact hX)), fun _ _ hx => hx⟩
  have other : ∀ {x c}, Holds st E x c → x ≠ x0 → w'.heap[c]? = w.heap[c]? := fun {x c} hx hne => hw c (fun e => by subst e; exact hne (h.dist _ _ _ hx hH))
  have mv : ∀ {rs bs}, Moves E E rs bs := ⟨fun _ _ => rfl, fun _ _ => rfl⟩
  have up : ∀ {q}, OkId st q → OkId st' q := fun hq => hq.mono (fun s v hv => ⟨v, by rw [hsl]; exact hv⟩) hbx'
  have upO : ∀ {p}, Ok st p → Ok st' p := fun hp => ⟨fun r hr => up (hp.1 r hr), fun b hb => by obtain ⟨x, hx⟩ := hp.2 b hb; exact hbx' b x hx⟩
  refine ⟨h.defers, h.size, ?_, ?_, ?_, ?_, ⟨?_, ?_, ?_⟩, ?_, ?_, h.outer, ?_⟩
  · intro s p hp
    rw [hsl] at hp
    obtain ⟨v, h1, h2⟩ := h.slots s p hp
    exact ⟨v, h1, h2.keeps hk mv⟩
  · intro b p hp
    rcases hbx b p hp with ⟨h1, hne⟩ | ⟨_, h1, _⟩
    · obtain ⟨td, ad, k1, ⟨k2, k3, cur, et, cs, k4, k5, k6⟩⟩ := h.boxes b p h1
      exact ⟨td, ad, k1, k2, k3, cur, et, cs, (other (.box h1 k1) hne).trans k4, k5, k6.keeps hk mv⟩
    · exact h1
  · intro r g hg
    rcases hrg r g hg with ⟨h1, hne⟩ | ⟨_, h1, _⟩
    · have h0 := h.regs r g h1
      cases g with
      | row g =>
        rcases h0 with ⟨k1, k2, e, k3⟩ | ⟨k1, e, ad, cap, k2, k3⟩
        · exact .inl ⟨k1, k2, e, k3⟩
        · refine .inr ⟨k1, e, ad, cap, k2, ?_⟩
          rcases k3 with ⟨hf, k4⟩ | ⟨hf, k4⟩
          · obtain ⟨h6, h7, h8, h9, cur, et, h10, h11, cf, h12, h13⟩ := k4
            exact .inl ⟨hf, h6, h7, h8, h9, cur, et, (other (.row h1 hf k2) hne).trans h10, h11, cf, h12, fun i x hx => (h13 i x hx).keeps hk⟩
          · exact .inr ⟨hf, k4.keeps hk⟩
      | mp fz es =>
        obtain ⟨k, e, b, k1, k2⟩ := h0
        refine ⟨k, e, b, k1, ?_⟩
        rcases k2 with ⟨rfl, k3, ms, clock, k4, k5⟩ | ⟨rfl, k3⟩
        · exact .inl ⟨rfl, k3, ms, clock, (other (.mp h1 k1) hne).trans k4, k5.keeps hk⟩
        · exact .inr ⟨rfl, k3.keeps hk⟩
    · exact h1
  · exact fun x y b hx hy => h.dist x y b (hold _ _ hx) (hold _ _ hy)
  · intro s v hv
    rw [hsl] at hv
    exact upO (h.named.sl s v hv)
  · intro s v hv
    rcases hbx s v hv with ⟨h1, _⟩ | ⟨_, _, h1⟩
    · exact upO (h.named.bx s v h1)
    · exact upO h1
  · intro r g hg
    rcases hrg r g hg with ⟨h1, _⟩ | ⟨_, _, g0, h1⟩
    · exact up (h.named.rg r g h1)
    · exact up (h.named.rg r g0 h1)
  · exact h.since.write (h.fresh _ _ hH) hsz hw ho
  · exact fun x b hx => h.fresh x b (hold _ _ hx)
  · intro b x y hx hy
    rcases hbx b y hy with ⟨h1, _⟩ | ⟨h1, _⟩
    · exact h.pbox _ _ _ hx h1
    · subst h1
      cases hH with
      | box h1 h2 => exact h.pbox _ _ _ hx h1

theorem store_cells {td : TD} {t : TypeId} {ad : Addr} {cur : Array Value} {et : TypeId} {v : Value} {cs : List Value} {off : Nat} (hc : chkTD P td t = true) (hs : ad.spot = none) (hb : w.heap[ad.block]? = some (.cells cur et (0, 0)))
    (hv : v.cells = cs.toArray) (hl : cs.length = td.size) (h1 : ∀ c ∈ cs, c.oneCell' = true) (hfit : ad.off + off + cs.length ≤ cur.size) :
    (storeVar t (ad.add off) v).run P w = .ok () (w.setRow ad.block (cur.toList.take (ad.off + off) ++ cs ++ cur.toList.drop (ad.off + off + cs.length)).toArray) := by
  have hst := run_storeCells_at P ad.block (ad.off + off) et cs 0 cur w hb (by simpa using hfit) h1
  simp only [Nat.add_zero] at hst
  rw [add_none hs]
  have hne : ¬ (cs.toArray.size ≠ td.size) := by simp [hl]
  simp only [storeVar, Sem.run_bind, sizeOf_run hc, Result.andThen_ok, hv, if_neg hne]
  exact hst

theorem CellsIn.splice {cur : Array Value} {off o : Nat} {cs ds : List Value} (h : CellsIn cur off cs) (ho : o + ds.length ≤ cs.length) (hf : off + cs.length ≤ cur.size) :
    CellsIn (cur.toList.take (off + o) ++ ds ++ cur.toList.drop (off + o + ds.length)).toArray off (Vm.splice o ds cs) := by
  obtain ⟨s1, s2, s3, s4⟩ := splice_row (cur := cur.toList) (o := off + o) (news := ds) (by simp; omega)
  intro j v hj
  simp only [List.getElem?_toArray]
  unfold Vm.splice at hj
  obtain ⟨t1, t2, t3, t4⟩ := splice_row (cur := cs) (o := o) (news := ds) ho
  by_cases h1 : j < o
  · rw [s1 _ (by omega)]
    rw [t1 j h1] at hj
    simpa using h j v hj
  · by_cases h2 : o + ds.length ≤ j
    · rw [s4 _ (by omega)]
      rw [t4 j h2] at hj
      simpa using h j v hj
    · have hd : ds[j - o]? = some ds[j - o] := List.getElem?_eq_getElem (by omega)
      have e1 := t2 (j - o) _ hd
      rw [show o + (j - o) = j by omega, hj] at e1
      have e2 := s2 (j - o) _ hd
      rw [show off + o + (j - o) = off + j by omega] at e2
      rw [e2, e1]

theorem mem_set' {α : Type} {x z : α} : ∀ {l : List α} {i : Nat}, x ∈ l.set i z → x ∈ l ∨ x = z := fun {l i} h => List.mem_or_eq_of_mem_set h
theorem Ok.of_mem {ps : List PV} (h : Ok st (.agg ps)) {q : PV} (hq : q ∈ ps) : Ok st q :=
  ⟨fun r hr => h.1 r (by simp only [ids]; exact (idss_mem hq).1 r hr), fun b hb => h.2 b (by simp only [bxs]; exact (idss_mem hq).2 b hb)⟩
theorem Ok.setAt : ∀ {p : List Nat} {v u v' : PV}, Ok st v → Ok st u → setAt v p u = some v' → Ok st v'
  | [], v, u, v', _, hu, h => by
    have : v' = u := by cases v <;> (simp only [Vm.setAt, Option.some.injEq] at h; exact h.symm)
    rw [this]; exact hu
  | i :: p, v, u, v', hv, hu, h => by
    cases v with
    | agg fs =>
      simp only [Vm.setAt] at h
      split at h
      · rename_i y hy
        split at h
        · rename_i z hz
          injection h with h
          subst h
          have hyo := hv.field hy
          have hzo := Ok.setAt hyo hu hz
          exact Ok.agg fun q hq => by
            rcases mem_set' hq with h1 | rfl
            · exact hv.of_mem h1
            · exact hzo
        · cases h
      · cases h
    | arr xs =>
      simp only [Vm.setAt] at h
      split at h
      · split at h
        · split at h
          · injection h with h
            subst h
            exact Ok.of_nil rfl rfl
          · cases h
        · cases h
      · cases h
    | _ => simp [Vm.setAt] at h

theorem RowRep.setElem {X : Nat → Prop} {e td : TD} {t : TypeId} {ad : Addr} {cap i off : Nat} {xs : List PV} {x u x' : PV} {v : Value} {cs : List Value} {p : List Nat} (h : RowRep w X e ad cap xs)
    (hx : xs[i]? = some x) (hp : TD.at e p = some (td, off)) (hc : chkTD P td t = true) (hu : RC w X td cs u) (hv : v.cells = cs.toArray) (hs : setAt x p u = some x') :
    ∃ w', (storeVar t (ad.add (i * e.size + off)) v).run P w = .ok () w' ∧ RowRep w' X e ad cap (xs.set i x') ∧ w'.heap.size = w.heap.size ∧ (∀ b, b ≠ ad.block → w'.heap[b]? = w.heap[b]?) ∧
      (w'.os = w.os ∧ w'.tape = w.tape ∧ w'.output = w.output) := by
  obtain ⟨k1, k2, k3, k4, cur, et, k5, k6, cf, k7, k8⟩ := h
  have hil := (List.getElem?_eq_some_iff.1 hx).1
  have hl := hu.length
  have hce := (k8 i x hx).length
  have hat := TD.at_size hp
  have hm : (i + 1) * e.size ≤ cap * e.size := Nat.mul_le_mul_right _ (by omega)
  rw [Nat.succ_mul] at hm
  have hfit : ad.off + (i * e.size + off) + cs.length ≤ cur.size := by omega
  have hst := store_cells (P := P) hc k2 k5 hv hl hu.one hfit
  obtain ⟨s1, s2, s3, s4⟩ := splice_row (cur := cur.toList) (o := ad.off + (i * e.size + off)) (news := cs) (by simpa using hfit)
  refine ⟨_, hst, ?_, by simp [World.setRow], fun b hb => setRow_other w _ b _ hb, rfl, rfl, rfl⟩
  have hk : Keeps w (w.setRow ad.block (cur.toList.take (ad.off + (i * e.size + off)) ++ cs ++ cur.toList.drop (ad.off + (i * e.size + off) + cs.length)).toArray) X X :=
    ⟨by simp [World.setRow], fun b hb _ => setRow_other w _ b _ (fun e => hb (by rw [e]; exact k1)), fun _ _ hx => hx⟩
  refine ⟨k1, k2, by simpa using k3, k4, _, et, setRow_heap w _ cur _ et _ k5, ?_, fun k => if k = i then Vm.splice off cs (cf i) else cf k, fun k hki => ?_, fun k y hy => ?_⟩
  · simp only [List.size_toArray, s3, Array.length_toList]
    exact k6
  · have hkl : k < xs.length := by simpa using hki
    simp only
    split
    · rename_i e1
      subst e1
      have := CellsIn.splice (k7 k hkl) (o := off) (ds := cs) (by omega) (by omega)
      rw [Nat.add_assoc] at this
      exact this
    · rename_i hne
      intro j y hj
      simp only [List.getElem?_toArray]
      obtain ⟨z, hz⟩ : ∃ z, xs[k]? = some z := ⟨_, List.getElem?_eq_getElem hkl⟩
      have hcl := (k8 k z hz).length
      have hjl := (List.getElem?_eq_some_iff.1 hj).1
      by_cases hlt : k < i
      · have hle : (k + 1) * e.size ≤ i * e.size := Nat.mul_le_mul_right _ hlt
        rw [Nat.succ_mul] at hle
        rw [s1 _ (by omega)]
        simpa using k7 k hkl j y hj
      · have hle : (i + 1) * e.size ≤ k * e.size := Nat.mul_le_mul_right _ (by omega)
        rw [Nat.succ_mul] at hle
        rw [s4 _ (by omega)]
        simpa using k7 k hkl j y hj
  · rw [List.getElem?_set] at hy
    split at hy
    · rename_i e1
      subst e1
      injection hy with hy
      subst hy
      simp only [if_true]
      exact (RC.set (k8 i x hx) hp hu hs).keeps hk
    · rename_i hne
      simp only [if_neg (fun e1 => hne (Eq.symm e1))]
      exact (k8 k y hy).keeps hk
end Go.Vm
end
section
set_option linter.unusedSimpArgs false
set_option linter.unusedVariables false
namespace Go.Vm
variable {P : Program} {F : Fr} {w w' : World} {st st' : St} {a a' : Act} {E E' : Env} {K : Act → World → Prop} {Q : Exit → Act → World → Prop} {o : Oper} {C : Nat → List PV → Option (PV × List PV)}

theorem store_upon {t : TypeId} {x v : Operand} {ad : Addr} (ho : o.op = .store t x v) (hd : o.dst = none) (hx : a.eval x = .pointer (some ad)) (hr : (storeVar t ad (a.eval v)).run P w = .ok () w') (hK : K a w') : o.wp P a w K Q := by
  refine upon_skip (w' := w') ?_ hd hK
  simp only [execOp, ho, Instr.storeAt, hx, Instr.sureAddr, Sem.run_bind, Sem.run_pure, Result.andThen_ok, hr]

theorem store_sound {x v : Operand} {x' v' : VA} {td : TD} {t : TypeId} (h : Rel F st a w E) (ho : o.op = .store t x v) (hc : chkTD P td t = true) (h0 : 0 < td.size) (hx : argOk F.Γ x x' (.ptr td) = true) (hv : argOk F.Γ v v' td = true)
    (hd : o.dst = none) (hst : step C st o.dst (.store x' v') = some st') (hK : ∀ a' w' E', Rel F st' a' w' E' → K a' w') : o.wp P a w K Q := by
  simp only [step] at hst
  split at hst
  · rename_i b p u hb hu
    split at hst
    · cases hst
    · rename_i hlive
      split at hst
      · rename_i v0 hv0
        split at hst
        · rename_i v1 hv1
          injection hst with hst
          subst hst
          have hxv := (h.arg hx hb).1
          obtain ⟨huv, huo⟩ := h.arg hv hu
          obtain ⟨t', td0, ad, off, e1, e2, e3, e4⟩ := hxv.ptr
          injection e1 with e1
          subst e1
          obtain ⟨td1, ad1, k1, k2, k3, cur, et, cs, k4, k5, k6⟩ := h.boxes _ _ hv0
          have hH : Holds st E (.inr b) ad1.block := .box hv0 k1
          rw [e3] at k1
          injection k1 with k1
          injection k1 with k1 k1'
          subst k1 k1'
          obtain ⟨ds, m1, m2, m3⟩ := huv.rt (by simpa using hlive) (chkTD.notTup hc)
          have hl := m1.length
          have hcl := k6.length
          have hat := TD.at_size e4
          have hfit0 : ad.off + cs.length ≤ cur.size := by
            cases hz : cs.length with
            | zero => omega
            | succ n =>
              have hlast : cs[n]? = some cs[n] := List.getElem?_eq_getElem (by omega)
              have := k5 n _ hlast
              have := (Array.getElem?_eq_some_iff.1 this).1
              omega
          have hst := store_cells (P := P) (off := off) hc k3 k4 m3 hl m1.one (by omega)
          refine store_upon ho hd e2 hst (hK _ _ E ?_)
          have hk : Keeps w (w.setRow ad.block (cur.toList.take (ad.off + off) ++ ds ++ cur.toList.drop (ad.off + off + ds.length)).toArray) E.X E.X :=
            ⟨by simp [World.setRow], fun b hb _ => setRow_other w _ b _ (fun e => hb (by rw [e]; exact k2)), fun _ _ hx => hx⟩
          refine h.write (st' := { st with bx := put b v1 st.bx }) hH (by simp [World.setRow]) (fun c hc => setRow_other w _ c _ hc) ⟨rfl, rfl, rfl⟩ rfl (fun b' q hq => ?_) (fun b' q hq => ?_) (fun r g hg => .inl ⟨hg, by simp⟩) (fun y c hy => ?_)
          · simp only [look_put] at hq
            by_cases eb : b = b'
            · subst eb
              simp only [if_true, Option.some.injEq] at hq
              subst hq
              refine .inr ⟨rfl, ⟨td0, ad, e3, k2, k3, _, et, _, setRow_heap w _ cur _ et _ k4, k5.splice (o := off) (ds := ds) (by omega) hfit0, ?_⟩, Ok.setAt (h.named.bx _ _ hv0) huo hv1⟩
              exact (k6.set e4 m1 hv1).keeps hk ⟨fun _ _ => rfl, fun _ _ => rfl⟩
            · rw [if_neg eb] at hq
              exact .inl ⟨hq, fun e => eb (by injection e with e; exact e.symm)⟩
          · simp only [look_put]
            split
            · exact ⟨_, rfl⟩
            · exact ⟨q, hq⟩
          · cases hy with
            | row h1 h2 h3 => exact .row h1 h2 h3
            | mp h1 h2 => exact .mp h1 h2
            | box h1 h2 =>
              simp only [look_put] at h1
              split at h1
              · rename_i eb; subst eb; exact .box hv0 h2
              · exact .box h1 h2
        · cases hst
      · cases hst
  · rename_i r i p u hr hu
    split at hst
    · rename_i u' rs himm
      split at hst
      · rename_i g hg
        split at hst
        · cases hst
        · rename_i hfz
          split at hst
          · rename_i v0 hv0
            split at hst
            · rename_i v1 hv1
              injection hst with hst
              subst hst
              have hxv := (h.arg hx hr).1
              obtain ⟨huv, huo⟩ := h.arg hv hu
              obtain ⟨E1, hr1, f1, f2, f3⟩ := h.freeze rs
              have hfz' : g.frozen = false := by simpa using hfz
              obtain ⟨t', e, ad, len, cap, off, e1, e2, e3, e4, e5⟩ := hxv.eptr
              injection e1 with e1
              subst e1
              obtain ⟨ds, m1, m2, m3⟩ := RV.imm hr1 rfl (huv.keeps (Keeps.less' f1) ⟨fun _ _ => by rw [f2], fun _ _ => by rw [f3]⟩) (chkTD.notTup hc) himm (frozen_freeze rs st)
              have e3' : E1.rb r = some (.row e (.slice (some ad) len cap)) := by rw [f2]; exact e3
              have hH : Holds (st.freeze rs) E1 (.inl r) ad.block := .row hg hfz' e3'
              rcases (hr1.regs _ _ hg).row hfz' e3' with ⟨_, _, k3⟩ | ⟨k1, ad0, cap0, k2, k3⟩
              · cases k3
              · injection k2 with k2 k2' k2''
                injection k2 with k2
                subst k2 k2' k2''
                obtain ⟨w', n1, n2, n3, n4, n5⟩ := k3.setElem (P := P) hv0 e5 hc m1 m3 hv1
                refine store_upon ho hd e2 n1 (hK _ _ E1 ?_)
                refine hr1.write hH n3 n4 n5 rfl (fun b q hq => .inl ⟨hq, by simp⟩) (fun b q hq => ⟨q, hq⟩) (fun q c hq => ?_) (fun y c hy => ?_)
                · simp only [lookR_put] at hq
                  by_cases eb : r = q
                  · subst eb
                    simp only [if_true, Option.some.injEq] at hq
                    subst hq
                    refine .inr ⟨rfl, .inr ⟨k1, e, ad, cap, by simpa using e3', .inl ⟨hfz', n2⟩⟩, _, hg⟩
                  · rw [if_neg eb] at hq
                    exact .inl ⟨hq, fun e => eb (by injection e with e; exact e.symm)⟩
                · cases hy with
                  | row h1 h2 h3 =>
                    simp only [lookR_put] at h1
                    split at h1
                    · rename_i eb; subst eb; exact .row hg hfz' h3
                    · exact .row h1 h2 h3
                  | mp h1 h2 =>
                    simp only [lookR_put] at h1
                    split at h1
                    · cases h1
                    · exact .mp h1 h2
                  | box h1 h2 => exact .box h1 h2
            · cases hst
          · cases hst
      · cases hst
    · cases hst
  · cases hst
end Go.Vm
end
section
set_option linter.unusedSimpArgs false
set_option linter.unusedVariables false
namespace Go.Vm
variable {P : Program} {F : Fr} {w w' : World} {st st' : St} {a a' : Act} {E E' : Env} {K : Act → World → Prop} {Q : Exit → Act → World → Prop} {o : Oper} {C : Nat → List PV → Option (PV × List PV)}

def scal : TD → Bool
  | .bool | .int _ | .str => true
  | _ => false
def scals : List TD → Bool
  | [] => true
  | t :: ts => scal t && scals ts
def keyOk (P : Program) : TD → TypeId → Bool
  | .bool, _ | .int _, _ | .str, _ => true
  | .struct fs, t => scals fs && chkEq P (.struct fs) t
  | _, _ => false

theorem scal_cells {X Y : Nat → Prop} {w1 w2 : World} {td : TD} {cs ds : List Value} {p : PV} (ht : scal td = true) (h : RC w1 X td cs p) (h' : RC w2 Y td ds p) : cs = ds := by
  cases h <;> first | (cases h'; rfl) | (simp [scal] at ht)
theorem scals_cells {X Y : Nat → Prop} {w1 w2 : World} : ∀ {fs : List TD} {cs ds : List Value} {ps : List PV}, scals fs = true → RCs w1 X fs cs ps → RCs w2 Y fs ds ps → cs = ds
  | [], _, _, _, _, .nil, .nil => rfl
  | t :: ts, _, _, _, ht, .cons h hs, .cons h' hs' => by
    simp only [scals, Bool.and_eq_true] at ht
    rw [scal_cells ht.1 h h', scals_cells ht.2 hs hs']
theorem key_cells {X Y : Nat → Prop} {w1 w2 : World} {td : TD} {t : TypeId} {cs ds : List Value} {p : PV} (ht : keyOk P td t = true) (h : RC w1 X td cs p) (h' : RC w2 Y td ds p) : cs = ds := by
  cases td with
  | bool => exact scal_cells rfl h h'
  | int => exact scal_cells rfl h h'
  | str => exact scal_cells rfl h h'
  | struct fs =>
    simp only [keyOk, Bool.and_eq_true] at ht
    cases h with
    | struct h => cases h' with
      | struct h' => exact scals_cells ht.1 h h'
  | _ => simp [keyOk] at ht

mutual
theorem pvEq_eq : ∀ {p q : PV}, pvEq p q = some true → p = q
  | .bool a, .bool b, h => by simp [pvEq] at h; rw [h]
  | .int j a, .int k b, h => by
    simp only [pvEq] at h
    split at h
    · rename_i e; subst e; simp at h; rw [h]
    · cases h
  | .str a, .str b, h => by simp [pvEq] at h; rw [h]
  | .agg as, .agg bs, h => by simp only [pvEq] at h; rw [pvEqs_eq h]
  | .arr as, .arr bs, h => by simp only [pvEq] at h; rw [pvEqs_eq h]
theorem pvEqs_eq : ∀ {ps qs : List PV}, pvEqs ps qs = some true → ps = qs
  | [], [], _ => rfl
  | a :: as, b :: bs, h => by
    simp only [pvEqs] at h
    split at h
    · rename_i h1
      rw [pvEq_eq h1, pvEqs_eq h]
    · cases h
    · cases h
end

theorem checkScal_run {td : TD} {t : TypeId} {X : Nat → Prop} {cs : List Value} {p : PV} {b : Bool} {n : Nat} (hs : scal td = true) (hc : chkTD P td t = true) (h : RC w X td cs p) : (Instr.checkKey b (n + 1) t (td.valOf cs)).run P w = .ok () w := by
  cases h with
  | bool x => exact MapKept.run_checkKey (k := .bool x) (chkTD.bool hc) trivial b n
  | int k x => exact MapKept.run_checkKey (k := .int k x) (chkTD.int hc) rfl b n
  | str l => exact MapKept.run_checkKey (k := .string ⟨l.toArray⟩) (chkTD.str hc) trivial b n
  | _ => simp [scal] at hs

theorem checkKeys_run {X : Nat → Prop} {b : Bool} {n : Nat} : ∀ {fs : List TD} {fields : List Field} {off : Nat} {xs : Array Value} {ps : List PV}, scals fs = true → chkFs P fs off fields = true → chkEqs P fs fields = true → RCs w X fs (xs.toList.drop off) ps →
    (forIn (m := Sem) fields PUnit.unit (fun f (_ : PUnit) => if f.name ≠ "_" then do
        let v ← part f.type xs f.offset
        Instr.checkKey b (n + 1) f.type v
        pure (ForInStep.yield PUnit.unit)
      else pure (ForInStep.yield PUnit.unit))).run P w = .ok PUnit.unit w
  | [], [], off, xs, _, _, _, _, hp => by simp
  | t :: ts, f :: fl, off, xs, ps, hs, hc, he, hp => by
    simp only [scals, Bool.and_eq_true] at hs
    simp only [chkFs, Bool.and_eq_true, decide_eq_true_eq] at hc
    simp only [chkEqs, Bool.and_eq_true, Bool.not_eq_true', beq_eq_false_iff_ne] at he
    obtain ⟨⟨⟨ho, h0⟩, hct⟩, hcs⟩ := hc
    generalize hx : xs.toList.drop off = cs at hp
    cases hp with
    | cons h1 h1s =>
      rename_i cs1 cs2 p1 ps1
      have n1 := h1.length
      have e1 := seg_drop hx n1
      have l1 : off + t.size ≤ xs.size := by
        have := e1.2.2
        rw [if_neg (by intro e; rw [e] at n1; simp at n1; omega)] at this
        simpa using this
      have p1r := part_run (P := P) (w := w) (cs := xs) (off := off) hct l1
      rw [e1.1] at p1r
      have ih := checkKeys_run (b := b) (n := n) (off := off + t.size) (xs := xs) hs.2 hcs he.2 (by rw [e1.2.1]; exact h1s)
      rw [List.forIn_cons]
      simp only [ne_eq, he.1.1, not_false_eq_true, if_true, Sem.run_bind, ho, p1r, Result.andThen_ok, checkScal_run hs.1 hct h1, Sem.run_pure]
      exact ih

theorem checkKey_run {td : TD} {t : TypeId} {X : Nat → Prop} {cs : List Value} {p : PV} {b : Bool} {n : Nat} (hk : keyOk P td t = true) (hc : chkTD P td t = true) (h : RC w X td cs p) : (Instr.checkKey b (n + 2) t (td.valOf cs)).run P w = .ok () w := by
  cases td with
  | bool => exact checkScal_run rfl hc h
  | int => exact checkScal_run rfl hc h
  | str => exact checkScal_run rfl hc h
  | struct fs =>
    simp only [keyOk, Bool.and_eq_true] at hk
    obtain ⟨fields, hu, hf⟩ := chkTD.struct hc
    have he := hk.2
    simp only [chkEq, hu, Bool.and_eq_true, Bool.not_eq_true'] at he
    cases h with
    | struct h =>
      have := checkKeys_run (b := b) (n := n) (off := 0) (xs := cs.toArray) hk.1 hf he.2 (by simpa using h)
      unfold Instr.checkKey
      simp only [TD.valOf, TD.isAgg, if_true, Sem.run_bind, run_underlying hu, Result.andThen_ok]
      rw [← Array.forIn_toList]
      have h2 : ∀ {r : Result PUnit}, r = .ok PUnit.unit w → (r.andThen fun _ w' => Result.ok () w') = .ok () w := by rintro r rfl; rfl
      refine Eq.trans ?_ (h2 (by simpa using this))
      simp
  | _ => simp [keyOk] at hk

theorem equalKey_run {td : TD} {t : TypeId} {X : Nat → Prop} {cs ds : List Value} {p q : PV} {b : Bool} (hk : keyOk P td t = true) (hc : chkTD P td t = true) (h : RC w X td cs p) (h' : RC w X td ds q) (he : pvEq p q = some b) :
    (Op.equal t (td.valOf cs) (td.valOf ds)).run P w = .ok b w := by
  have hq : chkEq P td t = true ∧ td.dep < 10000 := by
    cases td with
    | bool => exact ⟨rfl, by simp [TD.dep]⟩
    | int => exact ⟨rfl, by simp [TD.dep]⟩
    | str => exact ⟨rfl, by simp [TD.dep]⟩
    | struct fs =>
      simp only [keyOk, Bool.and_eq_true] at hk
      refine ⟨hk.2, ?_⟩
      have : ∀ fs, scals fs = true → TD.deps fs ≤ 1 := by
        intro fs
        induction fs with
        | nil => simp [TD.deps]
        | cons t ts ih =>
          intro h
          simp only [scals, Bool.and_eq_true] at h
          have := ih h.2
          have : t.dep ≤ 1 := by cases t <;> simp_all [TD.dep, scal]
          simp only [TD.deps]
          omega
      have := this fs hk.1
      simp only [TD.dep]
      omega
    | _ => simp [keyOk] at hk
  exact equal_run hc hq.1 hq.2 h h' he

/-- What the search among the entries gives: the first whose key is equal. -/
theorem findAsking_run {X : Nat → Prop} {k e : TD} {tk : TypeId} {ks : List Value} {p : PV} (hk : keyOk P k tk = true) (hc : chkTD P k tk = true) (hp : RC w X k ks p) : ∀ {ms : List MapEntry} {es : List (PV × PV)} {i : Nat} {r : Option PV}, RCm w X k e ms es →
    findKey p es = some r → ∃ r', (Instr.findAsking tk (k.valOf ks) ms i).run P w = .ok r' w ∧ (match r, r' with
      | none, none => ∀ v, putKey p v es = some (es ++ [(p, v)])
      | some x, some (j, v) => ∃ n m cs, j = i + n ∧ ms[n]? = some m ∧ m.key = k.valOf ks ∧ m.val = v ∧ v = e.valOf cs ∧ RC w X e cs x ∧ ∀ y, putKey p y es = some (es.set n (p, y))
      | _, _ => False)
  | [], _, i, r, .nil, h => by
    simp only [findKey, Option.some.injEq] at h
    subst h
    exact ⟨none, by simp [Instr.findAsking], fun v => rfl⟩
  | m :: ms, _, i, r, .cons (p := q) (q := x) (ps := es) (ks := ls) (cs := cs) hk1 hv hm hkf hvf, h => by
    simp only [findKey] at h
    cases hpq : pvEq p q with
    | none => rw [hpq] at h; cases h
    | some c =>
      rw [hpq] at h
      have heq := equalKey_run hk hc hp hk1 hpq
      rw [← hkf] at heq
      cases c with
      | true =>
        simp only [Option.some.injEq] at h
        subst h
        have e1 := pvEq_eq hpq
        subst e1
        have e2 := key_cells hk hp hk1
        subst e2
        refine ⟨some (i, m.val), by simp [Instr.findAsking, heq, Result.andThen], 0, m, cs, rfl, rfl, hkf, rfl, hvf, hv, fun y => ?_⟩
        simp only [putKey, hpq, List.set_cons_zero]
      | false =>
        simp only at h
        obtain ⟨r', h1, h2⟩ := findAsking_run (i := i + 1) hk hc hp hm h
        refine ⟨r', by simp [Instr.findAsking, heq, Result.andThen, h1], ?_⟩
        cases r with
        | none =>
          cases r' with
          | none => exact fun v => by simp only [putKey, hpq, h2 v, List.cons_append]
          | some _ => exact h2.elim
        | some x =>
          cases r' with
          | none => exact h2.elim
          | some jv =>
            obtain ⟨j, v⟩ := jv
            obtain ⟨n, m', cs', k1, k2, k3, k4, k5, k6, k7⟩ := h2
            exact ⟨n + 1, m', cs', by omega, by simpa using k2, k3, k4, k5, k6, fun y => by simp only [putKey, hpq, k7 y, List.set_cons_succ]⟩

theorem sameNow_is {X : Nat → Prop} {k : TD} {ks ls : List Value} {p q : PV} {d : TypeDesc} {c c' : Bool} (hp : RC w X k ks p) (hq : RC w X k ls q) (h : Instr.sameNow d (k.valOf ks) (k.valOf ls) = some c) (h' : pvEq p q = some c') : c = c' := by
  cases hp with
  | bool x =>
    cases hq with
    | bool y =>
      simp only [TD.valOf, TD.isAgg, Bool.false_eq_true, if_false] at h
      simp only [pvEq, Option.some.injEq] at h'
      cases d <;> simp only [Instr.sameNow, Option.some.injEq, reduceCtorEq] at h
      rw [← h, ← h', Bool.eq_iff_iff]; simp
  | int k x =>
    cases hq with
    | int _ y =>
      simp only [TD.valOf, TD.isAgg, Bool.false_eq_true, if_false] at h
      simp only [pvEq, if_true, Option.some.injEq] at h'
      cases d <;> simp only [Instr.sameNow, if_true, Option.some.injEq, reduceCtorEq] at h
      rw [← h, ← h', Bool.eq_iff_iff]; simp
  | str x =>
    cases hq with
    | str y =>
      simp only [TD.valOf, TD.isAgg, Bool.false_eq_true, if_false] at h
      simp only [pvEq, Option.some.injEq] at h'
      cases d <;> simp only [Instr.sameNow, Option.some.injEq, reduceCtorEq] at h
      rw [← h, ← h', Bool.eq_iff_iff, MapKept.bytes_beq]; simp
  | struct hp =>
    cases hq with
    | struct hq =>
      simp only [TD.valOf, TD.isAgg, if_true] at h
      cases d <;> simp [Instr.sameNow] at h
  | arr hn hp =>
    cases hq with
    | arr hn hq =>
      simp only [TD.valOf, TD.isAgg, if_true] at h
      cases d <;> simp [Instr.sameNow] at h
  | _ => cases hq <;> simp [pvEq] at h'

def Found (k e : TD) (w : World) (X : Nat → Prop) (ks : List Value) (p : PV) (ms : List MapEntry) (es : List (PV × PV)) (i : Nat) : Option PV → Option (Nat × Value) → Prop
  | none, none => ∀ v, putKey p v es = some (es ++ [(p, v)])
  | some x, some (j, v) => ∃ n m cs, j = i + n ∧ ms[n]? = some m ∧ m.key = k.valOf ks ∧ m.val = v ∧ v = e.valOf cs ∧ RC w X e cs x ∧ ∀ y, putKey p y es = some (es.set n (p, y))
  | _, _ => False

theorem findNow_run {X : Nat → Prop} {k e : TD} {tk : TypeId} {ks : List Value} {p : PV} {d : TypeDesc} (hk : keyOk P k tk = true) (hp : RC w X k ks p) : ∀ {ms : List MapEntry} {es : List (PV × PV)} {i : Nat} {r : Option PV} {r' : Option (Nat × Value)}, RCm w X k e ms es →
    findKey p es = some r → Instr.findNow d (k.valOf ks) ms i = some r' → Found k e w X ks p ms es i r r'
  | [], _, i, r, r', .nil, h, h' => by
    simp only [findKey, Option.some.injEq] at h
    simp only [Instr.findNow, Option.some.injEq] at h'
    subst h h'
    exact fun v => rfl
  | m :: ms, _, i, r, r', .cons (p := q) (q := x) (ps := es) (ks := ls) (cs := cs) hk1 hv hm hkf hvf, h, h' => by
    simp only [findKey] at h
    simp only [Instr.findNow] at h'
    cases hpq : pvEq p q with
    | none => rw [hpq] at h; cases h
    | some c =>
      rw [hpq] at h
      cases hsn : Instr.sameNow d (k.valOf ks) m.key with
      | none => rw [hsn] at h'; cases h'
      | some c' =>
        have hc := sameNow_is hp hk1 (by rw [← hkf]; exact hsn) hpq
        subst hc
        rw [hsn] at h'
        cases c' with
        | true =>
          simp only [Option.some.injEq] at h h'
          subst h h'
          have e1 := pvEq_eq hpq
          subst e1
          have e2 := key_cells hk hp hk1
          subst e2
          exact ⟨0, m, cs, rfl, rfl, hkf, rfl, hvf, hv, fun y => by simp only [putKey, hpq, List.set_cons_zero]⟩
        | false =>
          simp only at h h'
          have h2 := findNow_run (i := i + 1) hk hp hm h h'
          cases r with
          | none =>
            cases r' with
            | none => exact fun v => by simp only [putKey, hpq, h2 v, List.cons_append]
            | some _ => exact h2.elim
          | some x =>
            cases r' with
            | none => exact h2.elim
            | some jv =>
              obtain ⟨j, v⟩ := jv
              obtain ⟨n, m', cs', k1, k2, k3, k4, k5, k6, k7⟩ := h2
              exact ⟨n + 1, m', cs', by omega, by simpa using k2, k3, k4, k5, k6, fun y => by simp only [putKey, hpq, k7 y, List.set_cons_succ]⟩

theorem findKey_run {X : Nat → Prop} {k e : TD} {tk : TypeId} {ks : List Value} {p : PV} (hk : keyOk P k tk = true) (hc : chkTD P k tk = true) (hp : RC w X k ks p) {ms : List MapEntry} {es : List (PV × PV)} {r : Option PV} (hm : RCm w X k e ms es)
    (h : findKey p es = some r) : ∃ r', (Instr.findKey tk (k.valOf ks) ms).run P w = .ok r' w ∧ Found k e w X ks p ms es 0 r r' := by
  have hu : ∃ d, P.underlying tk = some d := by
    cases k with
    | bool => exact ⟨_, chkTD.bool hc⟩
    | int => exact ⟨_, chkTD.int hc⟩
    | str => exact ⟨_, chkTD.str hc⟩
    | struct fs => obtain ⟨_, hu, _⟩ := chkTD.struct hc; exact ⟨_, hu⟩
    | _ => simp [keyOk] at hk
  obtain ⟨d, hu⟩ := hu
  cases hf : Instr.findNow d (k.valOf ks) ms 0 with
  | some r' => exact ⟨r', by simp only [Instr.findKey, Sem.run_bind, run_underlying hu, Result.andThen_ok, hf, Sem.run_pure], findNow_run hk hp hm h hf⟩
  | none =>
    obtain ⟨r', h1, h2⟩ := findAsking_run (i := 0) hk hc hp hm h
    refine ⟨r', by simp only [Instr.findKey, Sem.run_bind, run_underlying hu, Result.andThen_ok, hf]; exact h1, ?_⟩
    cases r <;> cases r' <;> exact h2
end Go.Vm
end
