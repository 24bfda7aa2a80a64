/- A virtual machine for loaded programs, and that the interpreter does what it does. No conditions beyond each theorem. Maps: the steps. What a call hands back: values whose regions are their own. What comes from a call becomes the caller's: its regions get the caller's names. What a call is handed, and the state in which it begins. How a call ends. How a call ends: what the caller is told. The step that calls. The step that calls, joined. -/
import Derived.Test.YtnajiilcdcffdaaVm3
section
set_option linter.unusedSimpArgs false
set_option linter.unusedVariables false
namespace Go.Vm
variable {P : Program} {F : Fr} {w w' : World} {st st' : St} {a a' : Act} {E E' : Env} {K : Act → World → Prop} {Q : Exit → Act → World → Prop} {o : Oper} {C : Nat → List PV → Option (PV × List PV)}

theorem RV.key {td : TD} {v : Value} {p : PV} (h : RV w E td v p) (hp : p.plain = true) (ht : ∀ ts, td ≠ .tup ts) : ∃ cs, RC w E.X td cs p ∧ v = td.valOf cs := by
  have hl : p.live = true := by cases p <;> first | rfl | simp [PV.plain] at hp
  obtain ⟨cs, h1, h2, _⟩ := h.rt hl ht
  exact ⟨cs, h1.plain hp, h2⟩

theorem keyOk.notTup {td : TD} {t : TypeId} (h : keyOk P td t = true) : ∀ ts, td ≠ .tup ts := by
  rintro ts rfl
  simp [keyOk] at h

theorem izero_rc {X : Nat → Prop} {e : TD} {t : TypeId} (hc : chkTD P e t = true) : RC w X e e.zcells e.izero := zero_imm w X hc

/-- The entries that a map's value reads as. -/
theorem Rel.entries (h : Rel F st a w E) {k e : TD} {v : Value} {p : PV} {es : List (PV × PV)} (hv : RV w E (.map k e) v p) (he : st.entries p = some es) :
    (v = .map none ∧ es = []) ∨ ∃ b ms clock, v = .map (some b) ∧ w.heap[b]? = some (.map ms clock) ∧ RCm w E.X k e ms.toList es := by
  unfold St.entries at he
  split at he
  · injection he with he
    subst he
    obtain ⟨k', e', r, ms, clock, e1, e2, e3, e4, e5⟩ := hv.map
    injection e1 with e1 e1'
    subst e1 e1'
    exact .inr ⟨r, ms, clock, e2, e4, e5⟩
  · injection he with he
    subst he
    have := hv.one rfl (by simp) (by simp) (by simp)
    cases this with
    | imm h => cases h; exact .inl ⟨rfl, rfl⟩
  · rename_i r
    split at he
    · rename_i fz es' hg
      injection he with he
      subst he
      obtain ⟨k', e', b, e1, e2, e3⟩ := hv.mref
      injection e1 with e1 e1'
      subst e1 e1'
      obtain ⟨ms, clock, h1, h2⟩ := (h.regs _ _ hg).map e3
      exact .inr ⟨b, ms, clock, e2, h1, h2⟩
    · cases he
  · cases he

theorem lookup_sound {x y : Operand} {x' y' : VA} {k e : TD} {t tk te : TypeId} {ok : Bool} (h : Rel F st a w E) (ho : o.op = .lookup t x y ok) (ht : P.underlying t = some (.map tk te)) (hk : chkTD P k tk = true) (he : chkTD P e te = true)
    (hkk : keyOk P k tk = true) (hx : argOk F.Γ x x' (.map k e) = true) (hy : argOk F.Γ y y' k = true) (hd : dOk F.Γ F.N o.dst (if ok then .tup [e, .bool] else e) = true)
    (hst : step C st o.dst (.lookup e x' y' ok) = some st') (hK : ∀ a' w' E', Rel F st' a' w' E' → K a' w') : o.wp P a w K Q := by
  simp only [step] at hst
  split at hst
  · rename_i m kp hm hkp
    split at hst
    · rename_i hpl
      split at hst
      · rename_i es hes
        obtain ⟨hmv, _⟩ := h.arg hx hm
        obtain ⟨hkv, _⟩ := h.arg hy hkp
        obtain ⟨ks, hks, hkval⟩ := hkv.key hpl (chkTD.notTup hk)
        have put : ∀ (cs : List Value) (z : PV) (b : Bool), RC w E.X e cs z → (Instr.lookup t (a.eval x) (a.eval y) ok).run P w = .ok (if ok then .tuple #[e.valOf cs, .bool b] else e.valOf cs) w →
            st.putS o.dst (if ok then .agg [z, .bool b] else z) = some st' → o.wp P a w K Q := by
          intro cs z b h1 h2 h3
          refine put_sound (v := if ok then .tuple #[e.valOf cs, .bool b] else e.valOf cs) h hd h3 (by simp only [execOp, ho, Sem.run_bind, h2, Result.andThen_ok, Sem.run_pure]) ?_ ?_ hK
          · cases ok with
            | true =>
              have : RVs w E [e, .bool] [e.valOf cs, .bool b] [z, .bool b] := .cons (.cells (.imm h1) rfl) (.cons (.cells (cs := [_]) (.imm (.bool b)) rfl) .nil)
              exact .tup this
            | false => exact .cells (.imm h1) rfl
          · cases ok with
            | true =>
              exact Ok.agg fun q hq => by
                simp only [List.mem_cons, List.not_mem_nil, or_false] at hq
                rcases hq with rfl | rfl
                · exact RC.ok h1
                · exact Ok.bool
            | false => exact RC.ok h1
        have hz : (zeroValue te).run P w = .ok (e.valOf e.zcells) w := zeroValue_run he
        rcases h.entries hmv hes with ⟨e1, rfl⟩ | ⟨b, ms, clock, e1, e2, e3⟩
        · have hf : findKey kp [] = some none := rfl
          rw [hf] at hst
          have hckk : (Instr.checkKey true 10000 tk (a.eval y)).run P w = .ok () w := by
            rw [hkval]
            exact checkKey_run (n := 9998) hkk hk hks
          obtain ⟨r', h1, h2⟩ := findKey_run hkk hk hks (ms := []) (es := []) (r := none) (e := e) .nil rfl
          cases r' with
          | some _ => exact h2.elim
          | none =>
            refine put e.zcells e.izero false (izero_rc he) ?_ hst
            rw [hkval] at hckk ⊢
            simp only [Instr.lookup, e1, Sem.run_bind, run_underlying ht, Result.andThen_ok, Sem.run_pure, List.isEmpty_toArray, List.isEmpty_nil, Array.isEmpty_empty]
            simp only [hckk, h1, Result.andThen_ok, Sem.run_bind, hz, Sem.run_pure]
        · have hckk : ∀ b, (Instr.checkKey b 10000 tk (a.eval y)).run P w = .ok () w := by
            intro b
            rw [hkval]
            exact checkKey_run (n := 9998) hkk hk hks
          cases hf : findKey kp es with
          | none => rw [hf] at hst; cases hst
          | some r =>
            rw [hf] at hst
            obtain ⟨r', h1, h2⟩ := findKey_run hkk hk hks e3 hf
            cases r with
            | none =>
              cases r' with
              | some _ => exact h2.elim
              | none =>
                refine put e.zcells e.izero false (izero_rc he) ?_ hst
                rw [hkval] at hckk ⊢
                simp only [Instr.lookup, e1, Sem.run_bind, run_underlying ht, Result.andThen_ok, run_getObj_map e2, Sem.run_pure, hckk, h1, hz]
            | some v =>
              cases r' with
              | none => exact h2.elim
              | some jv =>
                obtain ⟨j, v'⟩ := jv
                obtain ⟨n, m', cs, k1, k2, k3, k4, k5, k6, k7⟩ := h2
                refine put cs v true k6 ?_ hst
                rw [hkval] at hckk ⊢
                simp only [Instr.lookup, e1, Sem.run_bind, run_underlying ht, Result.andThen_ok, run_getObj_map e2, Sem.run_pure, hckk, h1, k5]
      · cases hst
    · cases hst
  · cases hst

theorem RCm.push {X : Nat → Prop} {k e : TD} {m : MapEntry} {p q : PV} {ks cs : List Value} (hk : RC w X k ks p) (hv : RC w X e cs q) (hkf : m.key = k.valOf ks) (hvf : m.val = e.valOf cs) : ∀ {ms : List MapEntry} {es : List (PV × PV)}, RCm w X k e ms es → RCm w X k e (ms ++ [m]) (es ++ [(p, q)])
  | _, _, .nil => .cons hk hv .nil hkf hvf
  | _, _, .cons h1 h2 h3 h4 h5 => .cons h1 h2 (RCm.push hk hv hkf hvf h3) h4 h5
theorem RCm.set {X : Nat → Prop} {k e : TD} {m : MapEntry} {p q : PV} {ks cs : List Value} (hk : RC w X k ks p) (hv : RC w X e cs q) (hkf : m.key = k.valOf ks) (hvf : m.val = e.valOf cs) : ∀ {ms : List MapEntry} {es : List (PV × PV)} (n : Nat), RCm w X k e ms es → RCm w X k e (ms.set n m) (es.set n (p, q))
  | _, _, _, .nil => .nil
  | _, _, 0, .cons h1 h2 h3 h4 h5 => .cons hk hv h3 hkf hvf
  | _, _, n + 1, .cons h1 h2 h3 h4 h5 => .cons h1 h2 (RCm.set hk hv hkf hvf n h3) h4 h5

theorem sameBits_scal {X : Nat → Prop} {td : TD} {cs : List Value} {p : PV} {n : Nat} (ht : scal td = true) (h : RC w X td cs p) : ∃ v, cs = [v] ∧ Instr.sameBits n v v = true := by
  cases h with
  | bool b => exact ⟨_, rfl, by simp [Instr.sameBits]⟩
  | int k b => exact ⟨_, rfl, by simp [Instr.sameBits]⟩
  | str l => exact ⟨_, rfl, by simp only [Instr.sameBits]; rw [MapKept.bytes_beq]⟩
  | _ => simp [scal] at ht
theorem sameBits_scals {X : Nat → Prop} {n : Nat} : ∀ {fs : List TD} {cs : List Value} {ps : List PV}, scals fs = true → RCs w X fs cs ps → (cs.zip cs).all (fun (x, y) => Instr.sameBits n x y) = true
  | [], _, _, _, .nil => rfl
  | t :: ts, _, _, ht, .cons h hs => by
    simp only [scals, Bool.and_eq_true] at ht
    obtain ⟨v, rfl, hv⟩ := sameBits_scal (n := n) ht.1 h
    simp only [List.cons_append, List.nil_append, List.zip_cons_cons, List.all_cons, hv, Bool.true_and]
    exact sameBits_scals ht.2 hs
theorem keyStays_run {X : Nat → Prop} {k : TD} {tk : TypeId} {ks : List Value} {p : PV} (hk : keyOk P k tk = true) (hp : RC w X k ks p) : (Instr.keyThatStays (k.valOf ks) (k.valOf ks)).run P w' = .ok (k.valOf ks) w' := by
  have : Instr.sameBits 10000 (k.valOf ks) (k.valOf ks) = true := by
    cases k with
    | struct fs =>
      simp only [keyOk, Bool.and_eq_true] at hk
      cases hp with
      | struct hp =>
        have := sameBits_scals (n := 9999) hk.1 hp
        show Instr.sameBits (9999 + 1) _ _ = true
        simp only [TD.valOf, TD.isAgg, if_true, Instr.sameBits, beq_self_eq_true, Bool.true_and]
        exact this
    | bool => obtain ⟨v, rfl, hv⟩ := sameBits_scal (n := 10000) rfl hp; exact hv
    | int => obtain ⟨v, rfl, hv⟩ := sameBits_scal (n := 10000) rfl hp; exact hv
    | str => obtain ⟨v, rfl, hv⟩ := sameBits_scal (n := 10000) rfl hp; exact hv
    | _ => simp [keyOk] at hk
  simp only [Instr.keyThatStays, this, if_true, Sem.run_pure]

theorem makeMap_sound {k e : TD} {t : TypeId} (h : Rel F st a w E) (ho : o.op = .makeMap t none) (hd : dOk F.Γ F.N o.dst (.map k e) = true)
    (hst : step C st o.dst .makeMap = some st') (hK : ∀ a' w' E', Rel F st' a' w' E' → K a' w') : o.wp P a w K Q := by
  obtain ⟨d, hn, hN, hΓ⟩ := dOk_spec hd
  rw [hn] at hst
  simp only [step] at hst
  split at hst
  · rename_i hlk
    injection hst with hst
    subst hst
    refine upon_value (w' := w.alloc (.map #[] 0)) (v := .map (some w.heap.size)) ?_ ?_
    · simp only [execOp, ho, Instr.makeMap, Option.map_none, Sem.run_bind, Sem.run_pure, Result.andThen_ok, run_newObj]
      rfl
    · rw [hn]
      let E' : Env := { X := fun b => E.X b ∨ b = w.heap.size, rb := fun q => if q = [0, d] then some (.mp k e w.heap.size) else E.rb q, bb := E.bb }
      have hnok := h.notOk hlk []
      have hkp : Keeps w (w.alloc (.map #[] 0)) E.X E'.X := ⟨alloc_size _ _, fun b _ hb => alloc_get_lt hb, fun b hb hx => by rcases hx with hx | hx; exact hx; omega⟩
      have h1 : Rel F st a (w.alloc (.map #[] 0)) E' := h.extend hkp (fun x b hH => ⟨alloc_get_lt (h.held_lt hH), .inl (h.held_own hH)⟩)
        (fun r hr => by
          show (if r = [0, d] then _ else _) = _
          rw [if_neg (fun he => hnok (by rw [← he]; exact hr))]) (fun _ _ _ => rfl) h.since.alloc (fun b k1 k2 k3 => .inl (h.outer b k1 k2 k3))
      have hrb : E'.rb [0, d] = some (.mp k e w.heap.size) := by show (if _ then _ else _) = _; rw [if_pos rfl]
      have h2 := h1.putS (d := d) (v := .map (some w.heap.size)) (p := .mref [0, d]) hN (by rw [hΓ]; exact .cells (.mref hrb) rfl)
        ⟨fun r hr => by
          simp only [ids, List.mem_singleton] at hr
          exact .inl ⟨d, [], .mref [0, d], hr, by simp [look_put]⟩, fun b hb => by simp [bxs] at hb⟩
      have h3 := h2.addReg (r := [0, d]) (g := .mp false []) (h1.noReg hlk []) (.inl ⟨d, [], .mref [0, d], rfl, by simp [look_put]⟩)
        ⟨k, e, w.heap.size, hrb, .inl ⟨rfl, .inr rfl, #[], 0, alloc_get_new, .nil⟩⟩
        (by
          intro c hH
          have hcb : c = w.heap.size := by
            cases hH with
            | row k1 k2 k3 => rw [hrb] at k3; cases k3
            | mp k1 k2 => rw [hrb] at k2; injection k2 with k2; injection k2 with _ _ k2; exact k2.symm
          subst hcb
          refine ⟨fun x hx => ?_, .inr h.since.size⟩
          have hlt : w.heap.size < w.heap.size := by
            have hx' : ∀ c, Holds { st with sl := put d (.mref [0, d]) st.sl } E' x c → Holds st E x c := by
              intro c hx
              cases hx with
              | row k1 k2 k3 => exact .row k1 k2 (by have := h.named.rg _ _ k1; have hne : ¬ _ = [0, d] := fun he => hnok (by rw [← he]; exact this); simpa only [E', if_neg hne] using k3)
              | mp k1 k2 => exact .mp k1 (by have := h.named.rg _ _ k1; have hne : ¬ _ = [0, d] := fun he => hnok (by rw [← he]; exact this); simpa only [E', if_neg hne] using k2)
              | box k1 k2 => exact .box k1 k2
            exact h.held_lt (hx' _ hx)
          omega)
      exact hK _ _ E' h3
  · cases hst

theorem mapUpdate_sound {x y z : Operand} {x' y' z' : VA} {k e : TD} {t tk te : TypeId} (h : Rel F st a w E) (ho : o.op = .mapUpdate t x y z ∨ o.op = .insert t x y z) (ht : P.underlying t = some (.map tk te)) (hk : chkTD P k tk = true) (he : chkTD P e te = true)
    (hkk : keyOk P k tk = true) (hx : argOk F.Γ x x' (.map k e) = true) (hy : argOk F.Γ y y' k = true) (hz : argOk F.Γ z z' e = true) (hd : o.dst = none)
    (hst : step C st o.dst (.mapUpdate x' y' z') = some st') (hK : ∀ a' w' E', Rel F st' a' w' E' → K a' w') : o.wp P a w K Q := by
  simp only [step] at hst
  split at hst
  · rename_i r kp vp hr hkp hvp
    split at hst
    · rename_i hpl
      split at hst
      · rename_i v' rs himm
        split at hst
        · rename_i fz es hg
          split at hst
          · cases hst
          · rename_i hfz
            split at hst
            · rename_i fr hf
              split at hst
              · rename_i es' hput
                injection hst with hst
                subst hst
                have hfz' : fz = false := by simpa using hfz
                subst hfz'
                have hxv := (h.arg hx hr).1
                have hkv := (h.arg hy hkp).1
                have hvv := (h.arg hz hvp).1
                obtain ⟨E1, hr1, f1, f2, f3⟩ := h.freeze rs
                have mv : ∀ {l m}, Moves E E1 l m := ⟨fun _ _ => by rw [f2], fun _ _ => by rw [f3]⟩
                obtain ⟨cs, m1, m2, m3⟩ := RV.imm hr1 rfl (hvv.keeps (Keeps.less' f1) mv) (chkTD.notTup he) himm (frozen_freeze rs st)
                obtain ⟨ks, hks, hkval⟩ := (hkv.keeps (Keeps.less' f1) mv).key hpl (chkTD.notTup hk)
                obtain ⟨k0, e0, b, e1, e2, e3⟩ := hxv.mref
                injection e1 with e1 e1'
                subst e1 e1'
                have e3' : E1.rb r = some (.mp k e b) := by rw [f2]; exact e3
                have hH : Holds (st.freeze rs) E1 (.inl r) b := .mp hg e3'
                obtain ⟨ms, clock, hb, hm⟩ := (hr1.regs _ _ hg).map e3'
                have hX := hr1.held_own hH
                obtain ⟨r', h1, h2⟩ := findKey_run hkk hk hks hm hf
                have hckk : (Instr.checkKey false 10000 tk (a.eval y)).run P w = .ok () w := by
                  rw [hkval]
                  exact checkKey_run (n := 9998) hkk hk hks
                -- the new entries
                have fin : ∀ (ms' : Array MapEntry) (clock' : Nat), (Instr.mapUpdate t (a.eval x) (a.eval y) (a.eval z)).run P w = .ok () { w with heap := w.heap.setIfInBounds b (.map ms' clock') } →
                    (∀ w1, Keeps w w1 E1.X E1.X → RCm w1 E1.X k e ms'.toList es') → o.wp P a w K Q := by
                  intro ms' clock' hrun hrc
                  obtain ⟨s1, s2⟩ := MapKept.heap_set (o' := .map ms' clock') hb
                  have hkeep : Keeps w { w with heap := w.heap.setIfInBounds b (.map ms' clock') } E1.X E1.X := ⟨by simp, fun c hc _ => s2 c (fun e => hc (by rw [e]; exact hX)), fun _ _ hx => hx⟩
                  refine upon_skip (w' := { w with heap := w.heap.setIfInBounds b (.map ms' clock') }) ?_ hd (hK _ _ E1 ?_)
                  · rcases ho with ho | ho <;> simp only [execOp, ho, Sem.run_bind, hrun, Result.andThen_ok, Sem.run_pure]
                  · refine hr1.write hH (by simp) s2 ⟨rfl, rfl, rfl⟩ rfl (fun b q hq => .inl ⟨hq, by simp⟩) (fun b q hq => ⟨q, hq⟩) (fun q c hq => ?_) (fun y c hy => ?_)
                    · simp only [lookR_put] at hq
                      by_cases eb : r = q
                      · subst eb
                        simp only [if_true, Option.some.injEq] at hq
                        subst hq
                        exact .inr ⟨rfl, ⟨k, e, b, e3', .inl ⟨rfl, hX, ms', clock', s1, hrc _ hkeep⟩⟩, _, hg⟩
                      · rw [if_neg eb] at hq
                        exact .inl ⟨hq, fun e => eb (by injection e with e; exact e.symm)⟩
                    · cases hy with
                      | row h1 h2 h3 =>
                        simp only [lookR_put] at h1
                        split at h1
                        · cases h1
                        · exact .row h1 h2 h3
                      | mp h1 h2 =>
                        simp only [lookR_put] at h1
                        split at h1
                        · rename_i eb; subst eb; exact .mp hg h2
                        · exact .mp h1 h2
                      | box h1 h2 => exact .box h1 h2
                cases fr with
                | none =>
                  cases r' with
                  | some _ => exact h2.elim
                  | none =>
                    have := h2 v'
                    rw [hput] at this
                    injection this with this
                    subst this
                    refine fin (ms.push { key := a.eval y, val := a.eval z, born := clock }) (clock + 1) ?_ (fun w1 hk1 => ?_)
                    · rw [hkval] at hckk ⊢
                      simp only [Instr.mapUpdate, e2, Sem.run_bind, run_underlying ht, Result.andThen_ok, run_getObj_map hb, hckk, h1, MapKept.run_setObj_map _ hb]
                    · rw [Array.toList_push]
                      exact RCm.push (hks.keeps hk1) (m1.keeps hk1) hkval m2 (hm.keeps hk1)
                | some xv =>
                  cases r' with
                  | none => exact h2.elim
                  | some jv =>
                    obtain ⟨j, vv⟩ := jv
                    obtain ⟨n, m', cs', k1, k2, k3, k4, k5, k6, k7⟩ := h2
                    have hj : j = n := by omega
                    subst hj
                    have := k7 v'
                    rw [hput] at this
                    injection this with this
                    subst this
                    have hmj : ms[j]? = some m' := by simpa using k2
                    refine fin (ms.modify j fun e => { e with key := a.eval y, val := a.eval z }) clock ?_ (fun w1 hk1 => ?_)
                    · rw [hkval] at hckk ⊢
                      have hst := keyStays_run (w' := w) hkk hks
                      simp only [Instr.mapUpdate, e2, Sem.run_bind, run_underlying ht, Result.andThen_ok, run_getObj_map hb, hckk, h1, hmj, Option.map_some, Option.getD_some, k3, hst, MapKept.run_setObj_map _ hb]
                    · have hset : (ms.modify j fun e => { e with key := a.eval y, val := a.eval z }).toList = ms.toList.set j { m' with key := a.eval y, val := a.eval z } := by
                        apply List.ext_getElem?
                        intro i
                        simp only [Array.getElem?_toList, Array.getElem?_modify, List.getElem?_set, Array.length_toList]
                        by_cases hij : j = i
                        · subst hij
                          obtain ⟨hlt, heq⟩ := Array.getElem?_eq_some_iff.1 hmj
                          simp [hmj, hlt, heq]
                        · simp [hij]
                      rw [hset]
                      exact RCm.set (hks.keeps hk1) (m1.keeps hk1) hkval m2 j (hm.keeps hk1)
              · cases hst
            · cases hst
        · cases hst
      · cases hst
    · cases hst
  · cases hst
end Go.Vm
end
section
set_option linter.unusedSimpArgs false
set_option linter.unusedVariables false
namespace Go.Vm
variable {P : Program} {F : Fr} {w w' : World} {st st' : St} {a a' : Act} {E E' : Env} {K : Act → World → Prop} {Q : Exit → Act → World → Prop} {o : Oper} {C : Nat → List PV → Option (PV × List PV)}

mutual
inductive RO (w : World) (X : Nat → Prop) : TD → List Value → PV → List Nat → Prop
  | imm {td : TD} {cs : List Value} {p : PV} (h : RC w X td cs p) : RO w X td cs p []
  | struct {fs : List TD} {cs : List Value} {ps : List PV} {bl : List Nat} (h : ROs w X fs cs ps bl) : RO w X (.struct fs) cs (.agg ps) bl
  | ownnil {e : TD} : RO w X (.slice e) [.slice none 0 0] (.own true []) []
  | own {e : TD} {ad : Addr} {cap : Nat} {xs : List PV} (h : RowRep w X e ad cap xs) : RO w X (.slice e) [.slice (some ad) xs.length cap] (.own false xs) [ad.block]
  | omap {k e : TD} {b : Nat} {es : List (PV × PV)} {ms : Array MapEntry} {clock : Nat} (hX : X b) (hb : w.heap[b]? = some (.map ms clock)) (h : RCm w X k e ms.toList es) : RO w X (.map k e) [.map (some b)] (.omap es) [b]
inductive ROs (w : World) (X : Nat → Prop) : List TD → List Value → List PV → List Nat → Prop
  | nil : ROs w X [] [] [] []
  | cons {t : TD} {ts : List TD} {cs ds : List Value} {p : PV} {ps : List PV} {bl bm : List Nat} (h : RO w X t cs p bl) (hs : ROs w X ts ds ps bm) : ROs w X (t :: ts) (cs ++ ds) (p :: ps) (bl ++ bm)
end

/-- It stands in a memory in which its own blocks are as they were. -/
theorem RowRep.keeps {X X' : Nat → Prop} {e : TD} {ad : Addr} {cap : Nat} {xs : List PV} (h : RowRep w X e ad cap xs) (hk : Keeps w w' X X') (hX : X' ad.block) (hb : w'.heap[ad.block]? = w.heap[ad.block]?) : RowRep w' X' e ad cap xs := by
  obtain ⟨k1, k2, k3, k4, cur, et, k5, k6, cf, k7, k8⟩ := h
  exact ⟨hX, k2, k3, k4, cur, et, hb.trans k5, k6, cf, k7, fun i x hx => (k8 i x hx).keeps hk⟩
mutual
theorem RO.keeps {X X' : Nat → Prop} (hk : Keeps w w' X X') : ∀ {td : TD} {cs : List Value} {p : PV} {bl : List Nat}, RO w X td cs p bl → (∀ b ∈ bl, X' b ∧ w'.heap[b]? = w.heap[b]?) → RO w' X' td cs p bl
  | _, _, _, _, .imm h, _ => .imm (h.keeps hk)
  | _, _, _, _, .struct h, hb => .struct (ROs.keeps hk h hb)
  | _, _, _, _, .ownnil, _ => .ownnil
  | _, _, _, _, .own h, hb => .own (h.keeps hk (hb _ (by simp)).1 (hb _ (by simp)).2)
  | _, _, _, _, .omap hX hm h, hb => .omap (hb _ (by simp)).1 ((hb _ (by simp)).2.trans hm) (h.keeps hk)
theorem ROs.keeps {X X' : Nat → Prop} (hk : Keeps w w' X X') : ∀ {ts : List TD} {cs : List Value} {ps : List PV} {bl : List Nat}, ROs w X ts cs ps bl → (∀ b ∈ bl, X' b ∧ w'.heap[b]? = w.heap[b]?) → ROs w' X' ts cs ps bl
  | _, _, _, _, .nil, _ => .nil
  | _, _, _, _, .cons h hs, hb => .cons (RO.keeps hk h fun b hb' => hb b (by simp [hb'])) (ROs.keeps hk hs fun b hb' => hb b (by simp [hb']))
end
mutual
theorem RO.length {X : Nat → Prop} : ∀ {td : TD} {cs : List Value} {p : PV} {bl : List Nat}, RO w X td cs p bl → cs.length = td.size
  | _, _, _, _, .imm h => h.length
  | _, _, _, _, .struct h => ROs.length h
  | _, _, _, _, .ownnil => rfl
  | _, _, _, _, .own _ => rfl
  | _, _, _, _, .omap _ _ _ => rfl
theorem ROs.length {X : Nat → Prop} : ∀ {ts : List TD} {cs : List Value} {ps : List PV} {bl : List Nat}, ROs w X ts cs ps bl → cs.length = TD.sizes ts
  | _, _, _, _, .nil => rfl
  | _, _, _, _, .cons h hs => by rw [List.length_append, TD.sizes, RO.length h, ROs.length hs]
end
mutual
theorem RO.own_mem {X : Nat → Prop} : ∀ {td : TD} {cs : List Value} {p : PV} {bl : List Nat}, RO w X td cs p bl → ∀ b ∈ bl, X b
  | _, _, _, _, .imm h, b, hb => by simp at hb
  | _, _, _, _, .struct h, b, hb => ROs.own_mem h b hb
  | _, _, _, _, .ownnil, b, hb => by simp at hb
  | _, _, _, _, .own h, b, hb => by simp only [List.mem_singleton] at hb; subst hb; exact h.own
  | _, _, _, _, .omap hX _ _, b, hb => by simp only [List.mem_singleton] at hb; subst hb; exact hX
theorem ROs.own_mem {X : Nat → Prop} : ∀ {ts : List TD} {cs : List Value} {ps : List PV} {bl : List Nat}, ROs w X ts cs ps bl → ∀ b ∈ bl, X b
  | _, _, _, _, .nil, b, hb => by simp at hb
  | _, _, _, _, .cons h hs, b, hb => by
    rcases List.mem_append.1 hb with hb | hb
    · exact RO.own_mem h b hb
    · exact ROs.own_mem hs b hb
end

/-- A result's value: one, or several. -/
inductive ROVs (w : World) (X : Nat → Prop) : List TD → List Value → List PV → List Nat → Prop
  | nil : ROVs w X [] [] [] []
  | cons {t : TD} {ts : List TD} {cs : List Value} {v : Value} {vs : List Value} {p : PV} {ps : List PV} {bl bm : List Nat} (h : RO w X t cs p bl) (hv : v = t.valOf cs) (hs : ROVs w X ts vs ps bm) : ROVs w X (t :: ts) (v :: vs) (p :: ps) (bl ++ bm)
inductive ROV (w : World) (X : Nat → Prop) : TD → Value → PV → List Nat → Prop
  | cells {td : TD} {cs : List Value} {p : PV} {bl : List Nat} {v : Value} (h : RO w X td cs p bl) (hv : v = td.valOf cs) : ROV w X td v p bl
  | tup {ts : List TD} {vs : List Value} {ps : List PV} {bl : List Nat} (h : ROVs w X ts vs ps bl) : ROV w X (.tup ts) (.tuple vs.toArray) (.agg ps) bl

mutual
theorem RC.exp_same {X : Nat → Prop} : ∀ {td : TD} {cs : List Value} {p u : PV} {l : List RId}, RC w X td cs p → st.exp p = some (u, l) → u = p ∧ l = []
  | _, _, _, _, _, .bool b, h => by simp only [St.exp, Option.some.injEq, Prod.mk.injEq] at h; exact ⟨h.1.symm, h.2.symm⟩
  | _, _, _, _, _, .int k n, h => by simp only [St.exp, Option.some.injEq, Prod.mk.injEq] at h; exact ⟨h.1.symm, h.2.symm⟩
  | _, _, _, _, _, .str s, h => by simp only [St.exp, Option.some.injEq, Prod.mk.injEq] at h; exact ⟨h.1.symm, h.2.symm⟩
  | _, _, _, _, _, .struct hs, h => by
    simp only [St.exp] at h
    split at h
    · rename_i gs l hg
      simp only [Option.some.injEq, Prod.mk.injEq] at h
      obtain ⟨rfl, rfl⟩ := RCs.exp_same hs hg
      exact ⟨h.1.symm, h.2.symm⟩
    · cases h
  | _, _, _, _, _, .arr _ _, h => by simp only [St.exp, Option.some.injEq, Prod.mk.injEq] at h; exact ⟨h.1.symm, h.2.symm⟩
  | _, _, _, _, _, .slnil, h => by simp only [St.exp, Option.some.injEq, Prod.mk.injEq] at h; exact ⟨h.1.symm, h.2.symm⟩
  | _, _, _, _, _, .sl .., h => by simp only [St.exp, Option.some.injEq, Prod.mk.injEq] at h; exact ⟨h.1.symm, h.2.symm⟩
  | _, _, _, _, _, .mapnil, h => by simp only [St.exp, Option.some.injEq, Prod.mk.injEq] at h; exact ⟨h.1.symm, h.2.symm⟩
  | _, _, _, _, _, .map .., h => by simp only [St.exp, Option.some.injEq, Prod.mk.injEq] at h; exact ⟨h.1.symm, h.2.symm⟩
  | _, _, _, _, _, .fn f, h => by simp only [St.exp, Option.some.injEq, Prod.mk.injEq] at h; exact ⟨h.1.symm, h.2.symm⟩
  | _, _, _, _, _, .nilfn, h => by simp only [St.exp, Option.some.injEq, Prod.mk.injEq] at h; exact ⟨h.1.symm, h.2.symm⟩
  | _, _, _, _, _, .nilptr, h => by simp only [St.exp, Option.some.injEq, Prod.mk.injEq] at h; exact ⟨h.1.symm, h.2.symm⟩
theorem RCs.exp_same {X : Nat → Prop} : ∀ {fs : List TD} {cs : List Value} {ps us : List PV} {l : List RId}, RCs w X fs cs ps → st.exps ps = some (us, l) → us = ps ∧ l = []
  | _, _, _, _, _, .nil, h => by simp only [St.exps, Option.some.injEq, Prod.mk.injEq] at h; exact ⟨h.1.symm, h.2.symm⟩
  | _, _, _, _, _, .cons hc hs, h => by
    simp only [St.exps] at h
    split at h
    · rename_i y l hy
      split at h
      · rename_i ys m hys
        simp only [Option.some.injEq, Prod.mk.injEq] at h
        obtain ⟨rfl, rfl⟩ := RC.exp_same hc hy
        obtain ⟨rfl, rfl⟩ := RCs.exp_same hs hys
        exact ⟨h.1.symm, by rw [← h.2]; rfl⟩
      · cases h
    · cases h
end

/-- Blocks and the regions that hold them. -/
structure Own (st : St) (E : Env) (l : List RId) (bl : List Nat) : Prop where
  held : ∀ b ∈ bl, ∃ r ∈ l, Holds st E (.inl r) b
  nodup : l.Nodup → bl.Nodup
theorem Own.nil : Own st E [] [] := ⟨by simp, fun _ => List.nodup_nil⟩
theorem Own.append (h : Rel F st a w E) {l m : List RId} {bl bm : List Nat} (h1 : Own st E l bl) (h2 : Own st E m bm) : Own st E (l ++ m) (bl ++ bm) := by
  refine ⟨fun b hb => ?_, fun hn => ?_⟩
  · rcases List.mem_append.1 hb with hb | hb
    · obtain ⟨r, hr, hh⟩ := h1.held b hb; exact ⟨r, by simp [hr], hh⟩
    · obtain ⟨r, hr, hh⟩ := h2.held b hb; exact ⟨r, by simp [hr], hh⟩
  · obtain ⟨n1, n2, n3⟩ := List.nodup_append.1 hn
    refine List.nodup_append.2 ⟨h1.nodup n1, h2.nodup n2, fun b hb c hc e => ?_⟩
    subst e
    obtain ⟨r, hr, hh⟩ := h1.held b hb
    obtain ⟨q, hq, hh'⟩ := h2.held b hc
    have := h.dist _ _ _ hh hh'
    injection this with this
    exact n3 r hr q hq this

mutual
theorem RT.exp (h : Rel F st a w E) : ∀ {td : TD} {cs : List Value} {p u : PV} {l : List RId}, RT w E td cs p → st.exp p = some (u, l) → ∃ bl, RO w E.X td cs u bl ∧ Own st E l bl
  | _, _, _, _, _, .imm hc, he => by
    obtain ⟨rfl, rfl⟩ := RC.exp_same hc he
    exact ⟨[], .imm hc, Own.nil⟩
  | _, _, _, _, _, .struct hs, he => by
    simp only [St.exp] at he
    split at he
    · rename_i gs l hg
      simp only [Option.some.injEq, Prod.mk.injEq] at he
      obtain ⟨rfl, rfl⟩ := he
      obtain ⟨bl, h1, h2⟩ := RTs.exp h hs hg
      exact ⟨bl, .struct h1, h2⟩
    · cases he
  | _, _, _, _, _, .nil, he => by
    simp only [St.exp, Option.some.injEq, Prod.mk.injEq] at he
    obtain ⟨rfl, rfl⟩ := he
    exact ⟨[], .ownnil, Own.nil⟩
  | _, _, _, _, _, .ref (r := r) (v := v) hr h1, he => by
    simp only [St.exp] at he
    split at he
    · rename_i g hg
      split at he
      · rename_i hf
        simp only [Option.some.injEq, Prod.mk.injEq] at he
        obtain ⟨rfl, rfl⟩ := he
        exact ⟨[], .imm ((h.regs _ _ hg).imm (by simp [RegC.isFrozen, hf]) hr), Own.nil⟩
      · rename_i hf
        simp only [Option.some.injEq, Prod.mk.injEq] at he
        obtain ⟨rfl, rfl⟩ := he
        have hf' : g.frozen = false := by simpa using hf
        rcases (h.regs _ _ hg).row hf' hr with ⟨k1, k2, k3⟩ | ⟨k1, ad, cap, k2, k3⟩
        · rw [k1, k2, k3]
          exact ⟨[], .ownnil, ⟨by simp, fun _ => List.nodup_nil⟩⟩
        · rw [k1, k2]
          refine ⟨[ad.block], .own k3, ⟨fun b hb => ?_, fun _ => by simp⟩⟩
          simp only [List.mem_singleton] at hb
          subst hb
          exact ⟨r, by simp, .row hg hf' (k2 ▸ hr)⟩
    · cases he
  | _, _, _, _, _, .sub (r := r) (e := e) (a := ad) (a' := ad') (len := len) (cap := cap) (lo := lo) (hi := hi) (c := c) hr h1 h2 h3 h4 h5 h6, he => by
    simp only [St.exp] at he
    split at he
    · rename_i g hg
      split at he
      · rename_i hb
        split at he
        · rename_i hf
          simp only [Option.some.injEq, Prod.mk.injEq] at he
          obtain ⟨rfl, rfl⟩ := he
          exact ⟨[], .imm (((h.regs _ _ hg).imm (by simp [RegC.isFrozen, hf]) hr).part h1 hb.2 h3 h5), Own.nil⟩
        · rename_i hf
          simp only [Option.some.injEq, Prod.mk.injEq] at he
          obtain ⟨rfl, rfl⟩ := he
          have hf' : g.frozen = false := by simpa using hf
          rcases (h.regs _ _ hg).row hf' hr with ⟨k1, k2, k3⟩ | ⟨k1, ad0, cap0, k2, k3⟩
          · cases k3
          · injection k2 with k2 k2' k2''
            injection k2 with k2
            subst k2 k2' k2''
            have hll : ((g.xs.drop lo).take (hi - lo)).length = hi - lo := by simp; omega
            have hbk : ad'.block = ad.block := by obtain ⟨k, _, e1⟩ := h6; rw [e1, add_block]
            have := RO.own (k3.sub h1 hb.2 h3 h4 h5 h6)
            rw [hll] at this
            rw [k1]
            refine ⟨[ad'.block], this, ⟨fun b hb => ?_, fun _ => by simp⟩⟩
            simp only [List.mem_singleton] at hb
            subst hb
            rw [hbk]
            exact ⟨r, by simp, .row hg hf' hr⟩
      · cases he
    · cases he
  | _, _, _, _, _, .subnil (r := r) hr, he => by
    simp only [St.exp] at he
    split at he
    · rename_i g hg
      split at he
      · rename_i hb
        have hx : g.isNil = true ∧ g.xs = [] := by
          rcases (h.regs _ _ hg).slice hr with ⟨k1, k2, k3⟩ | ⟨k1, ad, cap, k2, _⟩
          · exact ⟨k1, k3⟩
          · cases k2
        rw [hx.1, hx.2] at he
        split at he
        · simp only [Option.some.injEq, Prod.mk.injEq] at he
          obtain ⟨rfl, rfl⟩ := he
          exact ⟨[], .imm (by simpa using RC.slnil), Own.nil⟩
        · simp only [Option.some.injEq, Prod.mk.injEq] at he
          obtain ⟨rfl, rfl⟩ := he
          exact ⟨[], by simpa using RO.ownnil, ⟨by simp, fun _ => List.nodup_nil⟩⟩
      · cases he
    · cases he
  | _, _, _, _, _, .mref (r := r) (b := b) hr, he => by
    simp only [St.exp] at he
    split at he
    · rename_i fz es hg
      split at he
      · rename_i hf
        simp only [Option.some.injEq, Prod.mk.injEq] at he
        obtain ⟨rfl, rfl⟩ := he
        exact ⟨[], .imm ((h.regs _ _ hg).immMap hf hr), Own.nil⟩
      · rename_i hf
        simp only [Option.some.injEq, Prod.mk.injEq] at he
        obtain ⟨rfl, rfl⟩ := he
        have hf' : fz = false := by simpa using hf
        subst hf'
        have hH : Holds st E (.inl r) b := .mp hg hr
        obtain ⟨ms, clock, k1, k2⟩ := (h.regs _ _ hg).map hr
        refine ⟨[b], .omap (h.held_own hH) k1 k2, ⟨fun c hc => ?_, fun _ => by simp⟩⟩
        simp only [List.mem_singleton] at hc
        subst hc
        exact ⟨r, by simp, hH⟩
    · cases he
  | _, _, _, _, _, .ptr .., he => by simp [St.exp] at he
  | _, _, _, _, _, .eptr .., he => by simp [St.exp] at he
  | _, _, _, _, _, .rptr .., he => by simp [St.exp] at he
  | _, _, _, _, _, .dead .., he => by simp [St.exp] at he
theorem RTs.exp (h : Rel F st a w E) : ∀ {fs : List TD} {cs : List Value} {ps us : List PV} {l : List RId}, RTs w E fs cs ps → st.exps ps = some (us, l) → ∃ bl, ROs w E.X fs cs us bl ∧ Own st E l bl
  | _, _, _, _, _, .nil, he => by
    simp only [St.exps, Option.some.injEq, Prod.mk.injEq] at he
    obtain ⟨rfl, rfl⟩ := he
    exact ⟨[], .nil, Own.nil⟩
  | _, _, _, _, _, .cons hc hs, he => by
    simp only [St.exps] at he
    split at he
    · rename_i y l hy
      split at he
      · rename_i ys m hys
        simp only [Option.some.injEq, Prod.mk.injEq] at he
        obtain ⟨rfl, rfl⟩ := he
        obtain ⟨bl, h1, h2⟩ := RT.exp h hc hy
        obtain ⟨bm, h3, h4⟩ := RTs.exp h hs hys
        exact ⟨bl ++ bm, .cons h1 h3, h2.append h h4⟩
      · cases he
    · cases he
end
end Go.Vm
end
section
set_option linter.unusedSimpArgs false
set_option linter.unusedVariables false
namespace Go.Vm
variable {P : Program} {F : Fr} {w w' : World} {st st' : St} {a a' : Act} {E E' : Env} {K : Act → World → Prop} {Q : Exit → Act → World → Prop} {o : Oper} {C : Nat → List PV → Option (PV × List PV)}

/-- Another tree for a slot's value. -/
theorem Rel.setS (h : Rel F st a w E) {d : Nat} {v : Value} {p : PV} (hd : d < F.N) (hget : a.tmps[d]? = some v) (hv : RV w E (F.Γ d) v p) (ho : Ok { st with sl := put d p st.sl } p) :
    Rel F { st with sl := put d p st.sl } a w E := by
  have h1 := h.putS hd hv ho
  have e : a.put (some d) v = a := by
    have : a.tmps.setIfInBounds d v = a.tmps := by
      apply Array.ext_getElem?
      intro i
      rw [Array.getElem?_setIfInBounds]
      split
      · rename_i e
        subst e
        split
        · exact hget.symm
        · rename_i hn; rw [Array.getElem?_eq_none (by omega)]
      · rfl
    simp only [Act.put, this]
  rw [e] at h1
  exact h1

/-- Another tree for a box's content. -/
theorem Rel.setB (h : Rel F st a w E) {b : Nat} {q p : PV} {td : TD} {ad : Addr} (hb : look b st.bx = some q) (he : E.bb b = some (td, ad)) (hp : BoxRep w E td ad p) (ho : Ok st p) :
    Rel F { st with bx := put b p st.bx } a w E := by
  have up : ∀ r, OkId st r → OkId { st with bx := put b p st.bx } r := fun r hr => hr.mono (fun s v hv => ⟨v, hv⟩) (fun s v hv => by simp only [look_put]; split; exact ⟨_, rfl⟩; exact ⟨v, hv⟩)
  have upO : ∀ v, Ok st v → Ok { st with bx := put b p st.bx } v := fun v hv => ⟨fun r hr => up r (hv.1 r hr), fun c hc => by obtain ⟨x, hx⟩ := hv.2 c hc; simp only [look_put]; split; exact ⟨_, rfl⟩; exact ⟨x, hx⟩⟩
  have back : ∀ x c, Holds { st with bx := put b p st.bx } E x c → Holds st E x c := by
    intro x c hH
    cases hH with
    | row h1 h2 h3 => exact .row h1 h2 h3
    | mp h1 h2 => exact .mp h1 h2
    | box h1 h2 =>
      simp only [look_put] at h1
      split at h1
      · rename_i eb; subst eb; exact .box hb h2
      · exact .box h1 h2
  refine ⟨h.defers, h.size, h.slots, fun c x hx => ?_, h.regs, fun x y c hx hy => h.dist x y c (back _ _ hx) (back _ _ hy), ⟨fun s v hv => upO v (h.named.sl s v hv), fun s v hv => ?_, fun r g hg => up r (h.named.rg r g hg)⟩, h.since, fun x c hx => h.fresh x c (back _ _ hx), h.outer, fun c x y hx hy => ?_⟩
  · simp only [look_put] at hx
    split at hx
    · rename_i eb
      subst eb
      injection hx with hx
      subst hx
      exact ⟨td, ad, he, hp⟩
    · exact h.boxes c x hx
  · simp only [look_put] at hv
    split at hv
    · injection hv with hv
      subst hv
      exact upO _ ho
    · exact upO v (h.named.bx s v hv)
  · simp only [look_put] at hy
    split at hy
    · rename_i eb; subst eb; exact h.pbox _ _ _ hx hb
    · exact h.pbox _ _ _ hx hy

def Under (base q : RId) : Prop := ∃ s, q = base ++ s
theorem Under.next {base q : RId} {i : Nat} (h : Under (base ++ [i]) q) : Under base q := by
  obtain ⟨s, rfl⟩ := h
  exact ⟨[i] ++ s, by simp⟩
theorem Under.apart {base q : RId} {i j : Nat} (h : Under (base ++ [i]) q) (h' : Under (base ++ [j]) q) : i = j := by
  obtain ⟨s, rfl⟩ := h
  obtain ⟨t, ht⟩ := h'
  simp only [List.append_assoc, List.append_cancel_left_eq, List.singleton_append, List.cons.injEq] at ht
  exact ht.1

/-- These names are free: no region has one, no slot and no box leads to one. -/
structure Free (st : St) (S : RId → Prop) : Prop where
  rg : ∀ q, S q → lookR q st.rg = none
  sl : ∀ s p, look s st.sl = some p → ∀ r ∈ ids p, ¬ S r
  bx : ∀ s p, look s st.bx = some p → ∀ r ∈ ids p, ¬ S r
  ok : ∀ q, S q → OkId st q
theorem Free.less {S S' : RId → Prop} (h : Free st S) (hs : ∀ q, S' q → S q) : Free st S' :=
  ⟨fun q hq => h.rg q (hs q hq), fun s p hp r hr hS => h.sl s p hp r hr (hs r hS), fun s p hp r hr hS => h.bx s p hp r hr (hs r hS), fun q hq => h.ok q (hs q hq)⟩

structure Imp (F : Fr) (st : St) (a : Act) (w : World) (E E' : Env) (rs : List (RId × RegC)) (bl : List Nat) (S : RId → Prop) : Prop where
  X : E'.X = E.X
  bb : E'.bb = E.bb
  rb : ∀ q, ¬ S q → E'.rb q = E.rb q
  rel : Rel F { st with rg := rs ++ st.rg } a w E'
  held : ∀ x b, Holds { st with rg := rs ++ st.rg } E' x b → Holds st E x b ∨ b ∈ bl
  keys : ∀ q, ¬ S q → lookR q (rs ++ st.rg) = lookR q st.rg

theorem Rel.imp1 (h : Rel F st a w E) {q : RId} {x : RB} {g : RegC} {S : RId → Prop} (hf : Free st S) (hq : S q) (hg : RegRep w (E.setR q x) q g) {bl : List Nat}
    (hb : ∀ b, Holds { st with rg := (q, g) :: st.rg } (E.setR q x) (.inl q) b → b ∈ bl) (hfr : ∀ b ∈ bl, (∀ x, ¬ Holds st E x b) ∧ (F.P0 b ∨ F.w0.heap.size ≤ b)) :
    Imp F st a w E (E.setR q x) [(q, g)] bl S := by
  have hn := hf.rg q hq
  have hrb : ∀ r g', lookR r st.rg = some g' → (E.setR q x).rb r = E.rb r := fun r g' hr => by
    show (if r = q then _ else _) = _
    rw [if_neg (fun e => by subst e; rw [hn] at hr; cases hr)]
  have mv : ∀ p, q ∉ ids p → Moves E (E.setR q x) (ids p) (bxs p) := fun p hp => ⟨fun r hr => if_neg (fun e => hp (by rw [← e]; exact hr)), fun _ _ => rfl⟩
  have back : ∀ y b, Holds st (E.setR q x) y b → Holds st E y b := by
    intro y b hH
    cases hH with
    | row h1 h2 h3 => exact .row h1 h2 ((hrb _ _ h1).symm.trans h3)
    | mp h1 h2 => exact .mp h1 ((hrb _ _ h1).symm.trans h2)
    | box h1 h2 => exact .box h1 h2
  have hk : Keeps w w E.X (E.setR q x).X := ⟨Nat.le_refl _, fun _ _ _ => rfl, fun _ _ hx => hx⟩
  have h1 : Rel F st a w (E.setR q x) := by
    refine ⟨h.defers, h.size, fun s p hp => ?_, fun b p hp => ?_, fun r g' hr => ?_, fun y z b hy hz => h.dist y z b (back _ _ hy) (back _ _ hz), h.named, h.since, fun y b hy => h.fresh y b (back _ _ hy), h.outer, h.pbox⟩
    · obtain ⟨v, k1, k2⟩ := h.slots s p hp
      exact ⟨v, k1, k2.keeps hk (mv p (fun hm => hf.sl s p hp q hm hq))⟩
    · obtain ⟨td, ad, k1, ⟨k2, k3, cur, et, cs, k4, k5, k6⟩⟩ := h.boxes b p hp
      exact ⟨td, ad, k1, k2, k3, cur, et, cs, k4, k5, k6.keeps hk (mv p (fun hm => hf.bx b p hp q hm hq))⟩
    · have h0 := h.regs r g' hr
      have e := hrb r g' hr
      cases g' with
      | row g' =>
        rcases h0 with ⟨k1, k2, e', k3⟩ | ⟨k1, e', ad, cap, k3, k4⟩
        · exact .inl ⟨k1, k2, e', e.trans k3⟩
        · exact .inr ⟨k1, e', ad, cap, e.trans k3, k4⟩
      | mp fz es =>
        obtain ⟨k, e', b, k1, k2⟩ := h0
        exact ⟨k, e', b, e.trans k1, k2⟩
  refine ⟨rfl, rfl, fun r hr => if_neg (fun e => hr (by rw [e]; exact hq)), ?_, ?_, fun r hr => ?_⟩
  · refine h1.addReg hn (hf.ok q hq) hg (fun b hH => ?_)
    obtain ⟨k1, k2⟩ := hfr b (hb b hH)
    exact ⟨fun y hy => k1 y (back _ _ hy), k2⟩
  · intro y b hH
    have hH0 := hH
    cases hH with
    | row h1 h2 h3 =>
      simp only [List.cons_append, List.nil_append, lookR] at h1
      split at h1
      · rename_i e; subst e; exact .inr (hb _ hH0)
      · exact .inl (back _ _ (.row h1 h2 h3))
    | mp h1 h2 =>
      simp only [List.cons_append, List.nil_append, lookR] at h1
      split at h1
      · rename_i e; subst e; exact .inr (hb _ hH0)
      · exact .inl (back _ _ (.mp h1 h2))
    | box h1 h2 => exact .inl (back _ _ (.box h1 h2))
  · simp only [List.cons_append, List.nil_append, lookR]
    rw [if_neg (fun e => hr (by rw [← e]; exact hq))]

mutual
theorem RC.imp_same {X : Nat → Prop} : ∀ {td : TD} {cs : List Value} {p : PV} (base : RId), RC w X td cs p → imp base p = (p, [])
  | _, _, _, _, .bool b => rfl
  | _, _, _, _, .int k n => rfl
  | _, _, _, _, .str s => rfl
  | _, _, _, base, .struct hs => by simp only [imp, RCs.imp_same base 0 hs]
  | _, _, _, _, .arr _ _ => rfl
  | _, _, _, _, .slnil => rfl
  | _, _, _, _, .sl .. => rfl
  | _, _, _, _, .mapnil => rfl
  | _, _, _, _, .map .. => rfl
  | _, _, _, _, .fn f => rfl
  | _, _, _, _, .nilfn => rfl
  | _, _, _, _, .nilptr => rfl
theorem RCs.imp_same {X : Nat → Prop} : ∀ {fs : List TD} {cs : List Value} {ps : List PV} (base : RId) (i : Nat), RCs w X fs cs ps → imps base i ps = (ps, [])
  | _, _, _, _, _, .nil => rfl
  | _, _, _, base, i, .cons h hs => by simp only [imps, RC.imp_same (base ++ [i]) h, RCs.imp_same base (i + 1) hs, List.append_nil]
end

theorem Imp.refl (h : Rel F st a w E) (S : RId → Prop) : Imp F st a w E E [] [] S := ⟨rfl, rfl, fun _ _ => rfl, by simpa using h, fun x b hx => .inl (by simpa using hx), fun _ _ => rfl⟩

mutual
theorem Rel.imp {X : Nat → Prop} : ∀ {td : TD} {cs : List Value} {u : PV} {bl : List Nat} (base : RId), RO w X td cs u bl → ∀ {st : St} {E : Env}, E.X = X → Rel F st a w E → Free st (Under base) → bl.Nodup →
    (∀ b ∈ bl, (∀ x, ¬ Holds st E x b) ∧ (F.P0 b ∨ F.w0.heap.size ≤ b)) →
    ∃ E', Imp F st a w E E' (Vm.imp base u).2 bl (Under base) ∧ RT w E' td cs (Vm.imp base u).1 ∧ (∀ q ∈ ids (Vm.imp base u).1, Under base q) ∧ bxs (Vm.imp base u).1 = []
  | _, _, _, _, base, .imm hc, st, E, hX, h, _, _, _ => by
    subst hX
    rw [RC.imp_same base hc]
    refine ⟨E, Imp.refl h _, .imm hc, fun q hq => ?_, hc.noIds.2⟩
    rw [hc.noIds.1] at hq
    cases hq
  | _, _, _, _, base, .struct hs, st, E, hX, h, hf, hn, hb => by
    obtain ⟨E', h1, h2, h3, h4⟩ := Rel.imps base 0 hs hX h (hf.less fun q ⟨j, _, hq⟩ => hq.next) hn hb
    refine ⟨E', ⟨h1.X, h1.bb, fun q hq => h1.rb q (fun ⟨j, _, hj⟩ => hq hj.next), h1.rel, h1.held, fun q hq => h1.keys q (fun ⟨j, _, hj⟩ => hq hj.next)⟩, .struct h2, fun q hq => ?_, by simpa only [Vm.imp, bxs] using h4⟩
    obtain ⟨j, _, hj⟩ := h3 q (by simpa only [Vm.imp, ids] using hq)
    exact hj.next
  | _, _, _, _, base, .ownnil (e := e), st, E, hX, h, hf, hn, hb => by
    have hrb : (E.setR base (.row e (.slice none 0 0))).rb base = some (.row e (.slice none 0 0)) := by show (if _ then _ else _) = _; rw [if_pos rfl]
    refine ⟨E.setR base (.row e (.slice none 0 0)), Rel.imp1 (q := base) (x := .row e (.slice none 0 0)) (g := .row ⟨true, false, []⟩) h hf ⟨[], by simp⟩ (.inl ⟨rfl, rfl, e, hrb⟩) (fun b hH => ?_) hb, .ref hrb rfl, fun q hq => ?_, rfl⟩
    · cases hH with
      | row k1 k2 k3 => rw [hrb] at k3; cases k3
      | mp k1 k2 => rw [hrb] at k2; cases k2
    · simp only [Vm.imp, ids, List.mem_singleton] at hq
      exact ⟨[], by simp [hq]⟩
  | _, _, _, _, base, .own (e := e) (ad := ad) (cap := cap) (xs := xs) hr, st, E, hX, h, hf, hn, hb => by
    subst hX
    have hrb : (E.setR base (.row e (.slice (some ad) xs.length cap))).rb base = some (.row e (.slice (some ad) xs.length cap)) := by show (if _ then _ else _) = _; rw [if_pos rfl]
    refine ⟨E.setR base (.row e (.slice (some ad) xs.length cap)), Rel.imp1 (q := base) (x := .row e (.slice (some ad) xs.length cap)) (g := .row ⟨false, false, xs⟩) h hf ⟨[], by simp⟩ (.inr ⟨rfl, e, ad, cap, hrb, .inl ⟨rfl, hr⟩⟩) (fun b hH => ?_) hb, .ref hrb rfl, fun q hq => ?_, rfl⟩
    · cases hH with
      | row k1 k2 k3 =>
        rw [hrb] at k3
        injection k3 with k3
        injection k3 with _ k3
        injection k3 with k3
        injection k3 with k3
        subst k3
        simp
      | mp k1 k2 => rw [hrb] at k2; cases k2
    · simp only [Vm.imp, ids, List.mem_singleton] at hq
      exact ⟨[], by simp [hq]⟩
  | _, _, _, _, base, .omap (k := k) (e := e) (b := b) (es := es) (ms := ms) (clock := clock) hXb hm hc, st, E, hX, h, hf, hn, hb => by
    subst hX
    have hrb : (E.setR base (.mp k e b)).rb base = some (.mp k e b) := by show (if _ then _ else _) = _; rw [if_pos rfl]
    refine ⟨E.setR base (.mp k e b), Rel.imp1 (q := base) (x := .mp k e b) (g := .mp false es) h hf ⟨[], by simp⟩ ⟨k, e, b, hrb, .inl ⟨rfl, hXb, ms, clock, hm, hc⟩⟩ (fun c hH => ?_) hb, .mref hrb, fun q hq => ?_, rfl⟩
    · cases hH with
      | row k1 k2 k3 => rw [hrb] at k3; cases k3
      | mp k1 k2 => rw [hrb] at k2; injection k2 with k2; injection k2 with _ _ k2; subst k2; simp
    · simp only [Vm.imp, ids, List.mem_singleton] at hq
      exact ⟨[], by simp [hq]⟩
theorem Rel.imps {X : Nat → Prop} : ∀ {fs : List TD} {cs : List Value} {us : List PV} {bl : List Nat} (base : RId) (i : Nat), ROs w X fs cs us bl → ∀ {st : St} {E : Env}, E.X = X → Rel F st a w E → Free st (fun q => ∃ j, i ≤ j ∧ Under (base ++ [j]) q) → bl.Nodup →
    (∀ b ∈ bl, (∀ x, ¬ Holds st E x b) ∧ (F.P0 b ∨ F.w0.heap.size ≤ b)) →
    ∃ E', Imp F st a w E E' (Vm.imps base i us).2 bl (fun q => ∃ j, i ≤ j ∧ Under (base ++ [j]) q) ∧ RTs w E' fs cs (Vm.imps base i us).1 ∧ (∀ q ∈ idss (Vm.imps base i us).1, ∃ j, i ≤ j ∧ Under (base ++ [j]) q) ∧ bxss (Vm.imps base i us).1 = []
  | _, _, _, _, base, i, .nil, st, E, hX, h, _, _, _ => ⟨E, Imp.refl h _, .nil, fun q hq => by simp [Vm.imps, idss] at hq, rfl⟩
  | _, _, _, _, base, i, .cons (p := p) (ps := ps) (bl := bl) (bm := bm) hc hs, st, E, hX, h, hf, hn, hb => by
    obtain ⟨n1, n2, n3⟩ := List.nodup_append.1 hn
    obtain ⟨E2, h1, h2, h3, h4⟩ := Rel.imps base (i + 1) hs hX h (hf.less fun q ⟨j, hj, hq⟩ => ⟨j, by omega, hq⟩) n2 (fun b hb' => hb b (by simp [hb']))
    have hf2 : Free { st with rg := (Vm.imps base (i + 1) ps).2 ++ st.rg } (Under (base ++ [i])) := by
      refine ⟨fun q hq => ?_, fun s p hp r hr hS => hf.sl s p hp r hr ⟨i, Nat.le_refl _, hS⟩, fun s p hp r hr hS => hf.bx s p hp r hr ⟨i, Nat.le_refl _, hS⟩, fun q hq => ?_⟩
      · show lookR q (_ ++ st.rg) = none
        rw [h1.keys q (fun ⟨j, hj, hq'⟩ => by have := hq.apart hq'; omega)]
        exact hf.rg q ⟨i, Nat.le_refl _, hq⟩
      · exact (hf.ok q ⟨i, Nat.le_refl _, hq⟩).mono (fun s v hv => ⟨v, hv⟩) (fun s v hv => ⟨v, hv⟩)
    obtain ⟨E', k1, k2, k3, k4⟩ := Rel.imp (base ++ [i]) hc (h1.X.trans hX) h1.rel hf2 n1 (fun b hb' => by
      obtain ⟨m1, m2⟩ := hb b (by simp [hb'])
      refine ⟨fun x hx => ?_, m2⟩
      rcases h1.held x b hx with h5 | h5
      · exact m1 x h5
      · exact n3 b hb' b h5 rfl)
    have hk : Keeps w w E2.X E'.X := by rw [k1.X]; exact ⟨Nat.le_refl _, fun _ _ _ => rfl, fun _ _ hx => hx⟩
    refine ⟨E', ⟨k1.X.trans h1.X, k1.bb.trans h1.bb, fun q hq => ?_, ?_, fun x b hx => ?_, fun q hq => ?_⟩, ?_, fun q hq => ?_, ?_⟩
    · rw [k1.rb q (fun hu => hq ⟨i, Nat.le_refl _, hu⟩), h1.rb q (fun ⟨j, hj, hu⟩ => hq ⟨j, by omega, hu⟩)]
    · simpa only [Vm.imps, List.append_assoc] using k1.rel
    · simp only [Vm.imps, List.append_assoc] at hx
      rcases k1.held x b hx with h5 | h5
      · rcases h1.held x b h5 with h6 | h6
        · exact .inl h6
        · exact .inr (by simp [h6])
      · exact .inr (by simp [h5])
    · simp only [Vm.imps, List.append_assoc]
      rw [k1.keys q (fun hu => hq ⟨i, Nat.le_refl _, hu⟩)]
      exact h1.keys q (fun ⟨j, hj, hu⟩ => hq ⟨j, by omega, hu⟩)
    · simp only [Vm.imps]
      refine .cons k2 (h2.keeps hk ⟨fun r hr => k1.rb r (fun hu => ?_), fun b hb' => by rw [h4] at hb'; cases hb'⟩)
      obtain ⟨j, hj, hu'⟩ := h3 r hr
      have := hu.apart hu'
      omega
    · simp only [Vm.imps, idss, List.mem_append] at hq
      rcases hq with hq | hq
      · exact ⟨i, Nat.le_refl _, k3 q hq⟩
      · obtain ⟨j, hj, hu⟩ := h3 q hq
        exact ⟨j, by omega, hu⟩
    · simp only [Vm.imps, bxss, k4, h4, List.append_nil]
end
end Go.Vm
end
section
set_option linter.unusedSimpArgs false
set_option linter.unusedVariables false
namespace Go.Vm
variable {P : Program} {F : Fr} {w w' : World} {st st' : St} {a a' : Act} {E E' : Env} {K : Act → World → Prop} {Q : Exit → Act → World → Prop} {o : Oper} {C : Nat → List PV → Option (PV × List PV)}

/-- States that look alike. -/
structure Same (st st' : St) : Prop where
  sl : ∀ k, look k st'.sl = look k st.sl
  bx : ∀ k, look k st'.bx = look k st.bx
  rg : ∀ k, lookR k st'.rg = lookR k st.rg
theorem Same.symm (h : Same st st') : Same st' st := ⟨fun k => (h.sl k).symm, fun k => (h.bx k).symm, fun k => (h.rg k).symm⟩
theorem OkId.same (hs : Same st st') {r : RId} (h : OkId st r) : OkId st' r := h.mono (fun s v hv => ⟨v, by rw [hs.sl]; exact hv⟩) (fun s v hv => ⟨v, by rw [hs.bx]; exact hv⟩)
theorem Ok.same (hs : Same st st') {p : PV} (h : Ok st p) : Ok st' p := ⟨fun r hr => (h.1 r hr).same hs, fun b hb => by obtain ⟨x, hx⟩ := h.2 b hb; exact ⟨x, by rw [hs.bx]; exact hx⟩⟩
theorem Holds.same (hs : Same st st') {x : RId ⊕ Nat} {b : Nat} (h : Holds st E x b) : Holds st' E x b := by
  cases h with
  | row h1 h2 h3 => exact .row (by rw [hs.rg]; exact h1) h2 h3
  | mp h1 h2 => exact .mp (by rw [hs.rg]; exact h1) h2
  | box h1 h2 => exact .box (by rw [hs.bx]; exact h1) h2
theorem Rel.same (h : Rel F st a w E) (hs : Same st st') : Rel F st' a w E where
  defers := h.defers
  size := h.size
  slots s p hp := h.slots s p (by rw [← hs.sl]; exact hp)
  boxes b p hp := h.boxes b p (by rw [← hs.bx]; exact hp)
  regs r g hg := h.regs r g (by rw [← hs.rg]; exact hg)
  dist x y b hx hy := h.dist x y b (hx.same hs.symm) (hy.same hs.symm)
  named := ⟨fun s v hv => Ok.same hs (h.named.sl s v (by rw [← hs.sl]; exact hv)), fun s v hv => Ok.same hs (h.named.bx s v (by rw [← hs.bx]; exact hv)), fun r g hg => (h.named.rg r g (by rw [← hs.rg]; exact hg)).same hs⟩
  since := h.since
  fresh x b hx := h.fresh x b (hx.same hs.symm)
  outer := h.outer
  pbox b x y h1 h2 := h.pbox b x y h1 (by rw [← hs.bx]; exact h2)

/-! ### Arguments -/
inductive ArgR (w : World) (X : Nat → Prop) : TD → Value → PV → List Nat → Prop
  | imm {td : TD} {cs : List Value} {v : Value} {p : PV} (h : RC w X td cs p) (hv : v = td.valOf cs) : ArgR w X td v p []
  | rptr {td : TD} {ad : Addr} {cs : List Value} {x : PV} (hX : ¬ X ad.block ∧ ad.block < w.heap.size) (hc : CellsAt w ad cs) (h : RC w X td cs x) : ArgR w X (.ptr td) (.pointer (some ad)) (.rptr x) []
  | inout {td : TD} {ad : Addr} {cur : Array Value} {et : TypeId} {cs : List Value} {y : PV} {bl : List Nat} (hX : X ad.block) (hs : ad.spot = none) (hb : w.heap[ad.block]? = some (.cells cur et (0, 0))) (hc : CellsIn cur ad.off cs)
      (h : RO w X td cs y bl) : ArgR w X (.ptr td) (.pointer (some ad)) (.inout y) (ad.block :: bl)
inductive ArgsR (w : World) (X : Nat → Prop) : List TD → List Value → List PV → List Nat → Prop
  | nil : ArgsR w X [] [] [] []
  | cons {t : TD} {ts : List TD} {v : Value} {vs : List Value} {p : PV} {ps : List PV} {bl bm : List Nat} (h : ArgR w X t v p bl) (hs : ArgsR w X ts vs ps bm) : ArgsR w X (t :: ts) (v :: vs) (p :: ps) (bl ++ bm)
def isInout : PV → Bool
  | .inout _ => true
  | _ => false
/-- The boxes that were handed over, as the call leaves them. -/
inductive OutsR (w : World) (X : Nat → Prop) : List TD → List Value → List PV → List PV → List Nat → Prop
  | nil : OutsR w X [] [] [] [] []
  | skip {t : TD} {ts : List TD} {v : Value} {vs : List Value} {p : PV} {ps os : List PV} {bl : List Nat} (hp : isInout p = false) (hs : OutsR w X ts vs ps os bl) : OutsR w X (t :: ts) (v :: vs) (p :: ps) os bl
  | inout {td : TD} {ts : List TD} {ad : Addr} {vs : List Value} {y y' : PV} {ps os : List PV} {cur : Array Value} {et : TypeId} {cs : List Value} {bl bm : List Nat} (hX : X ad.block) (hsp : ad.spot = none)
      (hb : w.heap[ad.block]? = some (.cells cur et (0, 0))) (hc : CellsIn cur ad.off cs) (h : RO w X td cs y' bl) (hs : OutsR w X ts vs ps os bm) :
      OutsR w X (.ptr td :: ts) (.pointer (some ad) :: vs) (.inout y :: ps) (y' :: os) ((ad.block :: bl) ++ bm)

/-- What a function of the interpreter's says of the machine's. -/
def Serves (P : Program) (T : Nat → Option (List TD × TD)) (C : Nat → List PV → Option (PV × List PV)) : Prop :=
  ∀ (f : Nat) (params : List TD) (ret : TD) (ps : List PV) (r : PV) (outs : List PV) (vs : List Value) (w : World) (X : Nat → Prop) (hb : List Nat), T f = some (params, ret) → C f ps = some (r, outs) → ArgsR w X params vs ps hb → hb.Nodup →
    Calls P f vs.toArray w (fun e w' => ∃ v X' bl ol, e = .returned v ∧ Since w w' (fun b => b ∈ hb) ∧ Keeps w w' X X' ∧ (∀ b, X b → b < w.heap.size → b ∉ hb → X' b) ∧ ROV w' X' ret v r bl ∧ OutsR w' X' params vs ps outs ol ∧ (bl ++ ol).Nodup ∧
      ∀ b ∈ bl ++ ol, b ∈ hb ∨ w.heap.size ≤ b)

theorem RO.one {X : Nat → Prop} {td : TD} {cs : List Value} {p : PV} {bl : List Nat} (h : RO w X td cs p bl) : True := trivial
mutual
theorem RO.ones {X : Nat → Prop} : ∀ {td : TD} {cs : List Value} {p : PV} {bl : List Nat}, RO w X td cs p bl → ∀ c ∈ cs, c.oneCell' = true
  | _, _, _, _, .imm h => h.one
  | _, _, _, _, .struct h => ROs.ones h
  | _, _, _, _, .ownnil => by simp [Value.oneCell']
  | _, _, _, _, .own _ => by simp [Value.oneCell']
  | _, _, _, _, .omap _ _ _ => by simp [Value.oneCell']
theorem ROs.ones {X : Nat → Prop} : ∀ {ts : List TD} {cs : List Value} {ps : List PV} {bl : List Nat}, ROs w X ts cs ps bl → ∀ c ∈ cs, c.oneCell' = true
  | _, _, _, _, .nil => by simp
  | _, _, _, _, .cons h hs => by
    intro c hc
    rcases List.mem_append.1 hc with hc | hc
    · exact RO.ones h c hc
    · exact ROs.ones hs c hc
end

/-- The state in which a call begins has nothing but its arguments. -/
structure Low (st : St) (i : Nat) : Prop where
  sl : ∀ k v, look k st.sl = some v → i ≤ k
  bx : ∀ k v, look k st.bx = some v → i ≤ k

theorem ArgsR.enter {X : Nat → Prop} (hw : F.w0 = w) (hsz : a.tmps.size = F.N) (hdf : a.defers = []) (hX0 : F.X0 = X) : ∀ {ts : List TD} {vs : List Value} {ps : List PV} {hb : List Nat} {i : Nat}, ArgsR w X ts vs ps hb → hb.Nodup → (∀ b ∈ hb, F.P0 b) →
    (∀ j v, vs[j]? = some v → a.tmps[i + j]? = some v) → (∀ j t, ts[j]? = some t → F.Γ (i + j) = t) → i + ts.length ≤ F.N →
    (∀ j td ad y, ts[j]? = some (.ptr td) → vs[j]? = some (.pointer (some ad)) → ps[j]? = some (.inout y) → F.PB (i + j) = some (td, ad)) →
    (∀ j x, F.PB (i + j) = some x → ∃ y, ps[j]? = some (.inout y)) →
    ∃ E, E.X = X ∧ Rel F (enterA i ps) a w E ∧ Low (enterA i ps) i ∧ (∀ x b, Holds (enterA i ps) E x b → b ∈ hb)
  | _, _, _, _, i, .nil, _, _, _, _, _, _, _ => by
    refine ⟨⟨X, fun _ => none, fun _ => none⟩, rfl, ?_, ⟨by simp [enterA, look], by simp [enterA, look]⟩, ?_⟩
    · refine ⟨hdf, hsz, by simp [enterA, look], by simp [enterA, look], by simp [enterA, lookR], ?_, ⟨by simp [enterA, look], by simp [enterA, look], by simp [enterA, lookR]⟩, by rw [hw]; exact Since.refl _ _, ?_, fun b h1 h2 h3 => by rw [← hX0]; exact h1, by simp [enterA, look]⟩
      · intro x y b hx
        cases hx with
        | row h => simp [enterA, lookR] at h
        | mp h => simp [enterA, lookR] at h
        | box h => simp [enterA, look] at h
      · intro x b hx
        cases hx with
        | row h => simp [enterA, lookR] at h
        | mp h => simp [enterA, lookR] at h
        | box h => simp [enterA, look] at h
    · intro x b hx
      cases hx with
      | row h => simp [enterA, lookR] at h
      | mp h => simp [enterA, lookR] at h
      | box h => simp [enterA, look] at h
  | _, _, _, _, i, .cons (t := t) (ts := ts) (v := v) (vs := vs) (p := p) (ps := ps) (bl := bl) (bm := bm) h hs, hn, hP, hv, hΓ, hN, hpb, hpb' => by
    obtain ⟨n1, n2, n3⟩ := List.nodup_append.1 hn
    obtain ⟨E, e1, e2, e3, e4⟩ := ArgsR.enter hw hsz hdf hX0 (i := i + 1) hs n2 (fun b hb => hP b (by simp [hb])) (fun j v hj => by rw [show i + 1 + j = i + (j + 1) by omega]; exact hv (j + 1) v (by simpa using hj))
      (fun j t hj => by rw [show i + 1 + j = i + (j + 1) by omega]; exact hΓ (j + 1) t (by simpa using hj)) (by simp only [List.length_cons] at hN; omega)
      (fun j td ad y h1 h2 h3 => by rw [show i + 1 + j = i + (j + 1) by omega]; exact hpb (j + 1) td ad y (by simpa using h1) (by simpa using h2) (by simpa using h3))
      (fun j x hx => by rw [show i + 1 + j = i + (j + 1) by omega] at hx; obtain ⟨y, hy⟩ := hpb' (j + 1) x hx; exact ⟨y, by simpa using hy⟩)
    have hget := hv 0 v rfl
    have hty := hΓ 0 t rfl
    simp only [Nat.add_zero] at hget hty
    have hiN : i < F.N := by simp only [List.length_cons] at hN; omega
    have hlk : look i (enterA (i + 1) ps).sl = none := by
      cases e : look i (enterA (i + 1) ps).sl with
      | none => rfl
      | some v => have := e3.sl _ _ e; omega
    have hlb : look i (enterA (i + 1) ps).bx = none := by
      cases e : look i (enterA (i + 1) ps).bx with
      | none => rfl
      | some v => have := e3.bx _ _ e; omega
    have plain : ∀ q, isInout p = false → p = q → RV w E t v q → Ok (enterA (i + 1) ps) q → ∃ E, E.X = X ∧ Rel F (enterA i (p :: ps)) a w E ∧ Low (enterA i (p :: ps)) i ∧ (∀ x b, Holds (enterA i (p :: ps)) E x b → b ∈ bl ++ bm) := by
      rintro q hq rfl hrv hok
      have he : enterA i (p :: ps) = ⟨(i, p) :: (enterA (i + 1) ps).sl, (enterA (i + 1) ps).bx, (enterA (i + 1) ps).rg⟩ := by
        cases p <;> first | rfl | simp [isInout] at hq
      have h1 := e2.setS (d := i) (v := v) (p := p) hiN hget (by rw [hty]; exact hrv) hok.put
      have hsame : Same { enterA (i + 1) ps with sl := put i p (enterA (i + 1) ps).sl } (enterA i (p :: ps)) := by
        rw [he]
        refine ⟨fun k => ?_, fun k => rfl, fun k => rfl⟩
        simp only [look_put, look]
      refine ⟨E, e1, h1.same hsame, ⟨fun k v hk => ?_, fun k v hk => ?_⟩, fun x b hx => ?_⟩
      · rw [he] at hk
        simp only [look] at hk
        split at hk
        · omega
        · have := e3.sl _ _ hk; omega
      · rw [he] at hk
        have := e3.bx _ _ hk
        omega
      · have hx' := hx.same hsame.symm
        have : Holds (enterA (i + 1) ps) E x b := by
          cases hx' with
          | row h1 h2 h3 => exact .row h1 h2 h3
          | mp h1 h2 => exact .mp h1 h2
          | box h1 h2 => exact .box h1 h2
        simp [e4 x b this]
    cases h with
    | imm hc hvv =>
      have hni : isInout p = false := by
        cases hc <;> rfl
      exact plain p hni rfl (.cells (.imm (by rw [e1]; exact hc)) hvv) hc.ok
    | rptr hX hc hr =>
      exact plain _ rfl rfl (.cells (cs := [_]) (.rptr (by rw [e1]; exact hX) hc (by rw [e1]; exact hr)) rfl) (Ok.of_nil rfl rfl)
    | inout hX hsp hb hc hr =>
      rename_i td ad cur et cs y bl
      have hPB := hpb 0 td ad y rfl rfl rfl
      simp only [Nat.add_zero] at hPB
      generalize hst : enterA (i + 1) ps = st at *
      have hnob : ∀ q, Under [1, i] q → ¬ OkId st q := by
        rintro q ⟨s, rfl⟩ (⟨s', p', v', e, _⟩ | ⟨b', p', v', e, hv'⟩)
        · simp at e
        · simp only [List.cons_append, List.nil_append, List.cons.injEq, true_and] at e
          rw [← e.1, hlb] at hv'
          cases hv'
      -- the box's place
      have h1 : Rel F st a w (E.setB i td ad) := e2.extend (E' := E.setB i td ad) ⟨Nat.le_refl _, fun _ _ _ => rfl, fun _ _ hx => hx⟩ (fun x b hx => ⟨rfl, e2.held_own hx⟩) (fun _ _ => rfl)
        (fun b x hx => if_neg (fun e => by subst e; rw [hlb] at hx; cases hx)) e2.since e2.outer
      have hbi : (E.setB i td ad).bb i = some (td, ad) := if_pos rfl
      have hback : ∀ x b, Holds st (E.setB i td ad) x b → Holds st E x b := by
        intro x b hx
        cases hx with
        | row k1 k2 k3 => exact .row k1 k2 k3
        | mp k1 k2 => exact .mp k1 k2
        | box k1 k2 =>
          exact .box k1 (Eq.trans (Eq.symm (if_neg (fun e => by rw [e] at k1; rw [hlb] at k1; cases k1))) k2)
      have hfree : ∀ c ∈ ad.block :: bl, ∀ x, ¬ Holds st (E.setB i td ad) x c := fun c hc x hx => n3 c hc c (e4 x c (hback x c hx)) rfl
      have hbr : BoxRep w (E.setB i td ad) td ad .dead := ⟨by show E.X _; rw [e1]; exact hX, hsp, cur, et, cs, hb, hc, .dead hr.length hr.ones⟩
      have h2 := h1.addBox (d := i) (p := .dead) hlb hbi hbr (Ok.of_nil rfl rfl) ⟨hfree _ (by simp), .inl (hP _ (by simp))⟩ (fun x hx => by rw [hPB] at hx; rw [hbi]; exact hx)
      have h3 := h2.setS (d := i) (v := .pointer (some ad)) (p := .ptr i []) hiN hget (by rw [hty]; exact .cells (cs := [_]) (RT.ptr (path := []) hbi rfl) rfl)
        ⟨by simp [ids], fun b hb => by simp only [bxs, List.mem_singleton] at hb; subst hb; simp [look]⟩
      -- its regions
      have hfr : Free { st with sl := put i (.ptr i []) st.sl, bx := (i, .dead) :: st.bx } (Under [1, i]) := by
        refine ⟨fun q hq => ?_, fun s p' hp r hr' hS => ?_, fun s p' hp r hr' hS => ?_, fun q hq => ?_⟩
        · cases e : lookR q st.rg with
          | none => rfl
          | some g => exact absurd (e2.named.rg q g e) (hnob q hq)
        · simp only [look_put] at hp
          split at hp
          · injection hp with hp; subst hp; simp [ids] at hr'
          · exact hnob r hS ((e2.named.sl s p' hp).1 r hr')
        · simp only [look] at hp
          split at hp
          · injection hp with hp; subst hp; simp [ids] at hr'
          · exact hnob r hS ((e2.named.bx s p' hp).1 r hr')
        · obtain ⟨s, rfl⟩ := hq
          exact .inr ⟨i, s, .dead, rfl, by simp [look]⟩
      have hback3 : ∀ x b, Holds { st with sl := put i (.ptr i []) st.sl, bx := (i, .dead) :: st.bx } (E.setB i td ad) x b → b = ad.block ∨ Holds st (E.setB i td ad) x b := by
        intro x b hx
        cases hx with
        | row k1 k2 k3 => exact .inr (.row k1 k2 k3)
        | mp k1 k2 => exact .inr (.mp k1 k2)
        | box k1 k2 =>
          simp only [look] at k1
          split at k1
          · rename_i e; subst e; rw [hbi] at k2; injection k2 with k2; injection k2 with _ k2; subst k2; exact .inl rfl
          · exact .inr (.box k1 k2)
      obtain ⟨m1, m2⟩ := List.nodup_cons.1 n1
      obtain ⟨E', k1, k2, k3, k4⟩ := Rel.imp [1, i] hr (E := E.setB i td ad) e1 h3 hfr m2 (fun b hb' => ⟨fun x hx => by
        rcases hback3 x b hx with e | e
        · subst e; exact m1 hb'
        · exact hfree b (by simp [hb']) x e, .inl (hP b (by simp [hb']))⟩)
      have hX' : E'.X = X := k1.X.trans e1
      have h4 := k1.rel.setB (b := i) (q := .dead) (p := (Vm.imp [1, i] y).1) (td := td) (ad := ad) (by simp [look]) (by rw [k1.bb]; exact hbi)
        ⟨by rw [hX']; exact hX, hsp, cur, et, cs, hb, hc, k2⟩
        ⟨fun r hr' => by
          obtain ⟨s, e⟩ := k3 r hr'
          rw [e]
          exact .inr ⟨i, s, .dead, rfl, by simp [look]⟩, fun b hb' => by rw [k4] at hb'; cases hb'⟩
      have he : enterA i (.inout y :: ps) = ⟨(i, .ptr i []) :: st.sl, (i, (Vm.imp [1, i] y).1) :: st.bx, (Vm.imp [1, i] y).2 ++ st.rg⟩ := by
        rw [← hst]; rfl
      have hsame : Same { sl := put i (.ptr i []) st.sl, bx := put i (Vm.imp [1, i] y).1 ((i, .dead) :: st.bx), rg := (Vm.imp [1, i] y).2 ++ st.rg } (enterA i (.inout y :: ps)) := by
        rw [he]
        refine ⟨fun k => ?_, fun k => ?_, fun k => rfl⟩
        · simp only [look_put, look]
        · simp only [put, if_true]
      refine ⟨E', hX', h4.same hsame, ⟨fun k v hk => ?_, fun k v hk => ?_⟩, fun x b hx => ?_⟩
      · rw [he] at hk
        simp only [look] at hk
        split at hk
        · omega
        · have := e3.sl _ _ hk; omega
      · rw [he] at hk
        simp only [look] at hk
        split at hk
        · omega
        · have := e3.bx _ _ hk; omega
      · have hx' := hx.same hsame.symm
        have h5 : Holds { sl := put i (.ptr i []) st.sl, bx := (i, .dead) :: st.bx, rg := (Vm.imp [1, i] y).2 ++ st.rg } E' x b := by
          cases hx' with
          | row h1 h2 h3 => exact .row h1 h2 h3
          | mp h1 h2 => exact .mp h1 h2
          | box h1 h2 =>
            simp only [put, if_true, look] at h1
            split at h1
            · rename_i e; subst e; exact .box (p := .dead) (by simp [look]) h2
            · rename_i e; exact .box (p := ‹_›) (by simp only [look]; rw [if_neg e]; exact h1) h2
        rcases k1.held x b h5 with h6 | h6
        · rcases hback3 x b h6 with e | e
          · subst e; simp
          · simp [e4 x b (hback x b e)]
        · simp [h6]
end Go.Vm
end
section
set_option linter.unusedSimpArgs false
set_option linter.unusedVariables false
namespace Go.Vm
variable {P : Program} {F : Fr} {w w' : World} {st st' : St} {a a' : Act} {E E' : Env} {K : Act → World → Prop} {Q : Exit → Act → World → Prop} {o : Oper} {C : Nat → List PV → Option (PV × List PV)}

theorem exp_live {p q : PV} {l : List RId} (h : st.exp p = some (q, l)) : p.live = true := by
  cases p <;> first | rfl | simp [St.exp] at h

def notTup : TD → Bool
  | .tup _ => false
  | _ => true
theorem notTup_spec {td : TD} (h : notTup td = true) : ∀ ts, td ≠ .tup ts := by rintro ts rfl; simp [notTup] at h

/-- Results: the machine's and the interpreter's. -/
def resOk (P : Program) (Γ : Nat → TD) : List ResultVar → List VRes → List TD → Bool
  | [], [], [] => true
  | .tmp k :: rs, .slot j :: vs, t :: ts => decide (k = j) && tdEq (Γ k) t && notTup t && resOk P Γ rs vs ts
  | .cell k ty :: rs, .cell j :: vs, t :: ts => decide (k = j) && tdEq (Γ k) (.ptr t) && chkTD P t ty && resOk P Γ rs vs ts
  | _, _, _ => false

def resM (tmps : Array Value) : ResultVar → Sem Value
  | .tmp t => pure (tmps.getD t undef)
  | .cell a t => do loadVar t (← asAddr (tmps.getD a undef))

theorem resV_sound (h : Rel F st a w E) : ∀ {rs : List ResultVar} {res : List VRes} {ts : List TD} {vs us : List PV} {l : List RId}, resOk P F.Γ rs res ts = true → resV st res = some vs → st.exps vs = some (us, l) →
    ∃ (ms : List Value) (bl : List Nat), (rs.mapM (resM a.tmps)).run P w = .ok ms w ∧ ROVs w E.X ts ms us bl ∧ Own st E l bl
  | [], [], [], vs, us, l, _, hr, he => by
    simp only [resV, Option.some.injEq] at hr
    subst hr
    simp only [St.exps, Option.some.injEq, Prod.mk.injEq] at he
    obtain ⟨rfl, rfl⟩ := he
    exact ⟨[], [], by simp, .nil, Own.nil⟩
  | .tmp k :: rs, .slot j :: res, t :: ts, vs, us, l, hok, hr, he => by
    simp only [resOk, Bool.and_eq_true, decide_eq_true_eq] at hok
    obtain ⟨⟨⟨rfl, ht⟩, hnt⟩, hok⟩ := hok
    simp only [resV] at hr
    split at hr
    · rename_i v hv
      split at hr
      · rename_i l' hl'
        injection hr with hr
        subst hr
        simp only [St.exps] at he
        split at he
        · rename_i y l1 hy
          split at he
          · rename_i ys m hys
            simp only [Option.some.injEq, Prod.mk.injEq] at he
            obtain ⟨rfl, rfl⟩ := he
            obtain ⟨mv, g1, g2⟩ := h.slots _ _ hv
            rw [tdEq_eq ht] at g2
            obtain ⟨cs, g3, g4, _⟩ := g2.rt (exp_live hy) (notTup_spec hnt)
            obtain ⟨bl, g5, g6⟩ := RT.exp h g3 hy
            obtain ⟨ms, bm, k1, k2, k3⟩ := resV_sound h hok hl' hys
            refine ⟨mv :: ms, bl ++ bm, ?_, .cons g5 g4 k2, g6.append h k3⟩
            rw [List.mapM_cons]
            simp only [resM, Array.getD_eq_getD_getElem?, g1, Option.getD_some, Sem.run_bind, Sem.run_pure, Result.andThen_ok, k1]
          · cases he
        · cases he
      · cases hr
    · cases hr
  | .cell k ty :: rs, .cell j :: res, t :: ts, vs, us, l, hok, hr, he => by
    simp only [resOk, Bool.and_eq_true, decide_eq_true_eq] at hok
    obtain ⟨⟨⟨rfl, ht⟩, hc⟩, hok⟩ := hok
    simp only [resV] at hr
    split at hr
    · rename_i b p hv
      split at hr
      · rename_i v hb
        split at hr
        · rename_i u hu
          split at hr
          · rename_i l' hl'
            injection hr with hr
            subst hr
            simp only [St.exps] at he
            split at he
            · rename_i y l1 hy
              split at he
              · rename_i ys m hys
                simp only [Option.some.injEq, Prod.mk.injEq] at he
                obtain ⟨rfl, rfl⟩ := he
                obtain ⟨mv, g1, g2⟩ := h.slots _ _ hv
                rw [tdEq_eq ht] at g2
                obtain ⟨t', td0, ad, off, e1, e2, e3, e4⟩ := g2.ptr
                injection e1 with e1
                subst e1
                obtain ⟨td1, ad1, k1, k2, k3, cur, et, cs, k4, k5, k6⟩ := h.boxes _ _ hb
                rw [e3] at k1
                injection k1 with k1
                injection k1 with k1 k1'
                subst k1 k1'
                have hrt := k6.get e4 hu
                obtain ⟨bl, g5, g6⟩ := RT.exp h hrt hy
                obtain ⟨ms, bm, n1, n2, n3⟩ := resV_sound h hok hl' hys
                refine ⟨t.valOf (seg off t.size cs) :: ms, bl ++ bm, ?_, .cons g5 rfl n2, g6.append h n3⟩
                have hload := loadVar_run (P := P) hc hrt.length (CellsAt.of_in k3 k4 k5.seg)
                rw [List.mapM_cons]
                simp only [resM, Array.getD_eq_getD_getElem?, g1, Option.getD_some, e2, asAddr, Sem.run_bind, Sem.run_pure, Result.andThen_ok, hload, n1]
              · cases he
            · cases he
          · cases hr
        · cases hr
      · cases hr
    · cases hr
  | [], _ :: _, _, _, _, _, hok, _, _ => by simp [resOk] at hok
  | [], [], _ :: _, _, _, _, hok, _, _ => by simp [resOk] at hok
  | .tmp _ :: _, [], _, _, _, _, hok, _, _ => by simp [resOk] at hok
  | .cell _ _ :: _, [], _, _, _, _, hok, _, _ => by simp [resOk] at hok
  | .tmp _ :: _, .cell _ :: _, _, _, _, _, hok, _, _ => by simp [resOk] at hok
  | .cell _ _ :: _, .slot _ :: _, _, _, _, _, hok, _, _ => by simp [resOk] at hok
  | .tmp _ :: _, .slot _ :: _, [], _, _, _, hok, _, _ => by simp [resOk] at hok
  | .cell _ _ :: _, .cell _ :: _, [], _, _, _, hok, _, _ => by simp [resOk] at hok

def retOf : List TD → TD
  | [t] => t
  | l => .tup l
theorem ROVs.lengths {X : Nat → Prop} : ∀ {ts : List TD} {vs : List Value} {ps : List PV} {bl : List Nat}, ROVs w X ts vs ps bl → vs.length = ts.length ∧ ps.length = ts.length
  | _, _, _, _, .nil => ⟨rfl, rfl⟩
  | _, _, _, _, .cons h hv hs => by
    obtain ⟨h1, h2⟩ := hs.lengths
    exact ⟨by simp [h1], by simp [h2]⟩
theorem ROVs.pack {X : Nat → Prop} {ts : List TD} {vs : List Value} {ps : List PV} {bl : List Nat} (h : ROVs w X ts vs ps bl) :
    ROV w X (retOf ts) (if h : vs.toArray.size = 1 then vs.toArray[0] else .tuple vs.toArray) (packR ps) bl := by
  cases h with
  | nil => exact .tup .nil
  | cons h hv hs =>
    cases hs with
    | nil =>
      simp only [List.append_nil]
      exact .cells h hv
    | cons h2 hv2 hs2 =>
      rw [dif_neg (by simp)]
      exact .tup (.cons h hv (.cons h2 hv2 hs2))

theorem results_run {fn : Func} {tmps : Array Value} {ms : List Value} (h : (fn.results.toList.mapM (resM tmps)).run P w = .ok ms w) :
    (results fn tmps).run P w = .ok (if h : ms.toArray.size = 1 then ms.toArray[0] else .tuple ms.toArray) w := by
  have hm : (fn.results.mapM (resM tmps)).run P w = .ok ms.toArray w := by
    rw [← Array.toArray_toList (xs := fn.results), List.mapM_toArray]
    simp only [Sem.run_map, h, Result.andThen_ok]
  have he : results fn tmps = (do let vs ← fn.results.mapM (resM tmps); pure (if h : vs.size = 1 then vs[0] else .tuple vs)) := by
    unfold results resM
    rfl
  rw [he]
  simp only [Sem.run_bind, hm, Result.andThen_ok, Sem.run_pure]

/-- The boxes that were handed over. -/
theorem outs_sound (h : Rel F st a w E) {X : Nat → Prop} {w0 : World} : ∀ {ts : List TD} {vs : List Value} {ps : List PV} {hb : List Nat} {i : Nat} {bs cs : List PV} {m : List RId}, ArgsR w0 X ts vs ps hb →
    (∀ j td ad y, ts[j]? = some (.ptr td) → vs[j]? = some (.pointer (some ad)) → ps[j]? = some (.inout y) → F.PB (i + j) = some (td, ad)) →
    boxV st (inouts i ps) = some bs → st.exps bs = some (cs, m) →
    ∃ ol, OutsR w E.X ts vs ps cs ol ∧ (∀ b ∈ ol, (∃ r ∈ m, Holds st E (.inl r) b) ∨ ∃ j, i ≤ j ∧ Holds st E (.inr j) b) ∧ (m.Nodup → ol.Nodup)
  | _, _, _, _, i, bs, cs, m, .nil, _, hbv, he => by
    simp only [inouts, boxV, Option.some.injEq] at hbv
    subst hbv
    simp only [St.exps, Option.some.injEq, Prod.mk.injEq] at he
    obtain ⟨rfl, rfl⟩ := he
    exact ⟨[], .nil, by simp, fun _ => List.nodup_nil⟩
  | _, _, _, _, i, bs, cs, m, .cons (t := t) (ts := ts) (v := v) (vs := vs) (p := p) (ps := ps) (bl := bl) (bm := bm) ha hs, hpb, hbv, he => by
    have hpb' : ∀ j td ad y, ts[j]? = some (.ptr td) → vs[j]? = some (.pointer (some ad)) → ps[j]? = some (.inout y) → F.PB (i + 1 + j) = some (td, ad) := fun j td ad y h1 h2 h3 => by
      rw [show i + 1 + j = i + (j + 1) by omega]; exact hpb (j + 1) td ad y (by simpa using h1) (by simpa using h2) (by simpa using h3)
    have plain : isInout p = false → ∃ ol, OutsR w E.X (t :: ts) (v :: vs) (p :: ps) cs ol ∧ (∀ b ∈ ol, (∃ r ∈ m, Holds st E (.inl r) b) ∨ ∃ j, i ≤ j ∧ Holds st E (.inr j) b) ∧ (m.Nodup → ol.Nodup) := by
      intro hp
      have hi : inouts i (p :: ps) = inouts (i + 1) ps := by cases p <;> first | rfl | simp [isInout] at hp
      rw [hi] at hbv
      obtain ⟨ol, k1, k2, k3⟩ := outs_sound h (i := i + 1) hs hpb' hbv he
      refine ⟨ol, .skip hp k1, fun b hb => ?_, k3⟩
      rcases k2 b hb with k | ⟨j, hj, k⟩
      · exact .inl k
      · exact .inr ⟨j, by omega, k⟩
    cases ha with
    | imm hc hv => exact plain (by cases hc <;> rfl)
    | rptr hX hc hr => exact plain rfl
    | inout hX hsp hb hc hr =>
      rename_i td ad cur et cs0 y bl0
      have hPB := hpb 0 td ad y rfl rfl rfl
      simp only [Nat.add_zero] at hPB
      simp only [inouts, boxV] at hbv
      split at hbv
      · rename_i x hx
        split at hbv
        · rename_i xs hxs
          injection hbv with hbv
          subst hbv
          simp only [St.exps] at he
          split at he
          · rename_i y1 l1 hy1
            split at he
            · rename_i ys m1 hys
              simp only [Option.some.injEq, Prod.mk.injEq] at he
              obtain ⟨rfl, rfl⟩ := he
              obtain ⟨ol, k1, k2, k3⟩ := outs_sound h (i := i + 1) hs hpb' hxs hys
              have hbb := h.pbox _ _ _ hPB hx
              obtain ⟨td1, ad1, g1, g2, g3, cur1, et1, cs1, g4, g5, g6⟩ := h.boxes _ _ hx
              rw [hbb] at g1
              injection g1 with g1
              injection g1 with g1 g1'
              subst g1 g1'
              obtain ⟨bl, n1, n2⟩ := RT.exp h g6 hy1
              have hH : Holds st E (.inr i) ad.block := .box hx hbb
              refine ⟨(ad.block :: bl) ++ ol, .inout g2 g3 g4 g5 n1 k1, fun b hb => ?_, fun hn => ?_⟩
              · simp only [List.cons_append, List.mem_cons, List.mem_append] at hb
                rcases hb with rfl | hb | hb
                · exact .inr ⟨i, Nat.le_refl _, hH⟩
                · obtain ⟨r, hr, hh⟩ := n2.held b hb
                  exact .inl ⟨r, by simp [hr], hh⟩
                · rcases k2 b hb with ⟨r, hr, hh⟩ | ⟨j, hj, hh⟩
                  · exact .inl ⟨r, by simp [hr], hh⟩
                  · exact .inr ⟨j, by omega, hh⟩
              · obtain ⟨p1, p2, p3⟩ := List.nodup_append.1 hn
                refine List.nodup_append.2 ⟨List.nodup_cons.2 ⟨fun hb => ?_, n2.nodup p1⟩, k3 p2, fun b hb c hc e => ?_⟩
                · obtain ⟨r, hr, hh⟩ := n2.held _ hb
                  have := h.dist _ _ _ hh hH
                  cases this
                · subst e
                  rcases List.mem_cons.1 hb with rfl | hb
                  · rcases k2 _ hc with ⟨r, hr, hh⟩ | ⟨j, hj, hh⟩
                    · have := h.dist _ _ _ hh hH; cases this
                    · have := h.dist _ _ _ hh hH; injection this with this; omega
                  · obtain ⟨r, hr, hh⟩ := n2.held _ hb
                    rcases k2 _ hc with ⟨q, hq, hh'⟩ | ⟨j, hj, hh'⟩
                    · have := h.dist _ _ _ hh hh'
                      injection this with this
                      exact p3 r hr q hq this
                    · have := h.dist _ _ _ hh hh'; cases this
            · cases he
          · cases he
        · cases hbv
      · cases hbv
end Go.Vm
end
section
set_option linter.unusedSimpArgs false
set_option linter.unusedVariables false
namespace Go.Vm
variable {P : Program} {F : Fr} {w w' : World} {st st' : St} {a a' : Act} {E E' : Env} {K : Act → World → Prop} {Q : Exit → Act → World → Prop} {o : Oper} {C : Nat → List PV → Option (PV × List PV)}

theorem nodupR_spec : ∀ {l : List RId}, nodupR l = true → l.Nodup
  | [], _ => List.nodup_nil
  | r :: l, h => by
    simp only [nodupR, Bool.and_eq_true, Bool.not_eq_true'] at h
    exact List.nodup_cons.2 ⟨fun hm => (by have := List.contains_iff_mem.2 hm; rw [h.1] at this; cases this), nodupR_spec h.2⟩
theorem nodupN_spec : ∀ {l : List Nat}, nodupN l = true → l.Nodup
  | [], _ => List.nodup_nil
  | r :: l, h => by
    simp only [nodupN, Bool.and_eq_true, Bool.not_eq_true'] at h
    exact List.nodup_cons.2 ⟨fun hm => (by have := List.contains_iff_mem.2 hm; rw [h.1] at this; cases this), nodupN_spec h.2⟩

theorem ROVs.keeps {X X' : Nat → Prop} (hk : Keeps w w' X X') : ∀ {ts : List TD} {vs : List Value} {ps : List PV} {bl : List Nat}, ROVs w X ts vs ps bl → (∀ b ∈ bl, X' b ∧ w'.heap[b]? = w.heap[b]?) → ROVs w' X' ts vs ps bl
  | _, _, _, _, .nil, _ => .nil
  | _, _, _, _, .cons h hv hs, hb => .cons (h.keeps hk fun b hb' => hb b (by simp [hb'])) hv (hs.keeps hk fun b hb' => hb b (by simp [hb']))
theorem OutsR.keeps {X X' : Nat → Prop} (hk : Keeps w w' X X') : ∀ {ts : List TD} {vs : List Value} {ps os : List PV} {bl : List Nat}, OutsR w X ts vs ps os bl → (∀ b ∈ bl, X' b ∧ w'.heap[b]? = w.heap[b]?) → OutsR w' X' ts vs ps os bl
  | _, _, _, _, _, .nil, _ => .nil
  | _, _, _, _, _, .skip hp hs, hb => .skip hp (hs.keeps hk hb)
  | _, _, _, _, _, .inout hX hsp hm hc h hs, hb => .inout (hb _ (by simp)).1 hsp ((hb _ (by simp)).2.trans hm) hc (h.keeps hk fun b hb' => hb b (by simp [hb'])) (hs.keeps hk fun b hb' => hb b (by simp [hb']))
theorem ArgR.own {X : Nat → Prop} {t : TD} {v : Value} {p : PV} {bl : List Nat} (h : ArgR w X t v p bl) : ∀ b ∈ bl, X b := by
  cases h with
  | imm => simp
  | rptr => simp
  | inout hX hs hb hc h =>
    intro b hb'
    rcases List.mem_cons.1 hb' with rfl | hb'
    · exact hX
    · exact h.own_mem b hb'
theorem ArgsR.own {X : Nat → Prop} : ∀ {ts : List TD} {vs : List Value} {ps : List PV} {bl : List Nat}, ArgsR w X ts vs ps bl → ∀ b ∈ bl, X b
  | _, _, _, _, .nil, b, hb => by simp at hb
  | _, _, _, _, .cons h hs, b, hb => by
    rcases List.mem_append.1 hb with hb | hb
    · exact h.own b hb
    · exact hs.own b hb

theorem leave {X : Nat → Prop} {vf : VF} {fn : Func} {rts : List TD} {ts : List TD} {vs : List Value} {ps : List PV} {hb : List Nat} {r : PV} {outs : List PV} (h : Rel F st a w' E) (hw : F.w0 = w) (hX0 : F.X0 = X) (hP0 : F.P0 = fun b => b ∈ hb) (ha : ArgsR w X ts vs ps hb)
    (hpb : ∀ j td ad y, ts[j]? = some (.ptr td) → vs[j]? = some (.pointer (some ad)) → ps[j]? = some (.inout y) → F.PB j = some (td, ad))
    (hf : finish vf ps st = some (r, outs)) (hr : resOk P F.Γ fn.results.toList vf.res rts = true) (hret : vf.ret = retOf rts) :
    ∃ v, (results fn a.tmps).run P w' = .ok v w' ∧ ∃ X' bl ol, Since w w' (fun b => b ∈ hb) ∧ Keeps w w' X X' ∧ (∀ b, X b → b < w.heap.size → b ∉ hb → X' b) ∧ ROV w' X' vf.ret v r bl ∧ OutsR w' X' ts vs ps outs ol ∧ (bl ++ ol).Nodup ∧
      ∀ b ∈ bl ++ ol, b ∈ hb ∨ w.heap.size ≤ b := by
  unfold finish at hf
  split at hf
  · rename_i rv hrv
    split at hf
    · rename_i bs hbs
      split at hf
      · rename_i us l hus
        split at hf
        · rename_i cs m hcs
          split at hf
          · rename_i hnd
            simp only [Option.some.injEq, Prod.mk.injEq] at hf
            obtain ⟨rfl, rfl⟩ := hf
            have hnd := nodupR_spec hnd
            obtain ⟨ms, bl, k1, k2, k3⟩ := resV_sound h hr hrv hus
            obtain ⟨ol, n1, n2, n3⟩ := outs_sound h (i := 0) ha (fun j td ad y h1 h2 h3 => by rw [Nat.zero_add]; exact hpb j td ad y h1 h2 h3) hbs hcs
            obtain ⟨d1, d2, d3⟩ := List.nodup_append.1 hnd
            have hsince := h.since
            rw [hw, hP0] at hsince
            have hheld : ∀ b ∈ bl ++ ol, ∃ x, Holds st E x b := by
              intro b hb'
              rcases List.mem_append.1 hb' with hb' | hb'
              · obtain ⟨q, _, hh⟩ := k3.held b hb'; exact ⟨_, hh⟩
              · rcases n2 b hb' with ⟨q, _, hh⟩ | ⟨j, _, hh⟩ <;> exact ⟨_, hh⟩
            let X' : Nat → Prop := fun b => E.X b ∧ (b < w.heap.size → X b)
            have hfresh : ∀ b ∈ bl ++ ol, b ∈ hb ∨ w.heap.size ≤ b := by
              intro b hb'
              obtain ⟨x, hh⟩ := hheld b hb'
              have := h.fresh x b hh
              rw [hw, hP0] at this
              exact this
            have hX' : ∀ b ∈ bl ++ ol, X' b := by
              intro b hb'
              obtain ⟨x, hh⟩ := hheld b hb'
              refine ⟨h.held_own hh, fun hlt => ?_⟩
              rcases hfresh b hb' with h1 | h1
              · exact ha.own b h1
              · omega
            have hk : Keeps w' w' E.X X' := Keeps.less' fun b hb => hb.1
            refine ⟨_, results_run k1, X', bl, ol, hsince, ⟨hsince.size, fun b hXb hlt => hsince.block b (fun hm => hXb (ha.own b hm)) hlt, fun b hlt hx => hx.2 hlt⟩, fun b hXb hlt hnm => ⟨?_, fun _ => hXb⟩, ?_, ?_, ?_, hfresh⟩
            · exact h.outer b (by rw [hX0]; exact hXb) (by rw [hw]; exact hlt) (by rw [hP0]; exact hnm)
            · rw [hret]
              exact (k2.keeps hk fun b hb' => ⟨hX' b (by simp [hb']), rfl⟩).pack
            · exact n1.keeps hk fun b hb' => ⟨hX' b (by simp [hb']), rfl⟩
            · refine List.nodup_append.2 ⟨k3.nodup d1, n3 d2, fun b hb' c hc e => ?_⟩
              subst e
              obtain ⟨q, hq, hh⟩ := k3.held b hb'
              rcases n2 b hc with ⟨q', hq', hh'⟩ | ⟨j, _, hh'⟩
              · have := h.dist _ _ _ hh hh'
                injection this with this
                exact d3 q hq q' hq' this
              · have := h.dist _ _ _ hh hh'; cases this
          · cases hf
        · cases hf
      · cases hf
    · cases hf
  · cases hf
end Go.Vm
end
section
set_option linter.unusedSimpArgs false
set_option linter.unusedVariables false
namespace Go.Vm
variable {P : Program} {F : Fr} {w w' : World} {st st' : St} {a a' : Act} {E E' : Env} {K : Act → World → Prop} {Q : Exit → Act → World → Prop} {o : Oper} {C : Nat → List PV → Option (PV × List PV)}

def argsOk (Γ : Nat → TD) : List Operand → List VA → List TD → Bool
  | [], [], [] => true
  | x :: xs, y :: ys, t :: ts => argOk Γ x y t && notTup t && argsOk Γ xs ys ts
  | _, _, _ => false

mutual
theorem imm_freeze (rs : List RId) (st : St) : ∀ p, (st.freeze rs).imm p = st.imm p
  | .bool _ | .int _ _ | .str _ | .arr _ | .nil | .sl _ _ | .nilp | .map _ | .fn _ | .own _ _ | .omap _ | .ptr _ _ | .eptr _ _ _ | .rptr _ | .inout _ | .undef | .dead => by simp only [St.imm]
  | .agg fs => by simp only [St.imm, imms_freeze rs st fs]
  | .ref r => by
    simp only [St.imm]
    rw [freeze_look]
    by_cases hr : r ∈ rs
    · rw [if_pos hr]
      cases lookR r st.rg with
      | none => rfl
      | some g => cases g <;> rfl
    · rw [if_neg hr]
  | .sub r lo hi => by
    simp only [St.imm]
    rw [freeze_look]
    by_cases hr : r ∈ rs
    · rw [if_pos hr]
      cases lookR r st.rg with
      | none => rfl
      | some g => cases g <;> rfl
    · rw [if_neg hr]
  | .mref r => by
    simp only [St.imm]
    rw [freeze_look]
    by_cases hr : r ∈ rs
    · rw [if_pos hr]
      cases lookR r st.rg with
      | none => rfl
      | some g => cases g <;> rfl
    · rw [if_neg hr]
theorem imms_freeze (rs : List RId) (st : St) : ∀ ps, (st.freeze rs).imms ps = st.imms ps
  | [] => rfl
  | p :: ps => by simp only [St.imms, imm_freeze rs st p, imms_freeze rs st ps]
end

/-- Arguments, as the caller has them. -/
inductive ArgVs (w : World) (E : Env) (st : St) : List TD → List Value → List PV → Prop
  | nil : ArgVs w E st [] [] []
  | cons {t : TD} {ts : List TD} {v : Value} {vs : List Value} {p : PV} {ps : List PV} (h : RV w E t v p) (hn : ∀ ts, t ≠ .tup ts) (hs : ArgVs w E st ts vs ps) : ArgVs w E st (t :: ts) (v :: vs) (p :: ps)
theorem Rel.args (h : Rel F st a w E) : ∀ {xs : List Operand} {ys : List VA} {ts : List TD} {ps : List PV}, argsOk F.Γ xs ys ts = true → evalArgs st ys = some ps → ArgVs w E st ts (xs.map a.eval) ps
  | [], [], [], ps, _, he => by
    simp only [evalArgs, Option.some.injEq] at he
    subst he
    exact .nil
  | x :: xs, y :: ys, t :: ts, ps, hok, he => by
    simp only [argsOk, Bool.and_eq_true] at hok
    simp only [evalArgs] at he
    split at he
    · rename_i v hv
      split at he
      · rename_i l hl
        injection he with he
        subst he
        exact .cons (h.arg hok.1.1 hv).1 (notTup_spec hok.1.2) (h.args hok.2 hl)
      · cases he
    · cases he
  | [], _ :: _, _, _, hok, _ => by simp [argsOk] at hok
  | [], [], _ :: _, _, hok, _ => by simp [argsOk] at hok
  | _ :: _, [], _, _, hok, _ => by simp [argsOk] at hok
  | _ :: _, _ :: _, [], _, hok, _ => by simp [argsOk] at hok
theorem ArgVs.keeps (hk : Keeps w w' E.X E'.X) (hrb : E'.rb = E.rb) (hbb : E'.bb = E.bb) : ∀ {ts : List TD} {vs : List Value} {ps : List PV}, ArgVs w E st ts vs ps → ArgVs w' E' st ts vs ps
  | _, _, _, .nil => .nil
  | _, _, _, .cons h hn hs => .cons (h.keeps hk ⟨fun _ _ => by rw [hrb], fun _ _ => by rw [hbb]⟩) hn (hs.keeps hk hrb hbb)

theorem RV.argImm (h : Rel F st a w E) {td : TD} {v : Value} {p q : PV} {l : List RId} (hv : RV w E td v p) (hn : ∀ ts, td ≠ .tup ts) (hi : st.imm p = some (q, l)) (hf : AllFrozen st l) : ArgR w E.X td v q [] := by
  obtain ⟨cs, h1, h2, _⟩ := RV.imm (st0 := st) (rs0 := []) h rfl hv hn hi hf
  exact .imm h1 h2

/-- The arguments as the call takes them, no box among them. -/
theorem args_sound (h : Rel F st a w E) : ∀ {ts : List TD} {vs : List Value} {ps qs : List PV} {rs ls : List RId} {bs : List Nat}, ArgVs w E st ts vs ps → st.argRs ps = some rs → AllFrozen st rs → st.outArgs ps = some (qs, ls, bs) → bs = [] →
    ArgsR w E.X ts vs qs []
  | _, _, _, qs, rs, ls, bs, .nil, _, _, ho, _ => by
    simp only [St.outArgs, Option.some.injEq, Prod.mk.injEq] at ho
    obtain ⟨rfl, _, _⟩ := ho
    exact .nil
  | _, _, _, qs, rs, ls, bs, .cons (t := t0) (ts := ts0) (v := v0) (vs := vs0) (p := p) (ps := ps) hv hn hs, hr, hf, ho, hb => by
    have plain : (match st.imm p with | some (_, l) => (match St.argRs st ps with | some m => some (l ++ m) | none => none) | none => none) = some rs →
        (match st.imm p with | some (y, _) => (match St.outArgs st ps with | some (ys, m, bs) => some (y :: ys, m, bs) | none => none) | none => none) = some (qs, ls, bs) →
        ArgsR w E.X (t0 :: ts0) (v0 :: vs0) qs [] := by
      intro h1 h2
      cases hi : st.imm p with
      | none => rw [hi] at h1; cases h1
      | some yl =>
        obtain ⟨y, l⟩ := yl
        rw [hi] at h1 h2
        simp only at h1 h2
        split at h1
        · rename_i m hm
          injection h1 with h1
          subst h1
          split at h2
          · rename_i ys m' bs' ho'
            simp only [Option.some.injEq, Prod.mk.injEq] at h2
            obtain ⟨rfl, _, rfl⟩ := h2
            have k1 := RV.argImm h hv hn hi (fun r hr' => hf r (by simp [hr']))
            have k2 := args_sound h hs hm (fun r hr' => hf r (by simp [hr'])) ho' hb
            simpa using ArgsR.cons k1 k2
          · cases h2
        · cases h1
    cases p with
    | ptr b path =>
      cases path with
      | nil =>
        simp only [St.outArgs] at ho
        split at ho
        · split at ho
          · split at ho
            · simp only [Option.some.injEq, Prod.mk.injEq] at ho
              obtain ⟨_, _, rfl⟩ := ho
              cases hb
            · cases ho
          · cases ho
        · cases ho
      | cons i path =>
        simp only [St.outArgs, St.imm] at ho
        cases ho
    | rptr x =>
      simp only [St.argRs] at hr
      simp only [St.outArgs] at ho
      split at ho
      · rename_i ys m bs' ho'
        simp only [Option.some.injEq, Prod.mk.injEq] at ho
        obtain ⟨rfl, _, rfl⟩ := ho
        obtain ⟨t, ad, cs, e1, e2, k1, k2, k3⟩ := hv.rptr
        subst e1 e2
        simpa using ArgsR.cons (ArgR.rptr k1 k2 k3) (args_sound h hs hr hf ho' hb)
      · cases ho
    | _ =>
      simp only [St.argRs] at hr
      simp only [St.outArgs] at ho
      exact plain hr ho

/-! ### Results that lead to nothing of the caller's -/
mutual
theorem RC.flat {X X' : Nat → Prop} : ∀ {td : TD} {cs : List Value} {p : PV}, RC w X td cs p → td.flat = true → RC w X' td cs p
  | _, _, _, .bool b, _ => .bool b
  | _, _, _, .int k n, _ => .int k n
  | _, _, _, .str s, _ => .str s
  | _, _, _, .struct hs, hf => .struct (RCs.flat hs hf)
  | _, _, _, .arr hn hs, hf => .arr hn (RCa.flat hs hf)
  | _, _, _, .slnil, hf => by simp [TD.flat] at hf
  | _, _, _, .sl .., hf => by simp [TD.flat] at hf
  | _, _, _, .mapnil, hf => by simp [TD.flat] at hf
  | _, _, _, .map .., hf => by simp [TD.flat] at hf
  | _, _, _, .fn f, hf => .fn f
  | _, _, _, .nilfn, hf => .nilfn
  | _, _, _, .nilptr, hf => .nilptr
theorem RCs.flat {X X' : Nat → Prop} : ∀ {fs : List TD} {cs : List Value} {ps : List PV}, RCs w X fs cs ps → TD.flats fs = true → RCs w X' fs cs ps
  | _, _, _, .nil, _ => .nil
  | _, _, _, .cons h hs, hf => by
    simp only [TD.flats, Bool.and_eq_true] at hf
    exact .cons (RC.flat h hf.1) (RCs.flat hs hf.2)
theorem RCa.flat {X X' : Nat → Prop} : ∀ {e : TD} {cs : List Value} {ps : List PV}, RCa w X e cs ps → e.flat = true → RCa w X' e cs ps
  | _, _, _, .nil, _ => .nil
  | _, _, _, .cons h hs, hf => .cons (RC.flat h hf) (RCa.flat hs hf)
end
theorem RCm.flat {X X' : Nat → Prop} {k e : TD} (hk : k.flat = true) (he : e.flat = true) : ∀ {ms : List MapEntry} {ps : List (PV × PV)}, RCm w X k e ms ps → RCm w X' k e ms ps
  | _, _, .nil => .nil
  | _, _, .cons h1 h2 h3 h4 h5 => .cons (h1.flat hk) (h2.flat he) (h3.flat hk he) h4 h5
mutual
theorem RC.mild {X X' : Nat → Prop} : ∀ {td : TD} {cs : List Value} {p : PV}, RC w X td cs p → td.mild = true → p.noSl = true → RC w X' td cs p
  | _, _, _, .bool b, _, _ => .bool b
  | _, _, _, .int k n, _, _ => .int k n
  | _, _, _, .str s, _, _ => .str s
  | _, _, _, .struct hs, hm, hn => .struct (RCs.mild hs hm hn)
  | _, _, _, .arr hl hs, hm, _ => .arr hl (hs.flat hm)
  | _, _, _, .slnil, _, hn => by simp [PV.noSl] at hn
  | _, _, _, .sl .., _, hn => by simp [PV.noSl] at hn
  | _, _, _, .mapnil, _, _ => .mapnil
  | _, _, _, .map .., _, hn => by simp [PV.noSl] at hn
  | _, _, _, .fn f, _, _ => .fn f
  | _, _, _, .nilfn, _, _ => .nilfn
  | _, _, _, .nilptr, _, _ => .nilptr
theorem RCs.mild {X X' : Nat → Prop} : ∀ {fs : List TD} {cs : List Value} {ps : List PV}, RCs w X fs cs ps → TD.milds fs = true → PV.noSls ps = true → RCs w X' fs cs ps
  | _, _, _, .nil, _, _ => .nil
  | _, _, _, .cons h hs, hm, hn => by
    simp only [TD.milds, Bool.and_eq_true] at hm
    simp only [PV.noSls, Bool.and_eq_true] at hn
    exact .cons (RC.mild h hm.1 hn.1) (RCs.mild hs hm.2 hn.2)
end
mutual
theorem RO.mild {X X' : Nat → Prop} : ∀ {td : TD} {cs : List Value} {p : PV} {bl : List Nat}, RO w X td cs p bl → td.mild = true → p.noSl = true → (∀ b ∈ bl, X' b) → RO w X' td cs p bl
  | _, _, _, _, .imm h, hm, hn, _ => .imm (h.mild hm hn)
  | _, _, _, _, .struct h, hm, hn, hb => .struct (ROs.mild h hm hn hb)
  | _, _, _, _, .ownnil, _, _, _ => .ownnil
  | _, _, _, _, .own h, hm, hn, hb => by
    obtain ⟨k1, k2, k3, k4, cur, et, k5, k6, cf, k7, k8⟩ := h
    exact .own ⟨hb _ (by simp), k2, k3, k4, cur, et, k5, k6, cf, k7, fun i x hx => (k8 i x hx).flat hm⟩
  | _, _, _, _, .omap hX hm' h, hm, hn, hb => by
    simp only [TD.mild, Bool.and_eq_true] at hm
    exact .omap (hb _ (by simp)) hm' (h.flat hm.1 hm.2)
theorem ROs.mild {X X' : Nat → Prop} : ∀ {fs : List TD} {cs : List Value} {ps : List PV} {bl : List Nat}, ROs w X fs cs ps bl → TD.milds fs = true → PV.noSls ps = true → (∀ b ∈ bl, X' b) → ROs w X' fs cs ps bl
  | _, _, _, _, .nil, _, _, _ => .nil
  | _, _, _, _, .cons h hs, hm, hn, hb => by
    simp only [TD.milds, Bool.and_eq_true] at hm
    simp only [PV.noSls, Bool.and_eq_true] at hn
    exact .cons (RO.mild h hm.1 hn.1 fun b hb' => hb b (by simp [hb'])) (ROs.mild hs hm.2 hn.2 fun b hb' => hb b (by simp [hb']))
end
theorem ROVs.mild {X X' : Nat → Prop} : ∀ {ts : List TD} {vs : List Value} {ps : List PV} {bl : List Nat}, ROVs w X ts vs ps bl → TD.milds ts = true → PV.noSls ps = true → (∀ b ∈ bl, X' b) → ROVs w X' ts vs ps bl
  | _, _, _, _, .nil, _, _, _ => .nil
  | _, _, _, _, .cons h hv hs, hm, hn, hb => by
    simp only [TD.milds, Bool.and_eq_true] at hm
    simp only [PV.noSls, Bool.and_eq_true] at hn
    exact .cons (RO.mild h hm.1 hn.1 fun b hb' => hb b (by simp [hb'])) hv (hs.mild hm.2 hn.2 fun b hb' => hb b (by simp [hb']))
theorem ROV.mild {X X' : Nat → Prop} {td : TD} {v : Value} {p : PV} {bl : List Nat} (h : ROV w X td v p bl) (hm : td.mild = true) (hn : p.noSl = true) (hb : ∀ b ∈ bl, X' b) : ROV w X' td v p bl := by
  cases h with
  | cells h hv => exact .cells (h.mild hm hn hb) hv
  | tup h => exact .tup (h.mild hm hn hb)
end Go.Vm
end
section
set_option linter.unusedSimpArgs false
set_option linter.unusedVariables false
namespace Go.Vm
variable {P : Program} {F : Fr} {w w' : World} {st st' : St} {a a' : Act} {E E' : Env} {K : Act → World → Prop} {Q : Exit → Act → World → Prop} {o : Oper} {C : Nat → List PV → Option (PV × List PV)}

/-- What has come from a call goes into its slot. -/
theorem Rel.result (h : Rel F st a w E) {d : Nat} {td : TD} {v : Value} {r : PV} {bl : List Nat} (hd : look d st.sl = none) (hN : d < F.N) (hΓ : F.Γ d = td) (hr : ROV w E.X td v r bl) (hn : bl.Nodup)
    (hb : ∀ b ∈ bl, (∀ x, ¬ Holds st E x b) ∧ (F.P0 b ∨ F.w0.heap.size ≤ b)) :
    ∃ E', Rel F { st with sl := put d (Vm.imp [0, d] r).1 st.sl, rg := (Vm.imp [0, d] r).2 ++ st.rg } (a.put (some d) v) w E' := by
  have hnok : ∀ q, Under [0, d] q → ¬ OkId st q := by
    rintro q ⟨s, rfl⟩
    exact h.notOk hd s
  have h1 := h.putS (d := d) (v := v) (p := .dead) hN .dead (Ok.of_nil rfl rfl)
  have hget : (a.put (some d) v).tmps[d]? = some v := by rw [put_get (by rw [h.size]; exact hN), if_pos rfl]
  have hfr : Free { st with sl := put d .dead st.sl } (Under [0, d]) := by
    refine ⟨fun q hq => ?_, fun s p' hp r hr' hS => ?_, fun s p' hp r hr' hS => hnok r hS ((h.named.bx s p' hp).1 r hr'), fun q hq => ?_⟩
    · cases e : lookR q st.rg with
      | none => rfl
      | some g => exact absurd (h.named.rg q g e) (hnok q hq)
    · simp only [look_put] at hp
      split at hp
      · injection hp with hp; subst hp; simp [ids] at hr'
      · exact hnok r hS ((h.named.sl s p' hp).1 r hr')
    · obtain ⟨s, rfl⟩ := hq
      exact .inl ⟨d, s, .dead, rfl, by simp [look_put]⟩
  have hback : ∀ x b, Holds { st with sl := put d .dead st.sl } E x b → Holds st E x b := by
    intro x b hx
    cases hx with
    | row h1 h2 h3 => exact .row h1 h2 h3
    | mp h1 h2 => exact .mp h1 h2
    | box h1 h2 => exact .box h1 h2
  have hb' : ∀ b ∈ bl, (∀ x, ¬ Holds { st with sl := put d .dead st.sl } E x b) ∧ (F.P0 b ∨ F.w0.heap.size ≤ b) := fun b hb' => ⟨fun x hx => (hb b hb').1 x (hback x b hx), (hb b hb').2⟩
  have fin : ∀ (E' : Env) (u : PV) (rs : List (RId × RegC)), Imp F { st with sl := put d .dead st.sl } (a.put (some d) v) w E E' rs bl (Under [0, d]) → RV w E' td v u → (∀ q ∈ ids u, Under [0, d] q) → bxs u = [] →
      Rel F { st with sl := put d u st.sl, rg := rs ++ st.rg } (a.put (some d) v) w E' := by
    intro E' u rs k1 k2 k3 k4
    have h2 := k1.rel.setS (d := d) (v := v) (p := u) hN hget (by rw [hΓ]; exact k2) ⟨fun q hq => by
      obtain ⟨s, e⟩ := k3 q hq
      rw [e]
      exact .inl ⟨d, s, u, rfl, by simp [look_put]⟩, fun b hb => by rw [k4] at hb; cases hb⟩
    refine h2.same ⟨fun k => ?_, fun k => rfl, fun k => rfl⟩
    simp only [look_put]
    split <;> rfl
  -- several results: one after the other
  have key : ∀ {ts : List TD} {vs : List Value} {us : List PV} {bl : List Nat} (i : Nat), ROVs w E.X ts vs us bl → ∀ {st : St} {E1 : Env}, E1.X = E.X → Rel F st (a.put (some d) v) w E1 → Free st (fun q => ∃ j, i ≤ j ∧ Under ([0, d] ++ [j]) q) → bl.Nodup →
      (∀ b ∈ bl, (∀ x, ¬ Holds st E1 x b) ∧ (F.P0 b ∨ F.w0.heap.size ≤ b)) →
      ∃ E', Imp F st (a.put (some d) v) w E1 E' (Vm.imps [0, d] i us).2 bl (fun q => ∃ j, i ≤ j ∧ Under ([0, d] ++ [j]) q) ∧ RVs w E' ts vs (Vm.imps [0, d] i us).1 ∧ (∀ q ∈ idss (Vm.imps [0, d] i us).1, ∃ j, i ≤ j ∧ Under ([0, d] ++ [j]) q) ∧ bxss (Vm.imps [0, d] i us).1 = [] := by
    intro ts vs us bl i hr
    induction hr generalizing i with
    | nil => exact fun {st E1} hX h hf hn hb => ⟨E1, Imp.refl h _, .nil, fun q hq => by simp [Vm.imps, idss] at hq, rfl⟩
    | cons hc hv hs ih =>
      rename_i t ts cs v0 vs p ps bl bm
      intro st E1 hX h hf hn hb
      obtain ⟨n1, n2, n3⟩ := List.nodup_append.1 hn
      obtain ⟨E2, h1, h2, h3, h4⟩ := ih (i + 1) hX h (hf.less fun q ⟨j, hj, hq⟩ => ⟨j, by omega, hq⟩) n2 (fun b hb' => hb b (by simp [hb']))
      have hf2 : Free { st with rg := (Vm.imps [0, d] (i + 1) ps).2 ++ st.rg } (Under ([0, d] ++ [i])) := by
        refine ⟨fun q hq => ?_, fun s p hp r hr hS => hf.sl s p hp r hr ⟨i, Nat.le_refl _, hS⟩, fun s p hp r hr hS => hf.bx s p hp r hr ⟨i, Nat.le_refl _, hS⟩, fun q hq => ?_⟩
        · show lookR q (_ ++ st.rg) = none
          rw [h1.keys q (fun ⟨j, hj, hq'⟩ => by have := hq.apart hq'; omega)]
          exact hf.rg q ⟨i, Nat.le_refl _, hq⟩
        · exact (hf.ok q ⟨i, Nat.le_refl _, hq⟩).mono (fun s v hv => ⟨v, hv⟩) (fun s v hv => ⟨v, hv⟩)
      obtain ⟨E', k1, k2, k3, k4⟩ := Rel.imp ([0, d] ++ [i]) hc (h1.X.trans hX) h1.rel hf2 n1 (fun b hb' => by
        obtain ⟨m1, m2⟩ := hb b (by simp [hb'])
        refine ⟨fun x hx => ?_, m2⟩
        rcases h1.held x b hx with h5 | h5
        · exact m1 x h5
        · exact n3 b hb' b h5 rfl)
      have hk : Keeps w w E2.X E'.X := by rw [k1.X]; exact ⟨Nat.le_refl _, fun _ _ _ => rfl, fun _ _ hx => hx⟩
      refine ⟨E', ⟨k1.X.trans h1.X, k1.bb.trans h1.bb, fun q hq => ?_, ?_, fun x b hx => ?_, fun q hq => ?_⟩, ?_, fun q hq => ?_, ?_⟩
      · rw [k1.rb q (fun hu => hq ⟨i, Nat.le_refl _, hu⟩), h1.rb q (fun ⟨j, hj, hu⟩ => hq ⟨j, by omega, hu⟩)]
      · simpa only [Vm.imps, List.append_assoc] using k1.rel
      · simp only [Vm.imps, List.append_assoc] at hx
        rcases k1.held x b hx with h5 | h5
        · rcases h1.held x b h5 with h6 | h6
          · exact .inl h6
          · exact .inr (by simp [h6])
        · exact .inr (by simp [h5])
      · simp only [Vm.imps, List.append_assoc]
        rw [k1.keys q (fun hu => hq ⟨i, Nat.le_refl _, hu⟩)]
        exact h1.keys q (fun ⟨j, hj, hu⟩ => hq ⟨j, by omega, hu⟩)
      · simp only [Vm.imps]
        refine .cons (.cells k2 hv) (h2.keeps hk ⟨fun r hr => k1.rb r (fun hu => ?_), fun b hb' => by rw [h4] at hb'; cases hb'⟩)
        obtain ⟨j, hj, hu'⟩ := h3 r hr
        have := hu.apart hu'
        omega
      · simp only [Vm.imps, idss, List.mem_append] at hq
        rcases hq with hq | hq
        · exact ⟨i, Nat.le_refl _, k3 q hq⟩
        · obtain ⟨j, hj, hu⟩ := h3 q hq
          exact ⟨j, by omega, hu⟩
      · simp only [Vm.imps, bxss, k4, h4, List.append_nil]
  cases hr with
  | cells hr hv =>
    obtain ⟨E', k1, k2, k3, k4⟩ := Rel.imp [0, d] hr rfl h1 hfr hn hb'
    exact ⟨E', fin E' _ _ k1 (.cells k2 hv) k3 k4⟩
  | tup hr =>
    rename_i ts vs ps
    obtain ⟨E', k1, k2, k3, k4⟩ := key 0 hr rfl h1 (hfr.less fun q ⟨j, _, hq⟩ => hq.next) hn hb'
    have e : Vm.imp [0, d] (.agg ps) = (.agg (Vm.imps [0, d] 0 ps).1, (Vm.imps [0, d] 0 ps).2) := rfl
    rw [e]
    refine ⟨E', fin E' _ _ ⟨k1.X, k1.bb, fun q hq => k1.rb q (fun ⟨j, _, hj⟩ => hq hj.next), k1.rel, k1.held, fun q hq => k1.keys q (fun ⟨j, _, hj⟩ => hq hj.next)⟩ (.tup k2) (fun q hq => ?_) (by simpa only [bxs] using k4)⟩
    obtain ⟨j, _, hj⟩ := k3 q (by simpa only [ids] using hq)
    exact hj.next

theorem ArgVs.any : ∀ {ts : List TD} {vs : List Value} {ps : List PV}, ArgVs w E st ts vs ps → ArgVs w E st' ts vs ps
  | _, _, _, .nil => .nil
  | _, _, _, .cons h hn hs => .cons h hn hs.any

theorem call_sound {T : Nat → Option (List TD × TD)} {f f' : Nat} {xs : Array Operand} {ys : List VA} {ats : Array TypeId} {ts : List TD} {res : TD} (hS : Serves P T C) (h : Rel F st a w E)
    (ho : o.op = .call { callee := .value (.func f), args := xs, argTypes := ats }) (hcf : ∀ (args : Array Value) (w : World), (callFunc f args).run P w = .ok (.enter f' args) w) (hT : T f' = some (ts, res))
    (hx : argsOk F.Γ xs.toList ys ts = true) (hd : ∀ d, o.dst = some d → d < F.N ∧ F.Γ d = res)
    (hst : step C st o.dst (.call f' ys res) = some st') (hK : ∀ a' w' E', Rel F st' a' w' E' → K a' w') : o.wp P a w K Q := by
  simp only [step] at hst
  split at hst
  · rename_i vs hvs
    split at hst
    · rename_i rs hrs
      split at hst
      · rename_i ps ls bs hout
        split at hst
        · rename_i hbs
          have hbs : bs = [] := by simpa using hbs
          split at hst
          · rename_i r outs hC
            have hargs := h.args hx hvs
            obtain ⟨E1, h1, f1, f2, f3⟩ := h.freeze rs
            have hrs' : (st.freeze rs).argRs vs = some rs := by
              have : ∀ (l : List PV), (st.freeze rs).argRs l = st.argRs l := by
                intro l
                induction l with
                | nil => rfl
                | cons p l ih => cases p <;> simp only [St.argRs, ih, imm_freeze]
              rw [this]; exact hrs
            have hargs1 := ArgVs.keeps (w' := w) (E' := E1) (st := st) (Keeps.less' f1) f2 f3 hargs
            have hargs2 : ArgVs w E1 (st.freeze rs) ts (xs.toList.map a.eval) vs := by
              exact hargs1.any
            have hA := args_sound h1 hargs2 hrs' (frozen_freeze rs st) hout hbs
            have hcall := hS f' ts res ps r outs _ w E1.X [] hT hC hA List.nodup_nil
            have hrun : (execOp a.eval o).run P w = .ok (.enter f' (xs.map a.eval)) w := by
              simp only [execOp, ho, resolve, Act.eval, Deferred.ofValue, Sem.run_bind, Sem.run_pure, Result.andThen_ok, invoke, hcf]
              simp
            unfold Oper.wp
            rw [hrun]
            simp only [Oper.upon]
            have hxs : (xs.toList.map a.eval).toArray = xs.map a.eval := by
              apply Array.ext'; simp
            rw [hxs] at hcall
            refine hcall.mono fun e w' hpost => ?_
            obtain ⟨v, X', bl, ol, rfl, hsince, hkeep, hout', hrov, _, hnd, hfr⟩ := hpost
            simp only
            have hsz := hsince.size
            have hold : ∀ b, b < w.heap.size → w'.heap[b]? = w.heap[b]? := fun b hb => hsince.block b (by simp) hb
            have hS0 : Since F.w0 w' F.P0 := by
              have h0 := h.since
              exact ⟨hsince.os.trans h0.os, hsince.tape.trans h0.tape, hsince.output.trans h0.output, Nat.le_trans h0.size hsz, fun b hP hb => (hold b (Nat.lt_of_lt_of_le hb h0.size)).trans (h0.block b hP hb)⟩
            have hbl : bl.Nodup := (List.nodup_append.1 hnd).1
            have hblw : ∀ b ∈ bl, w.heap.size ≤ b := fun b hb => by
              rcases hfr b (by simp [hb]) with h1 | h1
              · cases h1
              · exact h1
            -- the caller's state behind the call
            have hst1 : ∃ E2, Rel F (if (res.mild && r.noSl) = true then st else st.freeze rs) a w' E2 ∧ ROV w' E2.X res v r bl ∧ (∀ b ∈ bl, (∀ x, ¬ Holds (if (res.mild && r.noSl) = true then st else st.freeze rs) E2 x b) ∧ (F.P0 b ∨ F.w0.heap.size ≤ b)) := by
              by_cases hm : (res.mild && r.noSl) = true
              · simp only [if_pos hm]
                simp only [Bool.and_eq_true] at hm
                have hkE : Keeps w w' E.X (fun b => X' b ∨ (E.X b ∧ b < w.heap.size)) := ⟨hsz, fun b _ hb => hold b hb, fun b hb hx => by
                  rcases hx with hx | hx
                  · exact f1 b (hkeep.less b hb hx)
                  · exact hx.1⟩
                have hrel : Rel F st a w' { E with X := fun b => X' b ∨ (E.X b ∧ b < w.heap.size) } := h.extend hkE (fun x b hH => ⟨hold b (h.held_lt hH), .inr ⟨h.held_own hH, h.held_lt hH⟩⟩) (fun _ _ => rfl) (fun _ _ _ => rfl) hS0
                  (fun b g1 g2 g3 => .inr ⟨h.outer b g1 g2 g3, Nat.lt_of_lt_of_le g2 h.since.size⟩)
                refine ⟨_, hrel, hrov.mild hm.1 hm.2 (fun b hb => ?_), fun b hb => ⟨fun x hx => ?_, .inr (Nat.le_trans h.since.size (hblw b hb))⟩⟩
                · left
                  cases hrov with
                  | cells hro _ => exact hro.own_mem b hb
                  | tup hro =>
                    have : ∀ {ts : List TD} {vs : List Value} {ps : List PV} {bl : List Nat}, ROVs w' X' ts vs ps bl → ∀ b ∈ bl, X' b := by
                      intro ts vs ps bl hro
                      induction hro with
                      | nil => simp
                      | cons h _ _ ih =>
                        intro b hb
                        rcases List.mem_append.1 hb with hb | hb
                        · exact h.own_mem b hb
                        · exact ih b hb
                    exact this hro b hb
                · have hx' : Holds st E x b := by
                    cases hx with
                    | row h1 h2 h3 => exact .row h1 h2 h3
                    | mp h1 h2 => exact .mp h1 h2
                    | box h1 h2 => exact .box h1 h2
                  have := h.held_lt hx'
                  have := hblw b hb
                  omega
              · simp only [if_neg hm]
                have hrel : Rel F (st.freeze rs) a w' { E1 with X := X' } := h1.extend hkeep (fun x b hH => ⟨hold b (h1.held_lt hH), hout' b (h1.held_own hH) (h1.held_lt hH) (by simp)⟩) (fun _ _ => rfl) (fun _ _ _ => rfl) hS0
                  (fun b g1 g2 g3 => hout' b (h1.outer b g1 g2 g3) (Nat.lt_of_lt_of_le g2 h.since.size) (by simp))
                refine ⟨_, hrel, hrov, fun b hb => ⟨fun x hx => ?_, .inr (Nat.le_trans h.since.size (hblw b hb))⟩⟩
                have hx' : Holds (st.freeze rs) E1 x b := by
                  cases hx with
                  | row h1 h2 h3 => exact .row h1 h2 h3
                  | mp h1 h2 => exact .mp h1 h2
                  | box h1 h2 => exact .box h1 h2
                have := h1.held_lt hx'
                have := hblw b hb
                omega
            obtain ⟨E2, g1, g2, g3⟩ := hst1
            cases hdst : o.dst with
            | none =>
              rw [hdst] at hst
              simp only [Option.some.injEq] at hst
              subst hst
              exact hK _ _ E2 g1
            | some d =>
              rw [hdst] at hst
              simp only at hst
              split at hst
              · rename_i hlk
                injection hst with hst
                subst hst
                obtain ⟨hN, hΓ⟩ := hd d hdst
                obtain ⟨E', hr⟩ := g1.result hlk hN hΓ g2 hbl g3
                exact hK _ _ E' hr
              · cases hst
          · cases hst
        · cases hst
      · cases hst
    · cases hst
  · cases hst
end Go.Vm
end
