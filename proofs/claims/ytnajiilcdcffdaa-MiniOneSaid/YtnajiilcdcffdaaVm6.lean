/- A virtual machine for loaded programs, and that the interpreter does what it does. No conditions beyond each theorem. Drawn orders: the operations that only read, the rest. Drawn orders: length, element addresses, structs. Drawn orders: what an operation does, as one thing. Drawn orders: what makes new regions. Drawn orders: append, maps, calls. Drawn orders: calls. Drawn orders: which operations may change places; one operation with its guard; what an effect leaves. Drawn orders: an operation that may change places with those ahead of it may come first. Drawn orders: states that look alike go on alike. Drawn orders: whatever order is drawn, the region ends as the interpreter says. What a law's arguments read as, the interpreter takes as trees. -/
import Derived.Test.YtnajiilcdcffdaaVm5
import Derived.WideShapes
import Derived.RowKit
import Derived.ChangeOld
import Derived.ChangeArms
import Derived.OpenShut
section
set_option linter.unusedSimpArgs false
set_option linter.unusedVariables false
namespace Go.Vm
variable {P : Program} {F : Fr} {w w' : World} {st st' : St} {a a' : Act} {E E' : Env} {K : Act → World → Prop} {Q : Exit → Act → World → Prop} {o : Oper} {C : Nat → List PV → Option (PV × List PV)}
variable {B : Kn} {s s' t : St} {us : List Nat} {d : Option Nat}

theorem row_le (h : Le B us s t) {r : RId} (hr : B.n r) {g : Reg} (hg : lookR r s.rg = some (.row g)) : ∃ g', lookR r t.rg = some (.row g') ∧ g'.isNil = g.isNil ∧ g'.xs = g.xs := by
  obtain ⟨g', h1, h2⟩ := h.rg r hr _ hg
  cases g' with
  | row g' => exact ⟨g', h1, h2⟩
  | mp _ _ => exact h2.elim
theorem opt_le (h : Le B us s t) {x : Option VA} (hx : ∀ u ∈ usesO x, u ∈ us) {p : Option PV} (hp : optEval s x = some p) : optEval t x = some p := by
  cases x with
  | none => exact hp
  | some x =>
    simp only [optEval] at hp ⊢
    split at hp
    · rename_i v hv
      rw [eval_le h hx hv]
      exact hp
    · cases hp
theorem ra_slice {x : VA} {lo hi : Option VA} (h : Le B us s t) (hx : ∀ u ∈ x.uses, u ∈ us) (hl : ∀ u ∈ usesO lo, u ∈ us) (hh : ∀ u ∈ usesO hi, u ∈ us) (hcl : x.closed = true) (hst : step C s d (.slice x lo hi) = some s') : ReadsAlike C s s' t d (.slice x lo hi) := by
  simp only [step] at hst
  split at hst
  · rename_i v p q hv hp hq
    split at hst
    · rename_i l hh' hb
      exact ⟨_, hst, by simp only [step, eval_le h hx hv, opt_le h hl hp, opt_le h hh hq, hb]⟩
    · cases hst
  · rename_i p q hv hp hq
    split at hst
    · rename_i l hh' hb
      exact ⟨_, hst, by simp only [step, eval_le h hx hv, opt_le h hl hp, opt_le h hh hq, hb]⟩
    · cases hst
  · rename_i n xs p q hv hp hq
    split at hst
    · rename_i l hh' hb
      exact ⟨_, hst, by simp only [step, eval_le h hx hv, opt_le h hl hp, opt_le h hh hq, hb]⟩
    · cases hst
  · rename_i r p q hv hp hq
    obtain ⟨e1, hok⟩ := eval_known h hx hcl hv
    split at hst
    · rename_i g hg
      split at hst
      · rename_i l hh' hb
        obtain ⟨g', h1, _, h2⟩ := row_le h (hok.1 r (by simp [ids])) hg
        exact ⟨_, hst, by simp only [step, e1, opt_le h hl hp, opt_le h hh hq, h1, h2, hb]⟩
      · cases hst
    · cases hst
  · rename_i r a b p q hv hp hq
    split at hst
    · rename_i l hh' hb
      exact ⟨_, hst, by simp only [step, eval_le h hx hv, opt_le h hl hp, opt_le h hh hq, hb]⟩
    · cases hst
  · cases hst
theorem ra_fieldAddr {x : VA} {f : Nat} (h : Le B us s t) (hx : ∀ u ∈ x.uses, u ∈ us) (hst : step C s d (.fieldAddr x f) = some s') : ReadsAlike C s s' t d (.fieldAddr x f) := by
  simp only [step] at hst
  split at hst
  · rename_i hv; exact ⟨_, hst, by simp only [step, eval_le h hx hv]⟩
  · rename_i hv; exact ⟨_, hst, by simp only [step, eval_le h hx hv]⟩
  · rename_i hv
    split at hst
    · rename_i v hf; exact ⟨_, hst, by simp only [step, eval_le h hx hv, hf]⟩
    · cases hst
  · cases hst
theorem ra_field {x : VA} {f : Nat} (h : Le B us s t) (hx : ∀ u ∈ x.uses, u ∈ us) (hst : step C s d (.field x f) = some s') : ReadsAlike C s s' t d (.field x f) := by
  simp only [step] at hst
  split at hst
  · rename_i hv
    split at hst
    · rename_i v hf; exact ⟨_, hst, by simp only [step, eval_le h hx hv, hf]⟩
    · cases hst
  · cases hst
theorem ra_extract {x : VA} {f : Nat} (h : Le B us s t) (hx : ∀ u ∈ x.uses, u ∈ us) (hst : step C s d (.extract x f) = some s') : ReadsAlike C s s' t d (.extract x f) := by
  simp only [step] at hst
  split at hst
  · rename_i hv
    split at hst
    · rename_i v hf; exact ⟨_, hst, by simp only [step, eval_le h hx hv, hf]⟩
    · cases hst
  · cases hst
theorem ra_index {x y : VA} (h : Le B us s t) (hx : ∀ u ∈ x.uses, u ∈ us) (hy : ∀ u ∈ y.uses, u ∈ us) (hst : step C s d (.index x y) = some s') : ReadsAlike C s s' t d (.index x y) := by
  simp only [step] at hst
  split at hst
  · rename_i hu hv
    split at hst
    · rename_i h0
      split at hst
      · rename_i c hc; exact ⟨_, hst, by simp only [step, eval_le h hx hu, eval_le h hy hv, if_pos h0, hc]⟩
      · cases hst
    · cases hst
  · rename_i hu hv
    split at hst
    · rename_i h0
      split at hst
      · rename_i c hc; exact ⟨_, hst, by simp only [step, eval_le h hx hu, eval_le h hy hv, if_pos h0, hc]⟩
      · cases hst
    · cases hst
  · cases hst
theorem ra_minmax {mx : Bool} {x y : VA} (h : Le B us s t) (hx : ∀ u ∈ x.uses, u ∈ us) (hy : ∀ u ∈ y.uses, u ∈ us) (hst : step C s d (.minmax mx x y) = some s') : ReadsAlike C s s' t d (.minmax mx x y) := by
  simp only [step] at hst
  split at hst
  · rename_i hu hv
    split at hst
    · rename_i h0
      exact ⟨_, hst, by simp only [step, eval_le h hx hu, eval_le h hy hv, if_pos h0]⟩
    · cases hst
  · cases hst
theorem ra_lookup {e : TD} {x y : VA} {ok : Bool} (h : Le B us s t) (hx : ∀ u ∈ x.uses, u ∈ us) (hy : ∀ u ∈ y.uses, u ∈ us) (hcl : x.closed = true) (hst : step C s d (.lookup e x y ok) = some s') : ReadsAlike C s s' t d (.lookup e x y ok) := by
  simp only [step] at hst
  split at hst
  · rename_i m k hm hk
    obtain ⟨e1, hok⟩ := eval_known h hx hcl hm
    split at hst
    · rename_i hp
      split at hst
      · rename_i es hes
        have e2 := entries_le h hok hes
        split at hst
        · rename_i v hf; exact ⟨_, hst, by simp only [step, e1, eval_le h hy hk, if_pos hp, e2, hf]⟩
        · rename_i hf; exact ⟨_, hst, by simp only [step, e1, eval_le h hy hk, if_pos hp, e2, hf]⟩
        · cases hst
      · cases hst
    · cases hst
  · cases hst
end Go.Vm
end
section
set_option linter.unusedSimpArgs false
set_option linter.unusedVariables false
namespace Go.Vm
variable {P : Program} {F : Fr} {w w' : World} {st st' : St} {a a' : Act} {E E' : Env} {K : Act → World → Prop} {Q : Exit → Act → World → Prop} {o : Oper} {C : Nat → List PV → Option (PV × List PV)}
variable {B : Kn} {s s' t : St} {us : List Nat} {d : Option Nat}

theorem ra_len {x : VA} (h : Le B us s t) (hx : ∀ u ∈ x.uses, u ∈ us) (hcl : x.closed = true) (hst : step C s d (.len x) = some s') : ReadsAlike C s s' t d (.len x) := by
  simp only [step] at hst
  split at hst
  · rename_i hv; exact ⟨_, hst, by simp only [step, eval_le h hx hv]⟩
  · rename_i hv; exact ⟨_, hst, by simp only [step, eval_le h hx hv]⟩
  · rename_i hv; exact ⟨_, hst, by simp only [step, eval_le h hx hv]⟩
  · rename_i r hv
    obtain ⟨e1, hok⟩ := eval_known h hx hcl hv
    split at hst
    · rename_i fz es hg
      obtain ⟨g', h1, h2⟩ := h.rg r (hok.1 r (by simp [ids])) _ hg
      cases g' with
      | row g' => exact h2.elim
      | mp fz' es' => simp only [RegC.alike] at h2; subst h2; exact ⟨_, hst, by simp only [step, e1, h1]⟩
    · cases hst
  · rename_i u hn1 hn2 hn3 hn4 hv
    obtain ⟨e1, hok⟩ := eval_known h hx hcl hv
    split at hst
    · rename_i n xs hc
      refine ⟨_, hst, ?_⟩
      have e2 := content_le h hok hc
      simp only [step, e1]
      cases u <;> first | exact absurd rfl (hn1 _) | exact absurd rfl (hn2 _) | exact absurd rfl (hn3 _) | exact absurd rfl (hn4 _) | simp only [e2] | (simp only [St.content] at hc; cases hc)
    · cases hst
  · cases hst
theorem parts_le (h : Le B us s t) : ∀ {ps : List (Nat × VA)}, (∀ u ∈ usesP ps, u ∈ us) → ∀ {l : List (Nat × PV)}, evalParts s ps = some l → evalParts t ps = some l
  | [], _, l, hl => by simpa only [evalParts] using hl
  | (i, x) :: ps, hu, l, hl => by
    simp only [evalParts] at hl ⊢
    split at hl
    · rename_i v hv
      rw [eval_le h (fun u hu' => hu u (by simp [usesP, hu'])) hv]
      split at hl
      · rename_i l' hl'
        rw [parts_le h (fun u hu' => hu u (by simp [usesP, hu'])) hl']
        exact hl
      · cases hl
    · cases hl
theorem ra_build {fs : List TD} {ps : List (Nat × VA)} (h : Le B us s t) (hx : ∀ u ∈ usesP ps, u ∈ us) (hst : step C s d (.build (.struct fs) ps) = some s') : ReadsAlike C s s' t d (.build (.struct fs) ps) := by
  simp only [step] at hst
  split at hst
  · rename_i l hl
    split at hst
    · rename_i r hr
      exact ⟨_, hst, by simp only [step, parts_le h hx hl, hr]⟩
    · cases hst
  · cases hst
theorem ra_indexAddr {x y : VA} (h : Le B us s t) (hx : ∀ u ∈ x.uses, u ∈ us) (hy : ∀ u ∈ y.uses, u ∈ us) (hcl : x.closed = true) (hst : step C s d (.indexAddr x y) = some s') : ReadsAlike C s s' t d (.indexAddr x y) := by
  simp only [step] at hst
  split at hst
  · rename_i u k i hu hi
    obtain ⟨e1, hok⟩ := eval_known h hx hcl hu
    have e2 := eval_le h hy hi
    split at hst
    · rename_i h0
      split at hst
      · rename_i b p
        split at hst
        · rename_i xs hxs
          split at hst
          · rename_i hlt
            split at hxs
            · rename_i v hb
              have := (h.bx b (hok.2 b (by simp [bxs])) v hb).1
              exact ⟨_, hst, by simp only [step, e1, e2, if_pos h0, this, hxs, if_pos hlt]⟩
            · cases hxs
          · cases hst
        · cases hst
      · rename_i r j p
        split at hst
        · rename_i xs hxs
          split at hst
          · rename_i hlt
            split at hxs
            · rename_i g hg
              obtain ⟨g', h1, _, h2⟩ := row_le h (hok.1 r (by simp [ids])) hg
              refine ⟨_, hst, ?_⟩
              simp only [step, e1, e2, if_pos h0, h1, h2, hxs, if_pos hlt]
            · cases hxs
          · cases hst
        · cases hst
      · rename_i xs
        split at hst
        · rename_i v hv
          exact ⟨_, hst, by simp only [step, e1, e2, if_pos h0, hv]⟩
        · cases hst
      · rename_i n xs
        split at hst
        · rename_i v hv
          exact ⟨_, hst, by simp only [step, e1, e2, if_pos h0, hv]⟩
        · cases hst
      · rename_i r
        split at hst
        · rename_i g hg
          split at hst
          · rename_i hlt
            obtain ⟨g', h1, _, h2⟩ := row_le h (hok.1 r (by simp [ids])) hg
            exact ⟨_, hst, by simp only [step, e1, e2, if_pos h0, h1, h2, if_pos hlt]⟩
          · cases hst
        · cases hst
      · rename_i r lo hi'
        split at hst
        · rename_i g hg
          split at hst
          · rename_i hlt
            obtain ⟨g', h1, _, h2⟩ := row_le h (hok.1 r (by simp [ids])) hg
            exact ⟨_, hst, by simp only [step, e1, e2, if_pos h0, h1, h2, if_pos hlt]⟩
          · cases hst
        · cases hst
      · cases hst
    · cases hst
  · cases hst
end Go.Vm
end
section
set_option linter.unusedSimpArgs false
set_option linter.unusedVariables false
namespace Go.Vm
variable {P : Program} {F : Fr} {w w' : World} {st st' : St} {a a' : Act} {E E' : Env} {K : Act → World → Prop} {Q : Exit → Act → World → Prop} {o : Oper} {C : Nat → List PV → Option (PV × List PV)}
variable {B : Kn} {s s' t : St} {us : List Nat} {d : Option Nat} {n : Nat}

/-- A value for the slot; a box's content; new regions; what is frozen; what is dropped. -/
structure Eff where
  v : PV
  bx : Option PV
  rg : List (RId × RegC)
  fr : List RId
  dr : List RId
def dropAll : List RId → List (RId × RegC) → List (RId × RegC)
  | [], l => l
  | r :: rs, l => dropAll rs (dropR r l)
def Eff.on (e : Eff) (n : Nat) (s : St) : St :=
  ⟨put n e.v s.sl, (match e.bx with | some x => (n, x) :: s.bx | none => s.bx), e.rg ++ dropAll e.dr (s.freeze e.fr).rg⟩

def isApp : VO → Bool
  | .append _ _ _ => true
  | _ => false
/-- It does the same in both states. -/
def Acts (C : Nat → List PV → Option (PV × List PV)) (B : Kn) (s s' t : St) (n : Nat) (op : VO) : Prop :=
  ∃ e : Eff, s' = e.on n s ∧ step C t (some n) op = some (e.on n t) ∧ (∀ r ∈ e.fr, B.n r ∧ ∃ g, lookR r s.rg = some g) ∧ (∀ r ∈ e.dr, B.n r ∧ ∃ g, lookR r s.rg = some (.row g) ∧ g.frozen = false) ∧ (∀ x ∈ e.rg, Under [0, n] x.1) ∧ (e.rg ≠ [] → look n s.sl = none) ∧ (e.bx.isSome → look n s.bx = none) ∧ (isApp op = false → e.dr = [])

theorem ReadsAlike.acts {op : VO} (h : ReadsAlike C s s' t (some n) op) : Acts C B s s' t n op := by
  obtain ⟨v, h1, h2⟩ := h
  simp only [St.putS, Option.some.injEq] at h1 h2
  exact ⟨⟨v, none, [], [], []⟩, h1.symm, h2, by simp, by simp, by simp, by simp, by simp, fun _ => rfl⟩

theorem newBox_acts {v : PV} {op : VO} (hs : s.newBox (some n) v = some s') (hb : look n t.bx = none) (hop : step C t (some n) op = t.newBox (some n) v) : Acts C B s s' t n op := by
  simp only [St.newBox] at hs hop
  split at hs
  · cases hs
  · rename_i hl
    split at hs
    · rename_i hlk
      injection hs with hs
      subst hs
      refine ⟨⟨.ptr n [], some v, [], [], []⟩, rfl, ?_, by simp, by simp, by simp, by simp, fun _ => hlk, fun _ => rfl⟩
      rw [hop, if_neg hl, hb]
      rfl
    · cases hs
theorem ac_alloc {td : TD} (hst : step C s (some n) (.alloc td) = some s') (hb : look n t.bx = none) : Acts C B s s' t n (.alloc td) := newBox_acts hst hb rfl
theorem ac_box {td : TD} {x : VA} (h : Le B us s t) (hx : ∀ u ∈ x.uses, u ∈ us) (hst : step C s (some n) (.box td x) = some s') (hb : look n t.bx = none) : Acts C B s s' t n (.box td x) := by
  simp only [step] at hst
  split at hst
  · rename_i v hv
    exact newBox_acts hst hb (by simp only [step, eval_le h hx hv])
  · cases hst
theorem newReg_acts {g : Reg} {fr : List RId} {op : VO} (hs : (s.freeze fr).newReg (some n) g = some s') (ht : look n t.sl = none) (hfr : ∀ r ∈ fr, B.n r ∧ ∃ g, lookR r s.rg = some g) (hop : step C t (some n) op = (t.freeze fr).newReg (some n) g) : Acts C B s s' t n op := by
  simp only [St.newReg, (freeze_sl fr s).1, (freeze_sl fr t).1] at hs hop
  split at hs
  · rename_i hlk
    injection hs with hs
    subst hs
    refine ⟨⟨.ref [0, n], none, [([0, n], .row g)], fr, []⟩, ?_, ?_, hfr, by simp, ?_, fun _ => hlk, by simp, fun _ => rfl⟩
    · simp only [Eff.on, dropAll, List.cons_append, List.nil_append, (freeze_sl fr s).2]
    · rw [hop, ht]
      simp only [Eff.on, dropAll, List.cons_append, List.nil_append, (freeze_sl fr t).2]
    · intro x hx
      simp only [List.mem_singleton] at hx
      subst hx
      exact ⟨[], by simp⟩
  · cases hs
end Go.Vm
end
section
set_option linter.unusedSimpArgs false
set_option linter.unusedVariables false
namespace Go.Vm
variable {P : Program} {F : Fr} {w w' : World} {st st' : St} {a a' : Act} {E E' : Env} {K : Act → World → Prop} {Q : Exit → Act → World → Prop} {o : Oper} {C : Nat → List PV → Option (PV × List PV)}
variable {B : Kn} {s s' t : St} {us : List Nat} {d : Option Nat} {n : Nat}

mutual
theorem imm_known : ∀ {p : PV} {c : PV × List RId}, s.imm p = some c → ∀ r ∈ c.2, r ∈ ids p ∧ ∃ g, lookR r s.rg = some g
  | .bool _, c, hc, r, hr | .int _ _, c, hc, r, hr | .str _, c, hc, r, hr | .arr _, c, hc, r, hr | .nil, c, hc, r, hr | .sl _ _, c, hc, r, hr | .nilp, c, hc, r, hr | .map _, c, hc, r, hr | .fn _, c, hc, r, hr => by
    simp only [St.imm, Option.some.injEq] at hc; subst hc; simp at hr
  | .own _ _, c, hc, r, hr | .omap _, c, hc, r, hr | .ptr _ _, c, hc, r, hr | .eptr _ _ _, c, hc, r, hr | .rptr _, c, hc, r, hr | .inout _, c, hc, r, hr | .undef, c, hc, r, hr | .dead, c, hc, r, hr => by simp only [St.imm] at hc; cases hc
  | .agg fs, c, hc, r, hr => by
    simp only [St.imm] at hc
    split at hc
    · rename_i gs l hg
      injection hc with hc
      subst hc
      simpa only [ids] using imms_known hg r hr
    · cases hc
  | .ref r0, c, hc, r, hr => by
    simp only [St.imm] at hc
    split at hc
    · rename_i g hg
      injection hc with hc
      subst hc
      simp only [List.mem_singleton] at hr
      subst hr
      exact ⟨by simp [ids], _, hg⟩
    · cases hc
  | .sub r0 lo hi, c, hc, r, hr => by
    simp only [St.imm] at hc
    split at hc
    · rename_i g hg
      split at hc
      · injection hc with hc
        subst hc
        simp only [List.mem_singleton] at hr
        subst hr
        exact ⟨by simp [ids], _, hg⟩
      · cases hc
    · cases hc
  | .mref r0, c, hc, r, hr => by
    simp only [St.imm] at hc
    split at hc
    · rename_i fz es hg
      injection hc with hc
      subst hc
      simp only [List.mem_singleton] at hr
      subst hr
      exact ⟨by simp [ids], _, hg⟩
    · cases hc
theorem imms_known : ∀ {ps : List PV} {c : List PV × List RId}, s.imms ps = some c → ∀ r ∈ c.2, r ∈ idss ps ∧ ∃ g, lookR r s.rg = some g
  | [], c, hc, r, hr => by simp only [St.imms, Option.some.injEq] at hc; subst hc; simp at hr
  | p :: ps, c, hc, r, hr => by
    simp only [St.imms] at hc
    split at hc
    · rename_i y l hy
      split at hc
      · rename_i ys m hys
        injection hc with hc
        subst hc
        simp only [List.mem_append] at hr
        rcases hr with hr | hr
        · obtain ⟨h1, h2⟩ := imm_known hy r hr
          exact ⟨by simp [idss, h1], h2⟩
        · obtain ⟨h1, h2⟩ := imms_known hys r hr
          exact ⟨by simp [idss, h1], h2⟩
      · cases hc
    · cases hc
end
def closedP : List (Nat × VA) → Bool
  | [] => true
  | (_, x) :: r => x.closed && closedP r
theorem parts_known (h : Le B us s t) : ∀ {ps : List (Nat × VA)}, (∀ u ∈ usesP ps, u ∈ us) → closedP ps = true → ∀ {l : List (Nat × PV)}, evalParts s ps = some l → ∀ r ∈ idss (fst2 l), B.n r
  | [], _, _, l, hl, r, hr => by simp only [evalParts, Option.some.injEq] at hl; subst hl; simp [fst2, idss] at hr
  | (i, x) :: ps, hu, hc, l, hl, r, hr => by
    simp only [closedP, Bool.and_eq_true] at hc
    simp only [evalParts] at hl
    split at hl
    · rename_i v hv
      split at hl
      · rename_i l' hl'
        injection hl with hl
        subst hl
        simp only [fst2, idss, List.mem_append] at hr
        rcases hr with hr | hr
        · exact (eval_known h (fun u hu' => hu u (by simp [usesP, hu'])) hc.1 hv).2.1 r hr
        · exact parts_known h (fun u hu' => hu u (by simp [usesP, hu'])) hc.2 hl' r hr
      · cases hl
    · cases hl
theorem ac_buildSlice {e : TD} {len : Nat} {ps : List (Nat × VA)} (h : Le B us s t) (hx : ∀ u ∈ usesP ps, u ∈ us) (hcl : closedP ps = true) (hst : step C s (some n) (.buildSlice e len ps) = some s') (ht : look n t.sl = none) : Acts C B s s' t n (.buildSlice e len ps) := by
  simp only [step] at hst
  split at hst
  · rename_i l hl
    split at hst
    · rename_i vs rs hvs
      split at hst
      · rename_i r hr
        have hk := parts_known h hx hcl hl
        refine newReg_acts (fr := rs) hst ht (fun q hq => ?_) (by simp only [step, parts_le h hx hl, imms_le h hk hvs, hr])
        obtain ⟨h1, h2⟩ := imms_known hvs q hq
        exact ⟨hk q h1, h2⟩
      · cases hst
    · cases hst
  · cases hst
theorem ac_makeSlice {e : TD} {b : Nat} {x y : VA} (h : Le B us s t) (hx : ∀ u ∈ x.uses, u ∈ us) (hy : ∀ u ∈ y.uses, u ∈ us) (hst : step C s (some n) (.makeSlice e b x y) = some s') (ht : look n t.sl = none) : Acts C B s s' t n (.makeSlice e b x y) := by
  simp only [step] at hst
  split at hst
  · rename_i hl hc
    split at hst
    · rename_i hb
      exact newReg_acts (fr := []) hst ht (by simp) (by simp only [step, eval_le h hx hl, eval_le h hy hc, if_pos hb]; rfl)
    · cases hst
  · cases hst
theorem ac_buildArr {e : TD} {m : Nat} {ps : List (Nat × VA)} (h : Le B us s t) (hx : ∀ u ∈ usesP ps, u ∈ us) (hcl : closedP ps = true) (hst : step C s (some n) (.build (.arr m e) ps) = some s') : Acts C B s s' t n (.build (.arr m e) ps) := by
  simp only [step] at hst
  split at hst
  · rename_i l hl
    split at hst
    · rename_i vs rs hvs
      split at hst
      · rename_i r hr
        have hk := parts_known h hx hcl hl
        simp only [St.putS, Option.some.injEq] at hst
        subst hst
        refine ⟨⟨.arr r, none, [], rs, []⟩, ?_, ?_, fun q hq => ?_, by simp, by simp, by simp, by simp, fun _ => rfl⟩
        · simp only [Eff.on, dropAll, List.nil_append, (freeze_sl rs s).1, (freeze_sl rs s).2]
        · simp only [step, parts_le h hx hl, imms_le h hk hvs, hr, St.putS, Eff.on, dropAll, List.nil_append, (freeze_sl rs t).1, (freeze_sl rs t).2]
        · obtain ⟨h1, h2⟩ := imms_known hvs q hq
          exact ⟨hk q h1, h2⟩
      · cases hst
    · cases hst
  · cases hst
end Go.Vm
end
section
set_option linter.unusedSimpArgs false
set_option linter.unusedVariables false
namespace Go.Vm
variable {P : Program} {F : Fr} {w w' : World} {st st' : St} {a a' : Act} {E E' : Env} {K : Act → World → Prop} {Q : Exit → Act → World → Prop} {o : Oper} {C : Nat → List PV → Option (PV × List PV)}
variable {B : Kn} {s s' t : St} {us : List Nat} {d : Option Nat} {n : Nat}

theorem ac_makeMap (hst : step C s (some n) .makeMap = some s') (ht : look n t.sl = none) : Acts C B s s' t n .makeMap := by
  simp only [step] at hst
  split at hst
  · rename_i hlk
    injection hst with hst
    subst hst
    refine ⟨⟨.mref [0, n], none, [([0, n], .mp false [])], [], []⟩, rfl, ?_, by simp, by simp, ?_, fun _ => hlk, by simp, fun _ => rfl⟩
    · simp only [step, ht, Eff.on, dropAll, St.freeze, List.cons_append, List.nil_append]
    · intro x hx
      simp only [List.mem_singleton] at hx
      subst hx
      exact ⟨[], by simp⟩
  · cases hst

/-- A new region that takes an old one's place. -/
theorem dropReg_acts {g g0 : Reg} {r : RId} {op : VO} (hs : ({ s with rg := dropR r s.rg } : St).newReg (some n) g = some s') (ht : look n t.sl = none) (hr : B.n r) (hg : lookR r s.rg = some (.row g0)) (hf : g0.frozen = false)
    (hop : step C t (some n) op = ({ t with rg := dropR r t.rg } : St).newReg (some n) g) (ha : isApp op = true) : Acts C B s s' t n op := by
  simp only [St.newReg] at hs hop
  split at hs
  · rename_i hlk
    injection hs with hs
    subst hs
    refine ⟨⟨.ref [0, n], none, [([0, n], .row g)], [], [r]⟩, rfl, ?_, by simp, ?_, ?_, fun _ => hlk, by simp, fun h => absurd h (by rw [ha]; simp)⟩
    · rw [hop, ht]
      rfl
    · intro q hq
      simp only [List.mem_singleton] at hq
      subst hq
      exact ⟨hr, g0, hg, hf⟩
    · intro x hx
      simp only [List.mem_singleton] at hx
      subst hx
      exact ⟨[], by simp⟩
  · cases hs

theorem drop_gone {r : RId} {g : Reg} (hs : ({ s with rg := dropR r s.rg } : St).newReg (some n) g = some s') (hr : r ≠ [0, n]) : lookR r s'.rg = none := by
  simp only [St.newReg] at hs
  split at hs
  · injection hs with hs
    subst hs
    simp only [lookR]
    rw [if_neg (fun e => hr e.symm), lookR_drop, if_pos rfl]
  · cases hs
theorem ac_append {b : Nat} {x y : VA} (h : Le B us s t) (hx : ∀ u ∈ x.uses, u ∈ us) (hy : ∀ u ∈ y.uses, u ∈ us) (hcx : x.closed = true) (hcy : y.closed = true) (hst : step C s (some n) (.append b x y) = some s') (ht : look n t.sl = none)
    (hz : ∀ r g g', B.n r → lookR r s.rg = some (.row g) → g.frozen = false → lookR r s'.rg = none → lookR r t.rg = some (.row g') → g'.frozen = false)
    (hnm : ∀ r g, lookR r s.rg = some g → r ≠ [0, n]) : Acts C B s s' t n (.append b x y) := by
  simp only [step] at hst
  split at hst
  · rename_i u v hu hv
    obtain ⟨e1, hok⟩ := eval_known h hx hcx hu
    obtain ⟨e2, hok2⟩ := eval_known h hy hcy hv
    split at hst
    · rename_i ys hys
      have e3 : t.news v = some ys := by
        unfold St.news at hys ⊢
        split at hys
        · exact hys
        · split at hys
          · rename_i nn zs hz'
            rw [content_le h hok2 hz']
            exact hys
          · cases hys
      split at hst
      · split at hst
        · rename_i hb
          exact newReg_acts (fr := []) hst ht (by simp) (by simp only [step, e1, e2, e3, if_pos hb]; rfl)
        · cases hst
      · split at hst
        · rename_i hb
          exact newReg_acts (fr := []) hst ht (by simp) (by simp only [step, e1, e2, e3, if_pos hb]; rfl)
        · cases hst
      · rename_i r
        split at hst
        · rename_i g hg
          split at hst
          · rename_i hb
            have hr := hok.1 r (by simp [ids])
            have hf : g.frozen = false := by simpa using hb.1
            obtain ⟨g', h1, h2, h3⟩ := row_le h hr hg
            have hf' := hz r g g' hr hg hf (drop_gone hst (hnm r _ hg)) h1
            exact dropReg_acts hst ht hr hg hf (by simp only [step, e1, e2, e3, h1, h2, h3, hf']; rw [if_pos ⟨by simp, hb.2⟩]) rfl
          · cases hst
        · cases hst
      · rename_i r lo hi
        split at hst
        · rename_i g hg
          split at hst
          · rename_i hb
            have hr := hok.1 r (by simp [ids])
            have hf : g.frozen = false := by simpa using hb.1
            obtain ⟨g', h1, h2, h3⟩ := row_le h hr hg
            have hf' := hz r g g' hr hg hf (drop_gone hst (hnm r _ hg)) h1
            exact dropReg_acts hst ht hr hg hf (by simp only [step, e1, e2, e3, h1, h2, h3, hf']; rw [if_pos ⟨by simp, hb.2⟩]) rfl
          · cases hst
        · cases hst
      · cases hst
    · cases hst
  · cases hst
end Go.Vm
end
section
set_option linter.unusedSimpArgs false
set_option linter.unusedVariables false
namespace Go.Vm
variable {P : Program} {F : Fr} {w w' : World} {st st' : St} {a a' : Act} {E E' : Env} {K : Act → World → Prop} {Q : Exit → Act → World → Prop} {o : Oper} {C : Nat → List PV → Option (PV × List PV)}
variable {B : Kn} {s s' t : St} {us : List Nat} {d : Option Nat} {n : Nat}

mutual
theorem imp_under : ∀ (p : PV) (base : RId), ∀ x ∈ (imp base p).2, Under base x.1
  | .own _ _, base, x, hx => by simp only [imp, List.mem_singleton] at hx; subst hx; exact ⟨[], by simp⟩
  | .omap _, base, x, hx => by simp only [imp, List.mem_singleton] at hx; subst hx; exact ⟨[], by simp⟩
  | .agg fs, base, x, hx => imps_under fs base 0 x (by simpa only [imp] using hx)
  | .bool _, _, x, hx | .int _ _, _, x, hx | .str _, _, x, hx | .arr _, _, x, hx | .nil, _, x, hx | .sl _ _, _, x, hx | .nilp, _, x, hx | .map _, _, x, hx | .fn _, _, x, hx => by simp only [imp] at hx; cases hx
  | .ref _, _, x, hx | .sub _ _ _, _, x, hx | .mref _, _, x, hx | .ptr _ _, _, x, hx | .eptr _ _ _, _, x, hx | .rptr _, _, x, hx | .inout _, _, x, hx | .undef, _, x, hx | .dead, _, x, hx => by simp only [imp] at hx; cases hx
theorem imps_under : ∀ (ps : List PV) (base : RId) (i : Nat), ∀ x ∈ (imps base i ps).2, Under base x.1
  | [], _, _, x, hx => by simp only [imps] at hx; cases hx
  | p :: ps, base, i, x, hx => by
    simp only [imps, List.mem_append] at hx
    rcases hx with hx | hx
    · exact (imp_under p (base ++ [i]) x hx).next
    · exact imps_under ps base (i + 1) x hx
end

def closedL : List VA → Bool
  | [] => true
  | x :: r => x.closed && closedL r
theorem args_le (h : Le B us s t) : ∀ {xs : List VA}, (∀ u ∈ usesL xs, u ∈ us) → closedL xs = true → ∀ {l : List PV}, evalArgs s xs = some l → evalArgs t xs = some l ∧ ∀ r ∈ idss l, B.n r
  | [], _, _, l, hl => by simp only [evalArgs, Option.some.injEq] at hl; subst hl; exact ⟨rfl, by simp [idss]⟩
  | x :: xs, hu, hc, l, hl => by
    simp only [closedL, Bool.and_eq_true] at hc
    simp only [evalArgs] at hl
    split at hl
    · rename_i v hv
      split at hl
      · rename_i l' hl'
        injection hl with hl
        subst hl
        obtain ⟨e1, k1⟩ := eval_known h (fun u hu' => hu u (by simp [usesL, hu'])) hc.1 hv
        obtain ⟨e2, k2⟩ := args_le h (fun u hu' => hu u (by simp [usesL, hu'])) hc.2 hl'
        refine ⟨by simp only [evalArgs, e1, e2], fun r hr => ?_⟩
        simp only [idss, List.mem_append] at hr
        rcases hr with hr | hr
        · exact k1.1 r hr
        · exact k2 r hr
      · cases hl
    · cases hl
theorem argRs_le (h : Le B us s t) : ∀ {l : List PV}, (∀ r ∈ idss l, B.n r) → ∀ {rs : List RId}, s.argRs l = some rs → t.argRs l = some rs ∧ ∀ r ∈ rs, B.n r ∧ ∃ g, lookR r s.rg = some g
  | [], _, rs, hr => by simp only [St.argRs, Option.some.injEq] at hr; subst hr; exact ⟨rfl, by simp⟩
  | p :: l, hk, rs, hr => by
    have hk1 : ∀ r ∈ ids p, B.n r := fun r hr => hk r (by simp [idss, hr])
    have hk2 : ∀ r ∈ idss l, B.n r := fun r hr => hk r (by simp [idss, hr])
    have plain : (match s.imm p with | some (_, l1) => (match St.argRs s l with | some m => some (l1 ++ m) | none => none) | none => none) = some rs →
        (match t.imm p with | some (_, l1) => (match St.argRs t l with | some m => some (l1 ++ m) | none => none) | none => none) = some rs ∧ ∀ r ∈ rs, B.n r ∧ ∃ g, lookR r s.rg = some g := by
      intro h1
      cases hi : s.imm p with
      | none => rw [hi] at h1; cases h1
      | some yl =>
        obtain ⟨y, l1⟩ := yl
        rw [hi] at h1
        simp only at h1
        split at h1
        · rename_i m hm
          injection h1 with h1
          subst h1
          obtain ⟨e1, k1⟩ := argRs_le h hk2 hm
          rw [imm_le h hk1 hi]
          simp only [e1]
          refine ⟨trivial, fun r hr => ?_⟩
          rcases List.mem_append.1 hr with hr | hr
          · obtain ⟨g1, g2⟩ := imm_known hi r hr
            exact ⟨hk1 r g1, g2⟩
          · exact k1 r hr
        · cases h1
    cases p with
    | ptr b path => simp only [St.argRs] at hr ⊢; exact argRs_le h hk2 hr
    | rptr x => simp only [St.argRs] at hr ⊢; exact argRs_le h hk2 hr
    | _ => simp only [St.argRs] at hr ⊢; exact plain hr
theorem outArgs_le (h : Le B us s t) (rs : List RId) : ∀ {l : List PV}, (∀ r ∈ idss l, B.n r) → ∀ {ps : List PV} {ls : List RId} {bs : List Nat}, (s.freeze rs).outArgs l = some (ps, ls, bs) → bs = [] → ∃ ls', (t.freeze rs).outArgs l = some (ps, ls', [])
  | [], _, ps, ls, bs, hr, _ => by simp only [St.outArgs, Option.some.injEq, Prod.mk.injEq] at hr; obtain ⟨rfl, _, _⟩ := hr; exact ⟨[], rfl⟩
  | p :: l, hk, ps, ls, bs, hr, hb => by
    have hk1 : ∀ r ∈ ids p, B.n r := fun r hr => hk r (by simp [idss, hr])
    have hk2 : ∀ r ∈ idss l, B.n r := fun r hr => hk r (by simp [idss, hr])
    have plain : (match (s.freeze rs).imm p with | some (y, _) => (match St.outArgs (s.freeze rs) l with | some (ys, m, bs) => some (y :: ys, m, bs) | none => none) | none => none) = some (ps, ls, bs) →
        ∃ ls', (match (t.freeze rs).imm p with | some (y, _) => (match St.outArgs (t.freeze rs) l with | some (ys, m, bs) => some (y :: ys, m, bs) | none => none) | none => none) = some (ps, ls', []) := by
      intro h1
      cases hi : (s.freeze rs).imm p with
      | none => rw [hi] at h1; cases h1
      | some yl =>
        obtain ⟨y, l1⟩ := yl
        rw [hi] at h1
        simp only at h1
        split at h1
        · rename_i ys m bs' hm
          simp only [Option.some.injEq, Prod.mk.injEq] at h1
          obtain ⟨rfl, _, rfl⟩ := h1
          obtain ⟨ls', e1⟩ := outArgs_le h rs hk2 hm hb
          rw [imm_freeze] at hi
          rw [imm_freeze, imm_le h hk1 hi]
          exact ⟨ls', by simp only [e1]⟩
        · cases h1
    cases p with
    | ptr b path =>
      cases path with
      | nil =>
        simp only [St.outArgs] at hr
        split at hr
        · split at hr
          · split at hr
            · simp only [Option.some.injEq, Prod.mk.injEq] at hr
              obtain ⟨_, _, rfl⟩ := hr
              cases hb
            · cases hr
          · cases hr
        · cases hr
      | cons i path =>
        simp only [St.outArgs, St.imm] at hr
        cases hr
    | rptr x =>
      simp only [St.outArgs] at hr ⊢
      split at hr
      · rename_i ys m bs' hm
        simp only [Option.some.injEq, Prod.mk.injEq] at hr
        obtain ⟨rfl, _, rfl⟩ := hr
        obtain ⟨ls', e1⟩ := outArgs_le h rs hk2 hm hb
        exact ⟨ls', by simp only [e1]⟩
      · cases hr
    | _ => simp only [St.outArgs] at hr ⊢; exact plain hr

theorem ac_call {f : Nat} {xs : List VA} {res : TD} (h : Le B us s t) (hx : ∀ u ∈ usesL xs, u ∈ us) (hcl : closedL xs = true) (hst : step C s (some n) (.call f xs res) = some s') (ht : look n t.sl = none) : Acts C B s s' t n (.call f xs res) := by
  simp only [step] at hst
  split at hst
  · rename_i vs hvs
    obtain ⟨e1, hk⟩ := args_le h hx hcl hvs
    split at hst
    · rename_i rs hrs
      obtain ⟨e2, hk2⟩ := argRs_le h hk hrs
      split at hst
      · rename_i ps ls bs hout
        split at hst
        · rename_i hbs
          have hbs : bs = [] := by simpa using hbs
          obtain ⟨ls', e3⟩ := outArgs_le h rs hk hout hbs
          split at hst
          · rename_i r outs hC
            split at hst
            · rename_i hlk
              injection hst with hst
              subst hst
              by_cases hm : (res.mild && r.noSl) = true
              · rw [if_pos hm] at hlk
                refine ⟨⟨(imp [0, n] r).1, none, (imp [0, n] r).2, [], []⟩, ?_, ?_, by simp, by simp, imp_under r [0, n], fun _ => hlk, by simp, fun _ => rfl⟩
                · simp only [if_pos hm, Eff.on, dropAll, St.freeze]
                · simp only [step, e1, e2, e3, List.isEmpty_nil, if_true, hC, if_pos hm, ht, Eff.on, dropAll, St.freeze]
              · rw [if_neg hm, (freeze_sl rs s).1] at hlk
                refine ⟨⟨(imp [0, n] r).1, none, (imp [0, n] r).2, rs, []⟩, ?_, ?_, hk2, by simp, imp_under r [0, n], fun _ => hlk, by simp, fun _ => rfl⟩
                · simp only [if_neg hm, Eff.on, dropAll, (freeze_sl rs s).1, (freeze_sl rs s).2]
                · simp only [step, e1, e2, e3, List.isEmpty_nil, if_true, hC, if_neg hm, (freeze_sl rs t).1, (freeze_sl rs t).2, ht, Eff.on, dropAll]
            · cases hst
          · cases hst
        · cases hst
      · cases hst
    · cases hst
  · cases hst
end Go.Vm
end
section
set_option linter.unusedSimpArgs false
set_option linter.unusedVariables false
namespace Go.Vm
variable {P : Program} {F : Fr} {w w' : World} {st st' : St} {a a' : Act} {E E' : Env} {K : Act → World → Prop} {Q : Exit → Act → World → Prop} {C : Nat → List PV → Option (PV × List PV)}
variable {B : Kn} {s s' t : St} {us : List Nat} {d : Option Nat} {n : Nat}

def VO.uses : VO → List Nat
  | .move x => x.uses
  | .pick c a b => c.uses ++ (a.uses ++ b.uses)
  | .alloc _ => []
  | .box _ x => x.uses
  | .build _ ps => usesP ps
  | .buildSlice _ _ ps => usesP ps
  | .load x => x.uses
  | .store x y => x.uses ++ y.uses
  | .nilCheck x => x.uses
  | .bin _ x y => x.uses ++ y.uses
  | .un _ x => x.uses
  | .convInt _ x => x.uses
  | .convBytes x => x.uses
  | .convStr x => x.uses
  | .makeSlice _ _ l c => l.uses ++ c.uses
  | .slice x lo hi => x.uses ++ (usesO lo ++ usesO hi)
  | .fieldAddr x _ => x.uses
  | .field x _ => x.uses
  | .indexAddr x i => x.uses ++ i.uses
  | .index x i => x.uses ++ i.uses
  | .extract x _ => x.uses
  | .makeMap => []
  | .lookup _ x k _ => x.uses ++ k.uses
  | .mapUpdate x k v => x.uses ++ (k.uses ++ v.uses)
  | .call _ args _ => usesL args
  | .len x => x.uses
  | .append _ x y => x.uses ++ y.uses
  | .minmax _ x y => x.uses ++ y.uses

/-- It may change places with another one. -/
def swaps : VO → Bool
  | .store _ _ => false
  | .mapUpdate _ _ _ => false
  | .build td ps => (match td with | .struct _ => true | .arr _ _ => closedP ps | _ => false)
  | .buildSlice _ _ ps => closedP ps
  | .load x => x.closed
  | .bin _ x _ => x.closed
  | .convStr x => x.closed
  | .slice x _ _ => x.closed
  | .indexAddr x _ => x.closed
  | .lookup _ x _ _ => x.closed
  | .call _ args _ => closedL args
  | .len x => x.closed
  | .append _ x y => x.closed && y.closed
  | _ => true

def makes : VO → Bool
  | .buildSlice _ _ _ | .makeSlice _ _ _ _ | .makeMap | .append _ _ _ | .call _ _ _ => true
  | _ => false
theorem newReg_fresh {g : Reg} (h : s.newReg (some n) g = some s') : look n s.sl = none := by
  simp only [St.newReg] at h
  split at h
  · assumption
  · cases h
theorem newBox_fresh {v : PV} (h : s.newBox (some n) v = some s') : look n s.bx = none := by
  simp only [St.newBox] at h
  split at h
  · cases h
  · split at h
    · assumption
    · cases h
theorem step_fresh {op : VO} (hm : makes op = true) (hst : step C s (some n) op = some s') : look n s.sl = none := by
  cases op <;> simp only [makes, Bool.false_eq_true] at hm <;> simp only [step] at hst
  case buildSlice =>
    split at hst
    · split at hst
      · split at hst
        · have := newReg_fresh hst
          rwa [(freeze_sl _ s).1] at this
        · cases hst
      · cases hst
    · cases hst
  case makeSlice =>
    split at hst
    · split at hst
      · exact newReg_fresh hst
      · cases hst
    · cases hst
  case makeMap =>
    split at hst
    · assumption
    · cases hst
  case append =>
    split at hst
    · split at hst
      · split at hst
        · split at hst
          · exact newReg_fresh hst
          · cases hst
        · split at hst
          · exact newReg_fresh hst
          · cases hst
        · split at hst
          · split at hst
            · have := newReg_fresh hst; exact this
            · cases hst
          · cases hst
        · split at hst
          · split at hst
            · have := newReg_fresh hst; exact this
            · cases hst
          · cases hst
        · cases hst
      · cases hst
    · cases hst
  case call f xs res =>
    split at hst
    · split at hst
      · rename_i rs _
        split at hst
        · split at hst
          · split at hst
            · split at hst
              · rename_i hl
                split at hl
                · exact hl
                · rwa [(freeze_sl _ s).1] at hl
              · cases hst
            · cases hst
          · cases hst
        · cases hst
      · cases hst
    · cases hst

theorem Acts.cast {op : VO} (h : Acts C B s s' t n op) : Acts C B s s' t n op := h

theorem acts_op {op : VO} (h : Le B us s t) (hu : ∀ u ∈ op.uses, u ∈ us) (hc : swaps op = true) (hst : step C s (some n) op = some s') (hsl : look n s.sl = none → look n t.sl = none) (hbx : look n s.bx = none → look n t.bx = none)
    (hz : isApp op = true → ∀ r g g', B.n r → lookR r s.rg = some (.row g) → g.frozen = false → lookR r s'.rg = none → lookR r t.rg = some (.row g') → g'.frozen = false)
    (hnm : look n s.sl = none → ∀ r g, lookR r s.rg = some g → r ≠ [0, n]) : Acts C B s s' t n op := by
  have fr : makes op = true → look n t.sl = none := fun hm => hsl (step_fresh hm hst)
  cases op with
  | move x => exact (ra_move h (fun u hu' => hu u (by simpa [VO.uses] using hu')) hst).acts
  | pick c x y => exact (ra_pick h (fun u hu' => hu u (by simp [VO.uses, hu'])) (fun u hu' => hu u (by simp [VO.uses, hu'])) (fun u hu' => hu u (by simp [VO.uses, hu'])) hst).acts
  | alloc td => exact ac_alloc hst (hbx (newBox_fresh (by simpa only [step] using hst)))
  | box td x =>
    refine ac_box h (fun u hu' => hu u (by simpa [VO.uses] using hu')) hst (hbx ?_)
    simp only [step] at hst
    split at hst
    · exact newBox_fresh hst
    · cases hst
  | build td ps =>
    cases td <;> simp only [swaps, Bool.false_eq_true] at hc
    · exact (ra_build h (fun u hu' => hu u (by simpa [VO.uses] using hu')) hst).acts
    · exact ac_buildArr h (fun u hu' => hu u (by simpa [VO.uses] using hu')) hc hst
  | buildSlice e len ps => exact ac_buildSlice h (fun u hu' => hu u (by simpa [VO.uses] using hu')) (by simpa only [swaps] using hc) hst (fr rfl)
  | load x => exact (ra_load h (fun u hu' => hu u (by simpa [VO.uses] using hu')) (by simpa only [swaps] using hc) hst).acts
  | store x y => simp [swaps] at hc
  | nilCheck x => exact (ra_nilCheck h (fun u hu' => hu u (by simpa [VO.uses] using hu')) hst).acts
  | bin op x y => exact (ra_bin h (fun u hu' => hu u (by simp [VO.uses, hu'])) (fun u hu' => hu u (by simp [VO.uses, hu'])) (by simpa only [swaps] using hc) hst).acts
  | un op x => exact (ra_un h (fun u hu' => hu u (by simpa [VO.uses] using hu')) hst).acts
  | convInt k x => exact (ra_convInt h (fun u hu' => hu u (by simpa [VO.uses] using hu')) hst).acts
  | convBytes x => exact (ra_convBytes h (fun u hu' => hu u (by simpa [VO.uses] using hu')) hst).acts
  | convStr x => exact (ra_convStr h (fun u hu' => hu u (by simpa [VO.uses] using hu')) (by simpa only [swaps] using hc) hst).acts
  | makeSlice e b l c => exact ac_makeSlice h (fun u hu' => hu u (by simp [VO.uses, hu'])) (fun u hu' => hu u (by simp [VO.uses, hu'])) hst (fr rfl)
  | slice x lo hi => exact (ra_slice h (fun u hu' => hu u (by simp [VO.uses, hu'])) (fun u hu' => hu u (by simp [VO.uses, hu'])) (fun u hu' => hu u (by simp [VO.uses, hu'])) (by simpa only [swaps] using hc) hst).acts
  | fieldAddr x f => exact (ra_fieldAddr h (fun u hu' => hu u (by simpa [VO.uses] using hu')) hst).acts
  | field x f => exact (ra_field h (fun u hu' => hu u (by simpa [VO.uses] using hu')) hst).acts
  | indexAddr x i => exact (ra_indexAddr h (fun u hu' => hu u (by simp [VO.uses, hu'])) (fun u hu' => hu u (by simp [VO.uses, hu'])) (by simpa only [swaps] using hc) hst).acts
  | index x i => exact (ra_index h (fun u hu' => hu u (by simp [VO.uses, hu'])) (fun u hu' => hu u (by simp [VO.uses, hu'])) hst).acts
  | extract x i => exact (ra_extract h (fun u hu' => hu u (by simpa [VO.uses] using hu')) hst).acts
  | makeMap => exact ac_makeMap hst (fr rfl)
  | lookup e x k ok => exact (ra_lookup h (fun u hu' => hu u (by simp [VO.uses, hu'])) (fun u hu' => hu u (by simp [VO.uses, hu'])) (by simpa only [swaps] using hc) hst).acts
  | mapUpdate x k v => simp [swaps] at hc
  | call f xs res => exact ac_call h (fun u hu' => hu u (by simpa [VO.uses] using hu')) (by simpa only [swaps] using hc) hst (fr rfl)
  | len x => exact (ra_len h (fun u hu' => hu u (by simpa [VO.uses] using hu')) (by simpa only [swaps] using hc) hst).acts
  | append b x y =>
    simp only [swaps, Bool.and_eq_true] at hc
    exact ac_append h (fun u hu' => hu u (by simp [VO.uses, hu'])) (fun u hu' => hu u (by simp [VO.uses, hu'])) hc.1 hc.2 hst (fr rfl) (hz rfl) (hnm (step_fresh (by simp [makes]) hst))
  | minmax mx x y => exact (ra_minmax h (fun u hu' => hu u (by simp [VO.uses, hu'])) (fun u hu' => hu u (by simp [VO.uses, hu'])) hst).acts

/-! ### With the guard -/
def oneOp (C : Nat → List PV → Option (PV × List PV)) (o : VOp) (st : St) : Option St :=
  match wantedV st o.guard with
  | some true => step C st o.dst o.op
  | some false => match o.dst with
    | some d => some { st with sl := put d .undef st.sl }
    | none => some st
  | none => none
theorem runOps_cons (o : VOp) (r : List VOp) (st : St) : runOps C (o :: r) st = (match oneOp C o st with | some st' => runOps C r st' | none => none) := by
  simp only [runOps, oneOp]
  cases wantedV st o.guard with
  | none => rfl
  | some b => cases b with
    | true => cases step C st o.dst o.op <;> rfl
    | false => cases o.dst <;> rfl
def VOp.uses (o : VOp) : List Nat := (match o.guard with | some (s, _) => [s] | none => []) ++ o.op.uses

structure EffOk (B : Kn) (s : St) (n : Nat) (e : Eff) (app : Bool) : Prop where
  fr : ∀ r ∈ e.fr, B.n r ∧ ∃ g, lookR r s.rg = some g
  dr : ∀ r ∈ e.dr, B.n r ∧ ∃ g, lookR r s.rg = some (.row g) ∧ g.frozen = false
  rg : ∀ x ∈ e.rg, Under [0, n] x.1
  sl : e.rg ≠ [] → look n s.sl = none
  bx : e.bx.isSome → look n s.bx = none
  app : app = false → e.dr = []

theorem wanted_le (h : Le B us s t) {g : Option (Nat × Bool)} (hg : ∀ x, g = some x → x.1 ∈ us) {b : Bool} (hw : wantedV s g = some b) : wantedV t g = some b := by
  cases g with
  | none => exact hw
  | some x =>
    obtain ⟨k, want⟩ := x
    simp only [wantedV] at hw ⊢
    split at hw
    · rename_i hx; rw [(h.sl k (hg _ rfl) _ hx).1]; exact hw
    · rename_i hx; rw [(h.sl k (hg _ rfl) _ hx).1]; exact hw
    · cases hw

theorem acts_one {o : VOp} (hd : o.dst = some n) (h : Le B us s t) (hu : ∀ u ∈ o.uses, u ∈ us) (hc : swaps o.op = true) (hst : oneOp C o s = some s') (hsl : look n s.sl = none → look n t.sl = none) (hbx : look n s.bx = none → look n t.bx = none)
    (hz : isApp o.op = true → ∀ r g g', B.n r → lookR r s.rg = some (.row g) → g.frozen = false → lookR r s'.rg = none → lookR r t.rg = some (.row g') → g'.frozen = false)
    (hnm : look n s.sl = none → ∀ r g, lookR r s.rg = some g → r ≠ [0, n]) : ∃ e : Eff, EffOk B s n e (isApp o.op) ∧ s' = e.on n s ∧ oneOp C o t = some (e.on n t) := by
  have hg : ∀ x, o.guard = some x → x.1 ∈ us := fun x hx => hu _ (by simp only [VOp.uses, hx]; simp)
  unfold oneOp at hst
  split at hst
  · rename_i hw
    rw [hd] at hst
    obtain ⟨e, h1, h2, h3, h4, h5, h6, h7, h8⟩ := acts_op h (fun u hu' => hu u (by simp [VOp.uses, hu'])) hc hst hsl hbx hz hnm
    exact ⟨e, ⟨h3, h4, h5, h6, h7, h8⟩, h1, by simp only [oneOp, wanted_le h hg hw, hd, h2]⟩
  · rename_i hw
    rw [hd] at hst
    simp only [Option.some.injEq] at hst
    exact ⟨⟨.undef, none, [], [], []⟩, ⟨by simp, by simp, by simp, by simp, by simp, fun _ => rfl⟩, hst.symm, by simp only [oneOp, wanted_le h hg hw, hd]; rfl⟩
  · cases hst

/-! ### What an effect leaves -/
theorem on_sl (e : Eff) (n k : Nat) (s : St) : look k (e.on n s).sl = if n = k then some e.v else look k s.sl := look_put _ _ _ _
theorem on_bx (e : Eff) (n k : Nat) (s : St) : look k (e.on n s).bx = if n = k ∧ e.bx.isSome then e.bx else look k s.bx := by
  simp only [Eff.on]
  cases e.bx with
  | none => simp
  | some x =>
    simp only [look]
    by_cases h : n = k
    · simp [h]
    · simp [h]
theorem dropAll_look (r : RId) : ∀ (l : List RId) (m : List (RId × RegC)), lookR r (dropAll l m) = if r ∈ l then none else lookR r m
  | [], m => by simp [dropAll]
  | q :: l, m => by
    simp only [dropAll, dropAll_look r l, lookR_drop, List.mem_cons]
    by_cases h : r ∈ l
    · simp [h]
    · by_cases h2 : q = r
      · simp [h2]
      · simp [h, h2]; intro e; exact absurd e.symm h2
theorem on_rg (e : Eff) (n : Nat) (r : RId) (s : St) : lookR r (e.on n s).rg = (match lookR r e.rg with | some g => some g | none => if r ∈ e.dr then none else if r ∈ e.fr then (lookR r s.rg).map RegC.freeze else lookR r s.rg) := by
  simp only [Eff.on]
  rw [lookR_append]
  cases lookR r e.rg with
  | some g => rfl
  | none => simp only [dropAll_look, freeze_look]
theorem lookR_mem {r : RId} {g : RegC} : ∀ {l : List (RId × RegC)}, lookR r l = some g → (r, g) ∈ l
  | [], h => by simp [lookR] at h
  | (q, x) :: l, h => by
    simp only [lookR] at h
    split at h
    · rename_i e; injection h with h; subst e h; exact List.mem_cons_self ..
    · exact List.mem_cons_of_mem _ (lookR_mem h)
theorem freeze_freeze (g : RegC) : g.freeze.freeze = g.freeze := by cases g <;> rfl
theorem freeze_alike (g : RegC) : g.alike g.freeze ∧ g.freeze.alike g := by cases g <;> simp [RegC.freeze, RegC.alike]
theorem alike_refl (g : RegC) : g.alike g := by cases g <;> simp [RegC.alike]
theorem alike_trans {g g' g'' : RegC} (h : g.alike g') (h' : g'.alike g'') : g.alike g'' := by
  cases g <;> cases g' <;> cases g'' <;> simp_all [RegC.alike]
end Go.Vm
end
section
set_option linter.unusedSimpArgs false
set_option linter.unusedVariables false
namespace Go.Vm
variable {P : Program} {F : Fr} {w w' : World} {st st' : St} {a a' : Act} {E E' : Env} {K : Act → World → Prop} {Q : Exit → Act → World → Prop} {C : Nat → List PV → Option (PV × List PV)}
variable {B : Kn} {s s' sk t : St} {us : List Nat} {d : Option Nat} {n m : Nat} {e e' : Eff}

def Top : Kn := ⟨fun _ => True, fun _ => True⟩
theorem kno_top (v : PV) : Kno Top v := ⟨fun _ _ => trivial, fun _ _ => trivial⟩
theorem Le.refl (us : List Nat) (s : St) : Le Top us s s := ⟨fun u _ v h => ⟨h, kno_top v⟩, fun r _ g h => ⟨g, h, alike_refl g⟩, fun b _ x h => ⟨h, kno_top x⟩⟩

/-- A region's slot is there. -/
def Slotted (s : St) (r : RId) : Prop := ∀ u p, r = 0 :: u :: p → ∃ v, look u s.sl = some v
def RgNm (s : St) : Prop := ∀ r g, lookR r s.rg = some g → Slotted s r
theorem Named.nm (h : Named st) : RgNm st := fun r g hg u p hr => by
  rcases h.rg r g hg with ⟨s, q, v, h1, h2⟩ | ⟨b, q, v, h1, h2⟩
  · rw [hr] at h1; injection h1 with _ h1; injection h1 with h1 _; subst h1; exact ⟨v, h2⟩
  · rw [hr] at h1; injection h1 with h1 _; cases h1
theorem Slotted.put {r : RId} (h : Slotted s r) : Slotted (e.on n s) r := fun u p hr => by
  obtain ⟨v, hv⟩ := h u p hr
  rw [on_sl]
  split
  · exact ⟨_, rfl⟩
  · exact ⟨v, hv⟩
theorem Under.eq {r : RId} (h : Under [0, n] r) : ∃ p, r = 0 :: n :: p := by
  obtain ⟨p, hp⟩ := h
  exact ⟨p, by simpa using hp⟩
theorem rg_nil {r : RId} {g : RegC} (h : lookR r e.rg = some g) : e.rg ≠ [] := by
  intro e0; rw [e0] at h; simp [lookR] at h
/-- A new region's name is not there yet. -/
theorem new_absent (hrg : ∀ x ∈ e.rg, Under [0, n] x.1) (hsl : e.rg ≠ [] → look n s.sl = none) {r : RId} {g : RegC} (h : lookR r e.rg = some g) : ¬ Slotted s r := by
  intro hs
  obtain ⟨p, hp⟩ := (hrg _ (lookR_mem h)).eq
  obtain ⟨v, hv⟩ := hs n p hp
  rw [hsl (rg_nil h)] at hv
  cases hv

theorem acts_self {o : VOp} (hd : o.dst = some n) (hc : swaps o.op = true) (hst : oneOp C o s = some s') (hnm : RgNm s) : ∃ e : Eff, EffOk Top s n e (isApp o.op) ∧ s' = e.on n s := by
  obtain ⟨e, h1, h2, _⟩ := acts_one (B := Top) (t := s) hd (Le.refl o.uses s) (fun u hu => hu) hc hst id id (fun _ r g g' _ h1 h2 _ h3 => by rw [h1] at h3; injection h3 with h3; injection h3 with h3; rw [← h3]; exact h2)
    (fun h0 r g hg hr => by obtain ⟨v, hv⟩ := hnm r g hg n [] hr; rw [h0] at hv; cases hv)
  exact ⟨e, h1, h2⟩

theorem nm_on {app : Bool} (h : RgNm s) (he : EffOk B s n e app) : RgNm (e.on n s) := by
  intro r g hg u p hr
  rw [on_rg] at hg
  split at hg
  · rename_i g' hg'
    obtain ⟨q, hq⟩ := (he.rg _ (lookR_mem hg')).eq
    rw [hr] at hq
    injection hq with _ hq
    injection hq with hq _
    subst hq
    exact ⟨e.v, by rw [on_sl, if_pos rfl]⟩
  · have : ∃ g0, lookR r s.rg = some g0 := by
      split at hg
      · cases hg
      · split at hg
        · cases h0 : lookR r s.rg with
          | none => rw [h0] at hg; cases hg
          | some g0 => exact ⟨g0, rfl⟩
        · exact ⟨g, hg⟩
    obtain ⟨g0, hg0⟩ := this
    exact (h r g0 hg0).put u p hr

/-- What has become of a state by operations that may change places. -/
structure Grown (st : St) (us : List Nat) (s : St) : Prop where
  us : ∀ u ∈ us, look u s.sl = look u st.sl
  dom : ∀ u v, look u st.sl = some v → ∃ v', look u s.sl = some v'
  rg : ∀ r, OkId st r → ∀ g, lookR r s.rg = some g → ∃ g', lookR r st.rg = some g' ∧ g.alike g'
  bx : ∀ b x, look b st.bx = some x → look b s.bx = some x
  nm : RgNm s
theorem Grown.refl (h : RgNm st) : Grown st us st := ⟨fun _ _ => rfl, fun u v h => ⟨v, h⟩, fun r _ g h => ⟨g, h, alike_refl g⟩, fun b x h => h, h⟩
theorem Grown.on {app : Bool} (h : Grown st us s) (he : EffOk B s m e app) (hm : m ∉ us) : Grown st us (e.on m s) where
  us u hu := by
    rw [on_sl, if_neg (fun (e1 : m = u) => hm (e1 ▸ hu))]
    exact h.us u hu
  dom u v hv := by
    rw [on_sl]
    split
    · exact ⟨_, rfl⟩
    · exact h.dom u v hv
  rg r hr g hg := by
    have hslot : Slotted s r := by
      intro u p hp
      rcases hr with ⟨s', q, v, h1, h2⟩ | ⟨b, q, v, h1, h2⟩
      · rw [hp] at h1; injection h1 with _ h1; injection h1 with h1 _; subst h1; exact h.dom _ v h2
      · rw [hp] at h1; injection h1 with h1 _; cases h1
    rw [on_rg] at hg
    split at hg
    · rename_i g' hg'
      exact absurd hslot (new_absent he.rg he.sl hg')
    · split at hg
      · cases hg
      · split at hg
        · cases h0 : lookR r s.rg with
          | none => rw [h0] at hg; cases hg
          | some g0 =>
            rw [h0] at hg
            simp only [Option.map_some, Option.some.injEq] at hg
            subst hg
            obtain ⟨g', h1, h2⟩ := h.rg r hr g0 h0
            exact ⟨g', h1, alike_trans (freeze_alike g0).2 h2⟩
        · exact h.rg r hr g hg
  bx b x hx := by
    have hx' := h.bx b x hx
    rw [on_bx]
    split
    · rename_i hh
      obtain ⟨rfl, hh⟩ := hh
      rw [he.bx hh] at hx'
      cases hx'
    · exact hx'
  nm := nm_on h.nm he

def Quiet (us : List Nat) (os : List VOp) : Prop := ∀ o ∈ os, swaps o.op = true ∧ ∃ m, o.dst = some m ∧ m ∉ us
theorem Grown.run : ∀ {os : List VOp} {s sk : St}, Quiet us os → runOps C os s = some sk → Grown st us s → Grown st us sk
  | [], s, sk, _, hr, h => by simp only [runOps, Option.some.injEq] at hr; subst hr; exact h
  | o :: os, s, sk, hq, hr, h => by
    rw [runOps_cons] at hr
    split at hr
    · rename_i s1 h1
      obtain ⟨hc, m, hd, hm⟩ := hq o (List.mem_cons_self ..)
      obtain ⟨e, he, rfl⟩ := acts_self hd hc h1 h.nm
      exact Grown.run (fun o' ho' => hq o' (List.mem_cons_of_mem _ ho')) hr (h.on he hm)
    · cases hr
theorem gone_run : ∀ {os : List VOp} {s sk : St} {r : RId}, Quiet [] os → runOps C os s = some sk → RgNm s → Slotted s r → lookR r s.rg = none → lookR r sk.rg = none
  | [], s, sk, r, _, hr, _, _, h0 => by simp only [runOps, Option.some.injEq] at hr; subst hr; exact h0
  | o :: os, s, sk, r, hq, hr, hnm, hs, h0 => by
    rw [runOps_cons] at hr
    split at hr
    · rename_i s1 h1
      obtain ⟨hc, m, hd, hm⟩ := hq o (List.mem_cons_self ..)
      obtain ⟨e, he, rfl⟩ := acts_self hd hc h1 hnm
      refine gone_run (fun o' ho' => hq o' (List.mem_cons_of_mem _ ho')) hr (nm_on hnm he) hs.put ?_
      rw [on_rg]
      split
      · rename_i g hg
        exact absurd hs (new_absent he.rg he.sl hg)
      · rw [h0]; split <;> simp
    · cases hr

/-- Two effects, either way. -/
theorem on_comm {app app' : Bool} {B' : Kn} (hnm : RgNm s) (hmn : m ≠ n) (hdr : e.dr = []) (hrg : ∀ x ∈ e.rg, Under [0, n] x.1) (hsl : e.rg ≠ [] → look n s.sl = none) (hfr : ∀ r ∈ e.fr, Slotted s r)
    (he' : EffOk B' s m e' app') (hs : Same (e.on n s) t) : Same (e.on n (e'.on m s)) (e'.on m t) where
  sl k := by
    simp only [on_sl, hs.sl]
    by_cases h1 : n = k
    · subst h1; simp [hmn]
    · simp [h1]
  bx k := by
    simp only [on_bx, hs.bx]
    by_cases h1 : n = k
    · subst h1; simp [hmn]
    · simp [h1]
  rg r := by
    rw [on_rg, hs.rg, on_rg, on_rg, on_rg]
    cases h1 : lookR r e.rg with
    | some g =>
      have hns := new_absent hrg hsl h1
      have h2 : lookR r e'.rg = none := by
        cases h2 : lookR r e'.rg with
        | none => rfl
        | some g' =>
          obtain ⟨p, hp⟩ := (hrg _ (lookR_mem h1)).eq
          obtain ⟨q, hq⟩ := (he'.rg _ (lookR_mem h2)).eq
          simp only at hp hq
          rw [hp] at hq
          injection hq with _ hq
          injection hq with hq _
          exact absurd hq.symm hmn
      have h3 : r ∉ e'.dr := fun hh => by
        obtain ⟨_, g', hg', _⟩ := he'.dr r hh
        exact hns (hnm r _ hg')
      have h4 : r ∉ e'.fr := fun hh => by
        obtain ⟨_, g', hg'⟩ := he'.fr r hh
        exact hns (hnm r _ hg')
      simp [h2, h3, h4]
    | none =>
      simp only [hdr, List.not_mem_nil, if_false]
      cases h2 : lookR r e'.rg with
      | some g' =>
        have h3 : r ∉ e.fr := fun hh => new_absent he'.rg he'.sl h2 (hfr r hh)
        simp [h3]
      | none =>
        by_cases h3 : r ∈ e'.dr
        · simp [h3]
        · by_cases h4 : r ∈ e.fr <;> by_cases h5 : r ∈ e'.fr <;> simp [h3, h4, h5, freeze_freeze]
          all_goals (cases lookR r s.rg <;> simp [freeze_freeze])

theorem move_run : ∀ {os : List VOp} {s sk t : St}, Quiet [n] os → (∀ o ∈ os, n ∉ o.uses) → runOps C os s = some sk → RgNm s → e.dr = [] → (∀ x ∈ e.rg, Under [0, n] x.1) → (e.rg ≠ [] → look n s.sl = none) → (e.bx.isSome → look n sk.bx = none) →
    (∀ r ∈ e.fr, Slotted s r ∧ ∃ g, lookR r sk.rg = some g) → Same (e.on n s) t → ∃ t', runOps C os t = some t' ∧ Same (e.on n sk) t'
  | [], s, sk, t, _, _, hr, _, _, _, _, _, _, hs => by simp only [runOps, Option.some.injEq] at hr; subst hr; exact ⟨t, rfl, hs⟩
  | o :: os, s, sk, t, hq, hu, hr, hnm, hdr, hrg, hsl, hbx, hfr, hs => by
    rw [runOps_cons] at hr
    split at hr
    · rename_i s1 h1
      obtain ⟨hc, m, hd, hm⟩ := hq o (List.mem_cons_self ..)
      have hmn : m ≠ n := by simpa using hm
      have hq' : Quiet [n] os := fun o' ho' => hq o' (List.mem_cons_of_mem _ ho')
      have hq0 : Quiet [] os := fun o' ho' => ⟨(hq' o' ho').1, let ⟨m, h1, _⟩ := (hq' o' ho').2; ⟨m, h1, by simp⟩⟩
      have hq1 : Quiet [] (o :: os) := fun o' ho' => ⟨(hq o' ho').1, let ⟨m, h1, _⟩ := (hq o' ho').2; ⟨m, h1, by simp⟩⟩
      have hun := hu o (List.mem_cons_self ..)
      have hbx0 : e.bx.isSome → look n s.bx = none := by
        intro hh
        cases h0 : look n s.bx with
        | none => rfl
        | some x =>
          have := (Grown.run hq1 (by rw [runOps_cons, h1]; exact hr) (Grown.refl (us := []) hnm)).bx n x h0
          rw [hbx hh] at this
          cases this
      have hle : Le Top o.uses s t := by
        refine ⟨fun u hu' v hv => ⟨?_, kno_top v⟩, fun r _ g hg => ?_, fun b _ x hx => ⟨?_, kno_top x⟩⟩
        · rw [hs.sl, on_sl, if_neg (fun (e1 : n = u) => hun (e1 ▸ hu'))]
          exact hv
        · rw [hs.rg, on_rg]
          split
          · rename_i g' hg'
            exact absurd (hnm r g hg) (new_absent hrg hsl hg')
          · rw [hdr]
            simp only [List.not_mem_nil, if_false, hg]
            split
            · exact ⟨_, rfl, (freeze_alike g).1⟩
            · exact ⟨g, rfl, alike_refl g⟩
        · rw [hs.bx, on_bx, if_neg]
          · exact hx
          · intro hh
            obtain ⟨rfl, hh⟩ := hh
            rw [hbx0 hh] at hx
            cases hx
      obtain ⟨e0, he0, rfl⟩ := acts_self hd hc h1 hnm
      have hnm1 := nm_on hnm he0
      obtain ⟨e', he', hs1, ht⟩ := acts_one (t := t) hd hle (fun u hu => hu) hc h1 (fun h0 => by rw [hs.sl, on_sl, if_neg (fun e => hmn e.symm)]; exact h0) (fun h0 => by rw [hs.bx, on_bx, if_neg (fun e => hmn e.1.symm)]; exact h0)
        (fun _ r g g' _ g1 g2 g3 g4 => by
          rw [hs.rg, on_rg] at g4
          split at g4
          · rename_i g' hg'
            exact absurd (hnm r _ g1) (new_absent hrg hsl hg')
          · rw [hdr] at g4
            simp only [List.not_mem_nil, if_false, g1] at g4
            split at g4
            · rename_i hin
              obtain ⟨gk, hgk⟩ := (hfr r hin).2
              rw [gone_run hq0 hr hnm1 (hnm r _ g1).put g3] at hgk
              cases hgk
            · injection g4 with g4; injection g4 with g4; rw [← g4]; exact g2)
        (fun h0 r g hg hr' => by obtain ⟨v, hv⟩ := hnm r g hg n [] |> fun _ => hnm r g hg m [] hr'; rw [h0] at hv; cases hv)
      have hcm := on_comm (app := false) (B' := Top) hnm hmn hdr hrg hsl (fun r hr => (hfr r hr).1) he' hs
      rw [hs1] at hr hnm1 
      obtain ⟨t', h2, h3⟩ := move_run hq' (fun o' ho' => hu o' (List.mem_cons_of_mem _ ho')) hr hnm1 hdr hrg (fun hh => by rw [on_sl, if_neg hmn]; exact hsl hh) hbx (fun r hr => ⟨(hfr r hr).1.put, (hfr r hr).2⟩) hcm
      exact ⟨t', by rw [runOps_cons, ht]; exact h2, h3⟩
    · cases hr

def pairOk (o i : VOp) : Bool :=
  match o.dst, i.dst with
  | some m, some n => !decide (m = n) && !(i.uses.contains m) && !(o.uses.contains n) && swaps o.op && swaps i.op && !isApp i.op
  | _, _ => false
theorem pairOk_spec {o i : VOp} (h : pairOk o i = true) : ∃ m n, o.dst = some m ∧ i.dst = some n ∧ m ≠ n ∧ m ∉ i.uses ∧ n ∉ o.uses ∧ swaps o.op = true ∧ swaps i.op = true ∧ isApp i.op = false := by
  unfold pairOk at h
  split at h
  · rename_i m n h1 h2
    simp only [Bool.and_eq_true, Bool.not_eq_true', decide_eq_false_iff_not] at h
    obtain ⟨⟨⟨⟨⟨k1, k2⟩, k3⟩, k4⟩, k5⟩, k6⟩ := h
    exact ⟨m, n, h1, h2, k1, by simpa using k2, by simpa using k3, k4, k5, k6⟩
  · cases h

theorem Same.refl (s : St) : Same s s := ⟨fun _ => rfl, fun _ => rfl, fun _ => rfl⟩
theorem move_front {os : List VOp} {i : VOp} (hp : ∀ o ∈ os, pairOk o i = true) (hn : Named st) (hr : runOps C os st = some sk) (hi : oneOp C i sk = some s') : ∃ t t', oneOp C i st = some t ∧ runOps C os t = some t' ∧ Same s' t' := by
  cases os with
  | nil =>
    simp only [runOps, Option.some.injEq] at hr
    subst hr
    exact ⟨s', s', hi, rfl, Same.refl s'⟩
  | cons o0 os0 =>
    obtain ⟨_, n, _, hd, _, _, _, _, hc, ha⟩ := pairOk_spec (hp o0 (List.mem_cons_self ..))
    generalize o0 :: os0 = os at hp hr
    have hall : ∀ o ∈ os, swaps o.op = true ∧ n ∉ o.uses ∧ ∃ m, o.dst = some m ∧ m ≠ n ∧ m ∉ i.uses := by
      intro o ho
      obtain ⟨m, n', h1, h2, h3, h4, h5, h6, _, _⟩ := pairOk_spec (hp o ho)
      rw [hd] at h2
      injection h2 with h2
      subst h2
      exact ⟨h6, h5, m, h1, h3, h4⟩
    have hg : Grown st (n :: i.uses) sk := Grown.run (fun o ho => ⟨(hall o ho).1, let ⟨m, h1, h2, h3⟩ := (hall o ho).2.2; ⟨m, h1, by simp only [List.mem_cons, not_or]; exact ⟨h2, h3⟩⟩⟩) hr (Grown.refl hn.nm)
    have hle : Le ⟨OkId st, fun b => ∃ x, look b st.bx = some x⟩ i.uses sk st := by
      refine ⟨fun u hu v hv => ?_, fun r hr g hg' => hg.rg r hr g hg', fun b hb x hx => ?_⟩
      · rw [hg.us u (List.mem_cons_of_mem _ hu)] at hv
        exact ⟨hv, hn.sl u v hv⟩
      · obtain ⟨x0, h0⟩ := hb
        have := hg.bx b x0 h0
        rw [hx] at this
        injection this with this
        subst this
        exact ⟨h0, hn.bx b x h0⟩
    obtain ⟨e, he, rfl, ht⟩ := acts_one hd hle (fun u hu => hu) hc hi (fun h0 => by rw [← hg.us n (List.mem_cons_self ..)]; exact h0)
      (fun h0 => by
        cases h1 : look n st.bx with
        | none => rfl
        | some x => have := hg.bx n x h1; rw [h0] at this; cases this)
      (fun h => by rw [ha] at h; cases h) (fun h0 r g hgg hr' => by obtain ⟨v, hv⟩ := hg.nm r g hgg n [] hr'; rw [h0] at hv; cases hv)
    rw [ha] at he
    have hfr : ∀ r ∈ e.fr, Slotted st r ∧ ∃ g, lookR r sk.rg = some g := by
      intro r hr
      refine ⟨fun u p hp => ?_, (he.fr r hr).2⟩
      rcases (he.fr r hr).1 with ⟨s', q, v, h1, h2⟩ | ⟨b, q, v, h1, h2⟩
      · rw [hp] at h1; injection h1 with _ h1; injection h1 with h1 _; subst h1; exact ⟨v, h2⟩
      · rw [hp] at h1; injection h1 with h1 _; cases h1
    obtain ⟨t', h1, h2⟩ := move_run (C := C) (e := e) (n := n) (os := os) (t := e.on n st) (fun o ho => ⟨(hall o ho).1, let ⟨m, h1, h2, h3⟩ := (hall o ho).2.2; ⟨m, h1, by simpa using h2⟩⟩) (fun o ho => (hall o ho).2.1) hr hn.nm (he.app rfl) he.rg
      (fun hh => by rw [← hg.us n (List.mem_cons_self ..)]; exact he.sl hh) he.bx
      hfr (Same.refl _)
    exact ⟨_, t', ht, h1, h2⟩
end Go.Vm
end
section
set_option linter.unusedSimpArgs false
set_option linter.unusedVariables false
namespace Go.Vm
variable {P : Program} {F : Fr} {w w' : World} {st st' : St} {a a' : Act} {E E' : Env} {K : Act → World → Prop} {Q : Exit → Act → World → Prop} {C : Nat → List PV → Option (PV × List PV)}
variable {B : Kn} {s s' sk t : St} {us : List Nat} {d : Option Nat} {n m : Nat} {e e' : Eff}

def tails : VOp → Bool
  | ⟨some _, op, _⟩ => swaps op
  | ⟨none, .store x _, _⟩ => x.closed
  | ⟨none, .mapUpdate x _ _, _⟩ => x.closed
  | ⟨none, .call _ xs _, _⟩ => closedL xs
  | _ => false

theorem Same.le (hs : Same s t) (us : List Nat) : Le Top us s t :=
  ⟨fun u _ v h => ⟨by rw [hs.sl]; exact h, kno_top v⟩, fun r _ g h => ⟨g, by rw [hs.rg]; exact h, alike_refl g⟩, fun b _ x h => ⟨by rw [hs.bx]; exact h, kno_top x⟩⟩
theorem Same.freeze (hs : Same s t) (rs : List RId) : Same (s.freeze rs) (t.freeze rs) where
  sl k := by rw [(freeze_sl rs s).1, (freeze_sl rs t).1, hs.sl]
  bx k := by rw [(freeze_sl rs s).2, (freeze_sl rs t).2, hs.bx]
  rg r := by rw [freeze_look, freeze_look, hs.rg]
theorem Same.putR (hs : Same s t) (r : RId) (g : RegC) : Same { s with rg := Vm.putR r g s.rg } { t with rg := Vm.putR r g t.rg } :=
  ⟨hs.sl, hs.bx, fun k => by simp only [lookR_put, hs.rg]⟩
theorem Same.putB (hs : Same s t) (b : Nat) (x : PV) : Same { s with bx := put b x s.bx } { t with bx := put b x t.bx } :=
  ⟨hs.sl, fun k => by simp only [look_put, hs.bx], hs.rg⟩
theorem Same.put (hs : Same s t) (b : Nat) (x : PV) : Same { s with sl := Vm.put b x s.sl } { t with sl := Vm.put b x t.sl } :=
  ⟨fun k => by simp only [look_put, hs.sl], hs.bx, hs.rg⟩
theorem Same.on (hs : Same s t) (e : Eff) (n : Nat) : Same (e.on n s) (e.on n t) where
  sl k := by rw [on_sl, on_sl, hs.sl]
  bx k := by rw [on_bx, on_bx, hs.bx]
  rg r := by rw [on_rg, on_rg, hs.rg]

theorem same_store {x y : VA} (hs : Same s t) (hst : step C s d (.store x y) = some s') : ∃ t', step C t d (.store x y) = some t' ∧ Same s' t' := by
  have hle := hs.le (x.uses ++ y.uses)
  have ex : ∀ v, x.eval s = some v → x.eval t = some v := fun v hv => eval_le hle (fun u hu => by simp [hu]) hv
  have ey : ∀ v, y.eval s = some v → y.eval t = some v := fun v hv => eval_le hle (fun u hu => by simp [hu]) hv
  simp only [step] at hst
  split at hst
  · rename_i b p u h1 h2
    split at hst
    · cases hst
    · rename_i hl
      split at hst
      · rename_i v hv
        split at hst
        · rename_i v' hv'
          injection hst with hst
          subst hst
          refine ⟨_, ?_, hs.putB b v'⟩
          simp only [step, ex _ h1, ey _ h2, if_neg hl, hs.bx, hv, hv']
        · cases hst
      · cases hst
  · rename_i r i p u h1 h2
    split at hst
    · rename_i u' rs hi
      split at hst
      · rename_i g hg
        split at hst
        · cases hst
        · rename_i hf
          split at hst
          · rename_i v hv
            split at hst
            · rename_i v' hv'
              injection hst with hst
              subst hst
              refine ⟨_, ?_, (hs.freeze rs).putR r _⟩
              simp only [step, ex _ h1, ey _ h2, imm_le hle (fun _ _ => trivial) hi, (hs.freeze rs).rg, hg, if_neg hf, hv, hv']
            · cases hst
          · cases hst
      · cases hst
    · cases hst
  · cases hst
theorem same_mapUpdate {x y z : VA} (hs : Same s t) (hst : step C s d (.mapUpdate x y z) = some s') : ∃ t', step C t d (.mapUpdate x y z) = some t' ∧ Same s' t' := by
  have hle := hs.le (x.uses ++ (y.uses ++ z.uses))
  have ex : ∀ v, x.eval s = some v → x.eval t = some v := fun v hv => eval_le hle (fun u hu => by simp [hu]) hv
  have ey : ∀ v, y.eval s = some v → y.eval t = some v := fun v hv => eval_le hle (fun u hu => by simp [hu]) hv
  have ez : ∀ v, z.eval s = some v → z.eval t = some v := fun v hv => eval_le hle (fun u hu => by simp [hu]) hv
  simp only [step] at hst
  split at hst
  · rename_i r k v h1 h2 h3
    split at hst
    · rename_i hp
      split at hst
      · rename_i v' rs hi
        split at hst
        · rename_i fz es hg
          split at hst
          · cases hst
          · rename_i hf
            split at hst
            · rename_i o ho
              split at hst
              · rename_i es' hes
                injection hst with hst
                subst hst
                refine ⟨_, ?_, (hs.freeze rs).putR r _⟩
                simp only [step, ex _ h1, ey _ h2, ez _ h3, if_pos hp, imm_le hle (fun _ _ => trivial) hi, (hs.freeze rs).rg, hg, if_neg hf, ho, hes]
              · cases hst
            · cases hst
        · cases hst
      · cases hst
    · cases hst
  · cases hst
theorem same_call {f : Nat} {xs : List VA} {res : TD} (hs : Same s t) (hcl : closedL xs = true) (hst : step C s none (.call f xs res) = some s') : ∃ t', step C t none (.call f xs res) = some t' ∧ Same s' t' ∧ (s' = s ∨ ∃ rs, s' = s.freeze rs) := by
  have hle := hs.le (usesL xs)
  simp only [step] at hst
  split at hst
  · rename_i vs hvs
    obtain ⟨e1, hk⟩ := args_le hle (fun u hu => hu) hcl hvs
    split at hst
    · rename_i rs hrs
      obtain ⟨e2, hk2⟩ := argRs_le hle hk hrs
      split at hst
      · rename_i ps ls bs hout
        split at hst
        · rename_i hbs
          have hbs : bs = [] := by simpa using hbs
          obtain ⟨ls', e3⟩ := outArgs_le hle rs hk hout hbs
          split at hst
          · rename_i r outs hC
            injection hst with hst
            subst hst
            by_cases hm : (res.mild && r.noSl) = true
            · refine ⟨t, ?_, by rw [if_pos hm]; exact hs, .inl (if_pos hm)⟩
              simp only [step, e1, e2, e3, List.isEmpty_nil, if_true, hC, if_pos hm]
            · refine ⟨t.freeze rs, ?_, by rw [if_neg hm]; exact hs.freeze rs, .inr ⟨rs, if_neg hm⟩⟩
              simp only [step, e1, e2, e3, List.isEmpty_nil, if_true, hC, if_neg hm]
          · cases hst
        · cases hst
      · cases hst
    · cases hst
  · cases hst

theorem nmd_of (h : RgNm s) (hsl : ∀ u v, look u s.sl = some v → ∃ v', look u s'.sl = some v') (hrg : ∀ r g, lookR r s'.rg = some g → ∃ g', lookR r s.rg = some g') : RgNm s' := fun r g hg u p hr => by
  obtain ⟨g', hg'⟩ := hrg r g hg
  obtain ⟨v, hv⟩ := h r g' hg' u p hr
  exact hsl u v hv
theorem freeze_nm (h : RgNm s) (rs : List RId) : RgNm (s.freeze rs) := nmd_of h (fun u v hv => ⟨v, by rw [(freeze_sl rs s).1]; exact hv⟩) (fun r g hg => by
  rw [freeze_look] at hg
  split at hg
  · cases h0 : lookR r s.rg with
    | none => rw [h0] at hg; cases hg
    | some g0 => exact ⟨g0, rfl⟩
  · exact ⟨g, hg⟩)
theorem putR_nm {r : RId} {g : RegC} (h : RgNm s) (hr : ∃ g0, lookR r s.rg = some g0) : RgNm { s with rg := putR r g s.rg } := nmd_of h (fun u v hv => ⟨v, hv⟩) (fun q g' hg => by
  simp only [lookR_put] at hg
  split at hg
  · rename_i e; subst e; exact hr
  · exact ⟨g', hg⟩)

theorem same_one {o : VOp} (hok : tails o = true) (hs : Same s t) (hnm : RgNm s) (hst : oneOp C o s = some s') : ∃ t', oneOp C o t = some t' ∧ Same s' t' ∧ RgNm s' := by
  obtain ⟨dst, op, gd⟩ := o
  cases dst with
  | some n =>
    obtain ⟨e, he, rfl, ht⟩ := acts_one (o := ⟨some n, op, gd⟩) (t := t) rfl (hs.le _) (fun u hu => hu) hok hst (fun h0 => by rw [hs.sl]; exact h0) (fun h0 => by rw [hs.bx]; exact h0)
      (fun _ r g g' _ g1 g2 _ g3 => by rw [hs.rg, g1] at g3; injection g3 with g3; injection g3 with g3; rw [← g3]; exact g2)
      (fun h0 r g hg hr' => by obtain ⟨v, hv⟩ := hnm r g hg n [] hr'; rw [h0] at hv; cases hv)
    exact ⟨_, ht, hs.on e n, nm_on hnm he⟩
  | none =>
    have hle := hs.le (VOp.uses ⟨none, op, gd⟩)
    simp only [oneOp] at hst
    split at hst
    · rename_i hw
      have hw' := wanted_le hle (fun x hx => by cases hx; simp [VOp.uses]) hw
      cases op <;> simp only [tails, Bool.false_eq_true] at hok
      case store x y =>
        obtain ⟨t', h1, h2⟩ := same_store hs hst
        refine ⟨t', by simp only [oneOp, hw', h1], h2, ?_⟩
        simp only [step] at hst
        split at hst
        · split at hst
          · cases hst
          · split at hst
            · split at hst
              · injection hst with hst; subst hst; exact hnm
              · cases hst
            · cases hst
        · split at hst
          · split at hst
            · rename_i hg
              split at hst
              · cases hst
              · split at hst
                · split at hst
                  · injection hst with hst; subst hst; exact putR_nm (freeze_nm hnm _) ⟨_, hg⟩
                  · cases hst
                · cases hst
            · cases hst
          · cases hst
        · cases hst
      case mapUpdate x y z =>
        obtain ⟨t', h1, h2⟩ := same_mapUpdate hs hst
        refine ⟨t', by simp only [oneOp, hw', h1], h2, ?_⟩
        simp only [step] at hst
        split at hst
        · split at hst
          · split at hst
            · split at hst
              · rename_i hg
                split at hst
                · cases hst
                · split at hst
                  · split at hst
                    · injection hst with hst; subst hst; exact putR_nm (freeze_nm hnm _) ⟨_, hg⟩
                    · cases hst
                  · cases hst
              · cases hst
            · cases hst
          · cases hst
        · cases hst
      case call f xs res =>
        obtain ⟨t', h1, h2, h3⟩ := same_call hs hok hst
        refine ⟨t', by simp only [oneOp, hw', h1], h2, ?_⟩
        rcases h3 with rfl | ⟨rs, rfl⟩
        · exact hnm
        · exact freeze_nm hnm rs
    · rename_i hw
      have hw' := wanted_le hle (fun x hx => by cases hx; simp [VOp.uses]) hw
      injection hst with hst
      subst hst
      exact ⟨t, by simp only [oneOp, hw'], hs, hnm⟩
    · cases hst

theorem same_run : ∀ {os : List VOp} {s t s' : St}, (∀ o ∈ os, tails o = true) → Same s t → RgNm s → runOps C os s = some s' → ∃ t', runOps C os t = some t' ∧ Same s' t'
  | [], s, t, s', _, hs, _, hr => by simp only [runOps, Option.some.injEq] at hr; subst hr; exact ⟨t, rfl, hs⟩
  | o :: os, s, t, s', hok, hs, hnm, hr => by
    rw [runOps_cons] at hr
    split at hr
    · rename_i s1 h1
      obtain ⟨t1, h2, h3, h4⟩ := same_one (hok o (List.mem_cons_self ..)) hs hnm h1
      obtain ⟨t', h5, h6⟩ := same_run (fun o' ho' => hok o' (List.mem_cons_of_mem _ ho')) h3 h4 hr
      exact ⟨t', by rw [runOps_cons, h2]; exact h5, h6⟩
    · cases hr
theorem nm_run : ∀ {os : List VOp} {s s' : St}, (∀ o ∈ os, tails o = true) → RgNm s → runOps C os s = some s' → RgNm s'
  | [], s, s', _, hnm, hr => by simp only [runOps, Option.some.injEq] at hr; subst hr; exact hnm
  | o :: os, s, s', hok, hnm, hr => by
    rw [runOps_cons] at hr
    split at hr
    · rename_i s1 h1
      obtain ⟨_, _, _, h4⟩ := same_one (hok o (List.mem_cons_self ..)) (Same.refl s) hnm h1
      exact nm_run (fun o' ho' => hok o' (List.mem_cons_of_mem _ ho')) h4 hr
    · cases hr
theorem runOps_append : ∀ (os : List VOp) {ps : List VOp} {s : St}, runOps C (os ++ ps) s = (match runOps C os s with | some s' => runOps C ps s' | none => none)
  | [], ps, s => by simp [runOps]
  | o :: os, ps, s => by
    rw [List.cons_append, runOps_cons, runOps_cons]
    cases oneOp C o s with
    | none => rfl
    | some s1 => simp only; exact runOps_append os
end Go.Vm
end
section
set_option linter.unusedSimpArgs false
set_option linter.unusedVariables false
namespace Go.Vm
variable {P : Program} {F : Fr} {w w' : World} {st st' : St} {a a' : Act} {E E' : Env} {K : Act → World → Prop} {Q : Exit → Act → World → Prop} {C : Nat → List PV → Option (PV × List PV)}
variable {s s' sk t : St} {ops : Array Oper} {listed : Array Bool}

/-- j comes before i in any order. -/
def must (ops : Array Oper) : Nat → Nat → Nat → Bool
  | 0, _, _ => false
  | k + 1, i, j => match ops[i]? with
    | some o => (o.after.any fun e => Region.binds .any e && e.on == j) || (o.after.any fun e => Region.binds .any e && (decide (j < e.on) && must ops k e.on j))
    | none => false
def Ahead (ops : Array Oper) (S : Nat → Prop) (i : Nat) : Prop := ∀ o, ops[i]? = some o → ∀ e ∈ o.after, Region.binds .any e = true → S e.on
def Closed (ops : Array Oper) (S : Nat → Prop) : Prop := ∀ i, S i → Ahead ops S i
theorem must_listed {S : Nat → Prop} (hcl : Closed ops S) : ∀ {k i j : Nat}, must ops k i j = true → Ahead ops S i → S j
  | 0, i, j, h, _ => by simp [must] at h
  | k + 1, i, j, h, ha => by
    simp only [must] at h
    split at h
    · rename_i o ho
      rw [Bool.or_eq_true, Array.any_eq_true', Array.any_eq_true'] at h
      rcases h with ⟨e, he, h⟩ | ⟨e, he, h⟩
      · simp only [Bool.and_eq_true, beq_iff_eq] at h
        rw [← h.2]
        exact ha o ho e he h.1
      · simp only [Bool.and_eq_true] at h
        exact must_listed hcl h.2.2 (hcl _ (ha o ho e he h.1))
    · cases h

abbrev Z := List (Nat × VOp)
def Topo (ops : Array Oper) (S : Nat → Prop) : Z → Prop
  | [] => True
  | (i, _) :: r => Ahead ops S i ∧ Topo ops (fun k => S k ∨ k = i) r
theorem Topo.mono : ∀ {z : Z} {S S' : Nat → Prop}, (∀ k, S k → S' k) → Topo ops S z → Topo ops S' z
  | [], _, _, _, _ => trivial
  | (i, _) :: r, _, _, h, ht => ⟨fun o ho e he hb => h _ (ht.1 o ho e he hb), Topo.mono (fun k hk => hk.imp (h k) id) ht.2⟩
theorem Topo.remove : ∀ {pre : Z} {i : Nat} {v : VOp} {post : Z} {S : Nat → Prop}, Topo ops S (pre ++ (i, v) :: post) → Topo ops (fun k => S k ∨ k = i) (pre ++ post)
  | [], _, _, _, _, h => h.2
  | (j, _) :: pre, i, v, post, S, h => ⟨fun o ho e he hb => .inl (h.1 o ho e he hb), (Topo.remove (S := fun k => S k ∨ k = j) h.2).mono (fun k hk => by
      rcases hk with (hk | hk) | hk
      · exact .inl (.inl hk)
      · exact .inr hk
      · exact .inl (.inr hk))⟩

def PairsP (ops : Array Oper) (N : Nat) : Z → Prop
  | [] => True
  | (j, o) :: r => (∀ x ∈ r, must ops N x.1 j = true ∨ pairOk o x.2 = true) ∧ PairsP ops N r
theorem PairsP.remove {N : Nat} : ∀ {pre : Z} {i : Nat} {v : VOp} {post : Z}, PairsP ops N (pre ++ (i, v) :: post) → PairsP ops N (pre ++ post)
  | [], _, _, _, h => h.2
  | (j, o) :: pre, i, v, post, h => ⟨fun x hx => h.1 x (by
      rcases List.mem_append.1 hx with hx | hx
      · exact List.mem_append.2 (.inl hx)
      · exact List.mem_append.2 (.inr (List.mem_cons_of_mem _ hx))), PairsP.remove h.2⟩
theorem PairsP.pre {N : Nat} : ∀ {pre : Z} {i : Nat} {v : VOp} {post : Z}, PairsP ops N (pre ++ (i, v) :: post) → ∀ x ∈ pre, must ops N i x.1 = true ∨ pairOk x.2 v = true
  | [], _, _, _, _, _, hx => by cases hx
  | (j, o) :: pre, i, v, post, h, x, hx => by
    rcases List.mem_cons.1 hx with rfl | hx
    · exact h.1 (i, v) (by simp)
    · exact PairsP.pre (pre := pre) h.2 x hx

theorem readyOf {i : Nat} (h : i ∈ Region.ready .any ops listed) : i < ops.size ∧ listed.getD i true = false ∧ Ahead ops (fun k => listed.getD k false = true) i := by
  unfold Region.ready at h
  rw [List.mem_filter, List.mem_range] at h
  obtain ⟨h1, h2⟩ := h
  simp only [Bool.and_eq_true, Bool.not_eq_true'] at h2
  refine ⟨h1, h2.1, fun o ho e he hb => ?_⟩
  have h3 := h2.2
  rw [ho] at h3
  simp only [Option.map_some, Option.getD_some, Array.all_eq_true'] at h3
  have := h3 e he
  rw [hb] at this
  simpa using this
theorem ready_mem {i : Nat} {o : Oper} (h1 : ops[i]? = some o) (h2 : listed.getD i true = false) (h3 : Ahead ops (fun k => listed.getD k false = true) i) : i ∈ Region.ready .any ops listed := by
  unfold Region.ready
  rw [List.mem_filter, List.mem_range]
  refine ⟨(Array.getElem?_eq_some_iff.1 h1).1, ?_⟩
  simp only [h1, h2, Option.map_some, Option.getD_some, Bool.not_false, Bool.true_and, Array.all_eq_true']
  intro e he
  cases hb : Region.binds .any e with
  | false => rfl
  | true => simp only [Bool.not_true, Bool.false_or]; exact h3 o h1 e he hb

theorem getD_same {i : Nat} (h : i < listed.size) (b c : Bool) : listed.getD i b = listed.getD i c := by
  simp [Array.getD, h]
theorem getD_set {i k : Nat} {b : Bool} (h : i < listed.size) : (listed.setIfInBounds i true).getD k b = if i = k then true else listed.getD k b := by
  simp only [Array.getD_eq_getD_getElem?, Array.getElem?_setIfInBounds]
  by_cases h1 : i = k
  · subst h1; simp [h]
  · simp [h1]

def zOk (P : Program) (T : Nat → Option (List TD × TD)) (Γ : Nat → TD) (N np : Nat) (ops : Array Oper) (x : Nat × VOp) : Bool :=
  (match ops[x.1]? with | some o => vopOk P T Γ N np ops o x.2 | none => false) && tails x.2

theorem any_sound {T : Nat → Option (List TD × TD)} (hS : Serves P T C) {N : Nat} : ∀ (fuel : Nat) {z : Z} {listed : Array Bool} {st send : St} {a : Act} {w : World} {E : Env}, z.length = fuel → Rel F st a w E → runOps C (z.map Prod.snd) st = some send →
    (∀ a' w' E', Rel F send a' w' E' → Q .normal a' w') → listed.size = ops.size → (∀ i, i < ops.size → (listed.getD i true = false ↔ i ∈ z.map Prod.fst)) → (z.map Prod.fst).Nodup → (∀ x ∈ z, zOk P T F.Γ F.N F.np ops x = true) → PairsP ops N z →
    Closed ops (fun k => listed.getD k false = true) → Topo ops (fun k => listed.getD k false = true) z → wpAny P .any ops Q fuel listed a w := by
  intro fuel
  induction fuel with
  | zero =>
    intro z listed st send a w E hlen h hr hQ hsz hmem hnd hok hpair hcl htopo
    have hz : z = [] := List.length_eq_zero_iff.1 hlen
    subst hz
    simp only [List.map_nil, runOps, Option.some.injEq] at hr
    subst hr
    refine ⟨?_, hQ _ _ _ h⟩
    cases hrd : Region.ready .any ops listed with
    | nil => rfl
    | cons i r =>
      obtain ⟨h1, h2, _⟩ := readyOf (ops := ops) (listed := listed) (i := i) (by rw [hrd]; exact List.mem_cons_self ..)
      have := (hmem i h1).1 h2
      simp at this
  | succ fuel ih =>
    intro z listed st send a w E hlen h hr hQ hsz hmem hnd hok hpair hcl htopo
    have hzlt : ∀ x ∈ z, x.1 < ops.size := by
      intro x hx
      have := hok x hx
      unfold zOk at this
      simp only [Bool.and_eq_true] at this
      obtain ⟨h1, _⟩ := this
      split at h1
      · rename_i o ho; exact (Array.getElem?_eq_some_iff.1 ho).1
      · cases h1
    refine ⟨fun hrd => ?_, fun i hi => ?_⟩
    · -- the first one is ready
      cases z with
      | nil => simp at hlen
      | cons x z =>
        obtain ⟨i, v⟩ := x
        have hlt := hzlt (i, v) (List.mem_cons_self ..)
        have : i ∈ Region.ready .any ops listed := ready_mem (o := ops[i]'hlt) (Array.getElem?_eq_getElem hlt) ((hmem i hlt).2 (by simp)) htopo.1
        rw [hrd] at this
        cases this
    · obtain ⟨hlt, hnl, hah⟩ := readyOf hi
      have hiz := (hmem i hlt).1 hnl
      obtain ⟨⟨i', v⟩, hx, hxi⟩ := List.mem_map.1 hiz
      simp only at hxi
      subst hxi
      obtain ⟨pre, post, rfl⟩ := List.append_of_mem hx
      have hvok := hok (i', v) hx
      unfold zOk at hvok
      simp only [Bool.and_eq_true] at hvok
      obtain ⟨hv1, hv2⟩ := hvok
      split at hv1
      · rename_i o ho
        have hpre : ∀ y ∈ pre.map Prod.snd, pairOk y v = true := by
          intro y hy
          obtain ⟨⟨j, y'⟩, hy1, hy2⟩ := List.mem_map.1 hy
          simp only at hy2
          subst hy2
          rcases PairsP.pre hpair _ hy1 with h1 | h1
          · have h2 := must_listed hcl h1 hah
            have hj : j < ops.size := hzlt (j, y') (List.mem_append_left _ hy1)
            have h3 := (hmem j hj).2 (List.mem_map.2 ⟨(j, y'), List.mem_append_left _ hy1, rfl⟩)
            simp only at h2
            rw [getD_same (by omega) false true, h3] at h2
            cases h2
          · exact h1
        rw [List.map_append, List.map_cons, runOps_append] at hr
        split at hr
        · rename_i sk hsk
          rw [runOps_cons] at hr
          split at hr
          · rename_i s1 hs1
            obtain ⟨t, t', g1, g2, g3⟩ := move_front hpre h.named hsk hs1
            have hnm0 : RgNm sk := nm_run (fun y hy => by
              obtain ⟨x, hx1, hx2⟩ := List.mem_map.1 hy
              have := hok x (List.mem_append_left _ hx1)
              unfold zOk at this
              simp only [Bool.and_eq_true] at this
              rw [← hx2]; exact this.2) h.named.nm hsk
            obtain ⟨_, _, _, hnm1⟩ := same_one hv2 (Same.refl sk) hnm0 hs1
            obtain ⟨send', g4, g5⟩ := same_run (fun y hy => by
              obtain ⟨x, hx1, hx2⟩ := List.mem_map.1 hy
              have := hok x (List.mem_append_right _ (List.mem_cons_of_mem _ hx1))
              unfold zOk at this
              simp only [Bool.and_eq_true] at this
              rw [← hx2]; exact this.2) g3 hnm1 hr
            have hrun : runOps C ((pre ++ post).map Prod.snd) t = some send' := by
              rw [List.map_append, runOps_append, g2]
              exact g4
            have key : ∀ a' w' E', Rel F t a' w' E' → wpAny P .any ops Q fuel (listed.setIfInBounds i' true) a' w' := by
              intro a' w' E' h'
              have hlen' : (pre ++ post).length = fuel := by
                simp only [List.length_append, List.length_cons] at hlen ⊢
                omega
              have hnd' : ((pre ++ post).map Prod.fst).Nodup ∧ i' ∉ (pre ++ post).map Prod.fst := by
                rw [List.map_append, List.map_cons] at hnd
                rw [List.map_append]
                have h1 := (List.perm_middle (a := i') (l₁ := pre.map Prod.fst) (l₂ := post.map Prod.fst)).nodup_iff.1 hnd
                rw [List.nodup_cons] at h1
                exact ⟨h1.2, h1.1⟩
              have hli : i' < listed.size := by omega
              have hS : ∀ k, (listed.getD k false = true ∨ k = i') ↔ (listed.setIfInBounds i' true).getD k false = true := by
                intro k
                rw [getD_set hli]
                by_cases e : i' = k
                · simp [e]
                · simp [e, fun e' : k = i' => e e'.symm]
                  intro e'; exact absurd e'.symm e
              refine ih hlen' h' hrun (fun a'' w'' E'' h'' => hQ _ _ _ (h''.same g5.symm)) (by simp [hsz]) (fun k hk => ?_) hnd'.1 (fun x hx => hok x (by
                rcases List.mem_append.1 hx with hx | hx
                · exact List.mem_append_left _ hx
                · exact List.mem_append_right _ (List.mem_cons_of_mem _ hx))) hpair.remove ?_ (htopo.remove.mono fun k hk => (hS k).1 hk)
              · rw [getD_set hli]
                by_cases e : i' = k
                · subst e
                  simp only [if_true, Bool.true_eq_false, false_iff]
                  exact hnd'.2
                · rw [if_neg e, hmem k hk]
                  simp only [List.map_append, List.map_cons, List.mem_append, List.mem_cons]
                  have : ¬ k = i' := fun e' => e e'.symm
                  simp [this]
              · intro k hk
                intro o2 ho2 e2 he2 hb2
                refine (hS _).1 (.inl ?_)
                rcases (hS k).2 hk with hk | hk
                · exact hcl k hk o2 ho2 e2 he2 hb2
                · rw [hk] at ho2
                  exact hah o2 ho2 e2 he2 hb2
            unfold wpOp
            rw [ho]
            simp only
            simp only [vopOk, Bool.and_eq_true, decide_eq_true_eq] at hv1
            obtain ⟨⟨⟨hd, hg⟩, hop⟩, hN⟩ := hv1
            unfold oneOp at g1
            split at g1
            · rename_i hw
              rw [if_pos (guard_run h hg hw)]
              rw [← hd] at g1
              exact .inl (opOk_sound h key hS hop g1)
            · rename_i hw
              rw [if_neg (by rw [guard_run h hg hw]; simp)]
              split at g1
              · rename_i d hd'
                injection g1 with g1
                subst g1
                rw [hd, hd'] at hN
                rw [hd, hd']
                exact key _ _ _ (h.skipped (by simpa using hN))
              · rename_i hd'
                injection g1 with g1
                subst g1
                rw [hd, hd']
                exact key _ _ _ h
            · cases g1
          · cases hr
        · cases hr
      · cases hv1

/-! ### What is looked at -/
def findDst (d : Option Nat) (i : Nat) : List Oper → List Nat → Nat
  | [], _ => i
  | o :: os, used => if o.dst == d && !used.contains i then i else findDst d (i + 1) os used
def ordOf (ops : List Oper) : List VOp → List Nat → List Nat
  | [], _ => []
  | v :: vs, used => findDst v.dst 0 ops used :: ordOf ops vs (findDst v.dst 0 ops used :: used)
def topoB (ops : Array Oper) : List Nat → Z → Bool
  | _, [] => true
  | seen, (i, _) :: r => (match ops[i]? with | some o => o.after.all fun e => !Region.binds .any e || seen.contains e.on | none => false) && topoB ops (i :: seen) r
def pairsB (ops : Array Oper) (N : Nat) : Z → Bool
  | [] => true
  | (j, o) :: r => (r.all fun x => pairOk o x.2 || must ops N x.1 j) && pairsB ops N r
def drawB (P : Program) (T : Nat → Option (List TD × TD)) (Γ : Nat → TD) (N np : Nat) (ops : Array Oper) (vops : List VOp) : Bool :=
  let ord := ordOf ops.toList vops []
  let z := ord.zip vops
  decide (ops.size = vops.length) && nodupN ord && z.all (zOk P T Γ N np ops) && topoB ops [] z && pairsB ops 40 z

theorem ordOf_length (ops : List Oper) : ∀ (vs : List VOp) (used : List Nat), (ordOf ops vs used).length = vs.length
  | [], _ => rfl
  | v :: vs, used => by simp [ordOf, ordOf_length ops vs]
theorem topoB_spec : ∀ {z : Z} {seen : List Nat}, topoB ops seen z = true → Topo ops (fun k => k ∈ seen) z
  | [], _, _ => trivial
  | (i, v) :: r, seen, h => by
    simp only [topoB, Bool.and_eq_true] at h
    refine ⟨fun o ho e he hb => ?_, (topoB_spec h.2).mono fun k hk => ?_⟩
    · have h1 := h.1
      rw [ho] at h1
      simp only [Array.all_eq_true'] at h1
      have := h1 e he
      rw [hb] at this
      simpa using this
    · rcases List.mem_cons.1 hk with hk | hk
      · exact .inr hk
      · exact .inl hk
theorem pairsB_spec {N : Nat} : ∀ {z : Z}, pairsB ops N z = true → PairsP ops N z
  | [], _ => trivial
  | (j, o) :: r, h => by
    simp only [pairsB, Bool.and_eq_true, List.all_eq_true, Bool.or_eq_true] at h
    exact ⟨fun x hx => (h.1 x hx).symm, pairsB_spec h.2⟩

theorem nodup_le : ∀ (n : Nat) {l : List Nat}, l.Nodup → (∀ j ∈ l, j < n) → l.length ≤ n
  | 0, l, _, h => by
    cases l with
    | nil => simp
    | cons x l => have := h x (List.mem_cons_self ..); omega
  | n + 1, l, hn, h => by
    have h1 := nodup_le n (l := l.erase n) (hn.erase n) (fun j hj => by
      have h2 := hn.mem_erase_iff.1 hj
      have := h j h2.2
      have := h2.1
      omega)
    have := List.le_length_erase (a := n) (l := l)
    omega

/-- Regions whose order is drawn. -/
def drawn (P : Program) (T : Nat → Option (List TD × TD)) (hm : P.follows .mixedOrders = true) : Drawn P T where
  ok := drawB P T
  sound := by
    intro C F st st' a w E Q id ops vops hS h hok hr hQ
    unfold drawB at hok
    simp only [Bool.and_eq_true, decide_eq_true_eq, List.all_eq_true] at hok
    obtain ⟨⟨⟨⟨k1, k2⟩, k3⟩, k4⟩, k5⟩ := hok
    have hlen := ordOf_length ops.toList vops []
    have hfst : ((ordOf ops.toList vops []).zip vops).map Prod.fst = ordOf ops.toList vops [] := List.map_fst_zip (by omega)
    have hsnd : ((ordOf ops.toList vops []).zip vops).map Prod.snd = vops := List.map_snd_zip (by omega)
    have hzl : ((ordOf ops.toList vops []).zip vops).length = ops.size := by
      rw [List.length_zip]; omega
    have hnd := nodupN_spec k2
    have hlt : ∀ i ∈ ordOf ops.toList vops [], i < ops.size := by
      intro i hi
      rw [← hfst] at hi
      obtain ⟨x, hx, rfl⟩ := List.mem_map.1 hi
      have := k3 x hx
      unfold zOk at this
      simp only [Bool.and_eq_true] at this
      obtain ⟨h1, _⟩ := this
      split at h1
      · rename_i o ho; exact (Array.getElem?_eq_some_iff.1 ho).1
      · cases h1
    refine wp_region_any hm (any_sound hS ops.size hzl (h.grow (w' := { w with drawn := w.drawn + 1 }) (Nat.le_refl _) (fun _ _ => rfl) ⟨h.since.os, h.since.tape, h.since.output, h.since.size, h.since.block⟩) (by rw [hsnd]; exact hr) hQ (by simp) (fun i hi => ?_) (by rw [hfst]; exact hnd) k3 (pairsB_spec k5) ?_ ((topoB_spec k4).mono fun k hk => by cases hk))
    · rw [hfst]
      constructor
      · intro _
        -- every number below is in the list
        apply Classical.byContradiction
        intro hni
        have := nodup_le ops.size (l := i :: ordOf ops.toList vops []) (List.nodup_cons.2 ⟨hni, hnd⟩) (fun j hj => by
          rcases List.mem_cons.1 hj with rfl | hj
          · exact hi
          · exact hlt j hj)
        simp only [List.length_cons] at this
        omega
      · intro _
        simp [Array.getD, hi]
    · intro i hi
      exfalso
      simp [Array.getD] at hi
end Go.Vm
end
section
set_option linter.unusedSimpArgs false
set_option linter.unusedVariables false
namespace Go.Vm
open Go.ChangeShapes Go.WideShapes Go.RowKit

mutual
def plainTD : TD → Bool
  | .bool | .int _ | .str => true
  | .slice e => plainTD e && decide (0 < e.size)
  | .struct fs => plainTDs fs
  | .arr _ e => plainTD e
  | _ => false
def plainTDs : List TD → Bool
  | [] => true
  | t :: ts => plainTD t && plainTDs ts
end
-- The value is one that an argument may be.
mutual
def Fit : TD → PV → Prop
  | .bool, .bool _ => True
  | .int k, .int j n => j = k ∧ k.min ≤ n ∧ n ≤ k.max
  | .str, .str l => l.length ≤ maxLen
  | .slice e, .sl n xs => xs.length ≤ maxLen ∧ (n = true → xs = []) ∧ FitA e xs
  | .struct fs, .agg ps => FitS fs ps
  | .arr n e, .arr xs => xs.length = n ∧ FitA e xs
  | _, _ => False
def FitS : List TD → List PV → Prop
  | [], [] => True
  | t :: ts, p :: ps => Fit t p ∧ FitS ts ps
  | _, _ => False
def FitA (e : TD) : List PV → Prop
  | [] => True
  | p :: ps => Fit e p ∧ FitA e ps
end
theorem fitA_of {e : TD} : ∀ {ps : List PV}, (∀ p ∈ ps, Fit e p) → FitA e ps
  | [], _ => by simp only [FitA]
  | p :: ps, h => by simp only [FitA]; exact ⟨h p (List.mem_cons_self ..), fitA_of fun q hq => h q (List.mem_cons_of_mem _ hq)⟩
theorem fitA_mem {e : TD} : ∀ {ps : List PV}, FitA e ps → ∀ p ∈ ps, Fit e p
  | [], _, p, h => by cases h
  | q :: ps, h, p, hp => by
    simp only [FitA] at h
    rcases List.mem_cons.1 hp with rfl | hp
    · exact h.1
    · exact fitA_mem h.2 p hp

theorem mapM_get {α β : Type} {f : α → Option β} : ∀ {l : List α} {r : List β}, l.mapM f = some r → r.length = l.length ∧ ∀ (j : Nat) (v : β), r[j]? = some v → ∃ x, l[j]? = some x ∧ f x = some v
  | [], r, h => by simp at h; subst h; exact ⟨rfl, by simp⟩
  | x :: l, r, h => by
    rw [List.mapM_cons] at h
    cases h1 : f x with
    | none => rw [h1] at h; simp at h
    | some y =>
      cases h2 : l.mapM f with
      | none => rw [h1, h2] at h; simp at h
      | some ys =>
        rw [h1, h2] at h
        simp at h
        subst h
        obtain ⟨h3, h4⟩ := mapM_get h2
        refine ⟨by simp [h3], fun j v hj => ?_⟩
        cases j with
        | zero => simp at hj; subst hj; exact ⟨x, rfl, h1⟩
        | succ j => simpa using h4 j v (by simpa using hj)
theorem choose_lt {α : Type} [Inhabited α] {n : Nat} {R : Nat → α → Prop} (h : ∀ i, i < n → ∃ a, R i a) : ∃ f : Nat → α, ∀ i, i < n → R i (f i) :=
  ⟨fun i => if hi : i < n then Classical.choose (h i hi) else default, fun i hi => by simp only [hi, dite_true]; exact Classical.choose_spec (h i hi)⟩

section
variable {H : Type} {enc : TypeId × Value → H} {P : Program} {w : World} {base : Nat} {spare : Nat → Bool} {held : Bool} {X : Nat → Prop}

theorem cellsOf_td {td : TD} {t : TypeId} (h : chkTD P td t = true) : P.cellsOf t = td.size := by
  obtain ⟨i, hi, hs, _⟩ := chkTD.info h
  simp [Program.cellsOf, hi, hs]
theorem cells_at {a : Addr} {n : Nat} {cs : List Value} (h : w.cells? base a n = some cs) : cs.length = n ∧ CellsAt w a cs := by
  unfold World.cells? at h
  split at h
  · obtain ⟨h1, h2⟩ := mapM_get h
    refine ⟨by simpa using h1, fun j v hj => ?_⟩
    obtain ⟨x, hx, hv⟩ := h2 j v hj
    rw [List.getElem?_range] at hx
    · injection hx with hx; subst hx; exact hv
    · have := (List.getElem?_eq_some_iff.1 hj).1; simp at h1; omega
  · cases h

def Is (w : World) (X : Nat → Prop) (td : TD) (cs : List Value) : Prop := ∃ p, RC w X td cs p ∧ Fit td p
theorem arr_of {e : TD} {f : Nat → PV} {cs : List Value} : ∀ (n i0 : Nat), (∀ i, i < n → RC w X e ((cs.drop ((i0 + i) * e.size)).take e.size) (f (i0 + i))) → (cs.drop (i0 * e.size)).length = n * e.size →
    RCa w X e (cs.drop (i0 * e.size)) ((List.range n).map fun i => f (i0 + i))
  | 0, i0, _, hl => by
    have : cs.drop (i0 * e.size) = [] := List.length_eq_zero_iff.1 (by simpa using hl)
    rw [this]
    exact .nil
  | n + 1, i0, h, hl => by
    rw [List.range_succ_eq_map]
    simp only [List.map_cons, Nat.add_zero, List.map_map]
    have e1 : cs.drop (i0 * e.size) = (cs.drop (i0 * e.size)).take e.size ++ cs.drop ((i0 + 1) * e.size) := by
      rw [Nat.succ_mul, ← List.drop_drop, List.take_append_drop]
    rw [e1]
    refine .cons (by simpa using h 0 (by omega)) ?_
    have := arr_of (f := f) (cs := cs) n (i0 + 1) (fun i hi => by
      have := h (i + 1) (by omega)
      rwa [show i0 + (i + 1) = i0 + 1 + i by omega] at this) (by
        have h2 := congrArg List.length e1
        rw [hl] at h2
        simp only [List.length_append, List.length_take] at h2
        rw [hl, Nat.succ_mul] at h2
        have : min e.size (n * e.size + e.size) = e.size := by omega
        omega)
    have e2 : ((fun i => f (i0 + i)) ∘ Nat.succ) = fun i => f (i0 + 1 + i) := by
      funext i
      simp only [Function.comp, Nat.succ_eq_add_one]
      rw [show i0 + (i + 1) = i0 + 1 + i by omega]
    rw [e2]
    exact this

theorem struct_of {fuel : Nat} (ih : ∀ (td : TD) (t : TypeId) (cs : List Value) (x : DataW H × List MemPlace), plainTD td = true → chkTD P td t = true → DataW.trod enc P w base spare held fuel t cs = some x → Is w X td cs) {cs : List Value} :
    ∀ {fs : List TD} {off : Nat} {fields : List Field}, plainTDs fs = true → chkFs P fs off fields = true →
      (∀ (i : Nat) (f : Field), fields[i]? = some f → ∃ x, DataW.trod enc P w base spare held fuel f.type ((cs.drop f.offset).take (P.cellsOf f.type)) = some x) → cs.length = off + TD.sizes fs → ∃ ps, RCs w X fs (cs.drop off) ps ∧ FitS fs ps
  | [], off, [], _, _, _, hl => ⟨[], by rw [List.drop_eq_nil_of_le (by simp [TD.sizes] at hl; omega)]; exact .nil, by simp only [FitS]⟩
  | t :: ts, off, f :: fields, hp, hc, hm, hl => by
    simp only [plainTDs, Bool.and_eq_true] at hp
    simp only [chkFs, Bool.and_eq_true, decide_eq_true_eq] at hc
    obtain ⟨⟨⟨h1, h2⟩, h3⟩, h4⟩ := hc
    obtain ⟨y, g1⟩ := hm 0 f rfl
    obtain ⟨p, k1, k2⟩ := ih t f.type _ y hp.1 h3 g1
    simp only [TD.sizes] at hl
    obtain ⟨ps, k3, k4⟩ := struct_of ih hp.2 h4 (fun i f' hf => hm (i + 1) f' hf) (by omega)
    rw [h1, cellsOf_td h3] at k1
    refine ⟨p :: ps, ?_, by simp only [FitS]; exact ⟨k2, k4⟩⟩
    have e1 : cs.drop off = (cs.drop off).take t.size ++ cs.drop (off + t.size) := by rw [← List.drop_drop, List.take_append_drop]
    rw [e1]
    exact .cons k1 k3
  | [], _, _ :: _, _, hc, _, _ => by simp [chkFs] at hc
  | _ :: _, _, [], _, hc, _, _ => by simp [chkFs] at hc

theorem trod_is (hX : ∀ b, ¬ X b) : ∀ (fuel : Nat) (td : TD) (t : TypeId) (cs : List Value) (x : DataW H × List MemPlace), plainTD td = true → chkTD P td t = true → DataW.trod enc P w base spare held fuel t cs = some x → Is w X td cs := by
  intro fuel
  induction fuel with
  | zero => intro td t cs x _ _ h; simp [DataW.trod] at h
  | succ fuel ih =>
    intro td t cs x hp hc h
    cases td with
    | bool =>
      obtain ⟨b, rfl, _⟩ := DataW.trod_bool (chkTD.bool hc) h
      exact ⟨.bool b, .bool b, by simp only [Fit]⟩
    | int k =>
      obtain ⟨n, rfl, _, hw⟩ := DataW.trod_int (chkTD.int hc) h
      simp only [Lit.wf, Bool.and_eq_true, decide_eq_true_eq] at hw
      exact ⟨.int k n, .int k n, by simp only [Fit]; exact ⟨trivial, hw⟩⟩
    | str =>
      obtain ⟨s, rfl, _, hw⟩ := DataW.trod_string (chkTD.str hc) h
      have h1 := RC.str (w := w) (X := X) s.data.toList
      have h2 : (⟨s.data.toList.toArray⟩ : ByteArray) = s := by rcases s with ⟨a⟩; rfl
      rw [h2] at h1
      refine ⟨.str s.data.toList, h1, ?_⟩
      have e : s.data.toList.length = s.size := rfl
      rw [Fit, e]
      exact hw
    | slice e =>
      obtain ⟨te, hu, hte⟩ := (chkTD.slice hc)
      simp only [plainTD, Bool.and_eq_true, decide_eq_true_eq] at hp
      rcases DataW.trod_slice hu h with ⟨rfl, _⟩ | ⟨a, len, cap, ys, _, n, hn, rfl, _, _, hlc, hcm, hl, hg, _⟩
      · exact ⟨.sl true [], .slnil, by simp [Fit, FitA]⟩
      · have hn : n = fuel := by omega
        subst hn
        have key : ∀ i, i < len → ∃ q : List Value × PV, CellsAt w (a.add (i * e.size)) q.1 ∧ RC w X e q.1 q.2 ∧ Fit e q.2 := by
          intro i hi
          have hv := hg i hi
          rw [List.getElem?_eq_getElem (by omega)] at hv
          cases hcs : w.cells? base (a.add (i * P.cellsOf te)) (P.cellsOf te) with
          | none => rw [hcs] at hv; simp at hv
          | some cs =>
            rw [hcs] at hv
            simp only [Option.bind_some] at hv
            obtain ⟨p, k1, k2⟩ := ih e te cs _ hp.1 hte hv
            refine ⟨(cs, p), ?_, k1, k2⟩
            have := (cells_at hcs).2
            rwa [cellsOf_td hte] at this
        have : Inhabited (List Value × PV) := ⟨([], .nil)⟩
        obtain ⟨f, hf⟩ := choose_lt key
        refine ⟨.sl false ((List.range len).map fun i => (f i).2), .sl (fun h0 => ⟨hX _, ?_⟩) (by simp) hlc (fun i => (f i).1) (fun i hi => (hf i (by simpa using hi)).1) (fun i y hy => ?_), ?_⟩
        · have h0 : 0 < len := by simpa using h0
          obtain ⟨g1, g2, _⟩ := hf 0 h0
          have hlen := g2.length
          have := g1 0 _ (List.getElem?_eq_getElem (by omega))
          have := World.block_lt_of_cell? w _ this
          simpa [add_block] using this
        · rw [List.getElem?_map] at hy
          cases hr : (List.range len)[i]? with
          | none => rw [hr] at hy; simp at hy
          | some j =>
            have hi : i < len := by have := (List.getElem?_eq_some_iff.1 hr).1; simpa using this
            rw [List.getElem?_range hi] at hr
            injection hr with hr
            subst hr
            rw [List.getElem?_range hi] at hy
            simp at hy
            subst hy
            exact (hf i hi).2.1
        · simp only [Fit, List.length_map, List.length_range]
          refine ⟨by omega, by simp, fitA_of fun p hp => ?_⟩
          obtain ⟨i, hi, rfl⟩ := List.mem_map.1 hp
          exact (hf i (by simpa using hi)).2.2
    | struct fs =>
      obtain ⟨fields, hu, hfs⟩ := (chkTD.struct hc)
      simp only [plainTD] at hp
      obtain ⟨xs, n, hn, _, hl, hxl, hg⟩ := DataW.trod_struct hu h
      have hn : n = fuel := by omega
      subst hn
      rw [cellsOf_td hc, TD.size] at hl
      obtain ⟨ps, k1, k2⟩ := struct_of ih hp hfs (fun i f hf => by
        have hf' : fields[i]? = some f := by simpa using hf
        rw [hg i f hf']
        have := (Array.getElem?_eq_some_iff.1 hf').1
        exact ⟨_, List.getElem?_eq_getElem (by omega)⟩) (by omega)
      exact ⟨.agg ps, .struct (by simpa using k1), by simpa only [Fit] using k2⟩
    | arr n e =>
      obtain ⟨te, hu, hte⟩ := (chkTD.arr hc)
      simp only [plainTD] at hp
      obtain ⟨xs, m, hn, _, hl, hxl, hg⟩ := DataW.trod_array hu h
      have hn : m = fuel := by omega
      subst hn
      rw [cellsOf_td hc, TD.size] at hl
      have key : ∀ i, i < n → ∃ q : PV, RC w X e ((cs.drop (i * e.size)).take e.size) q ∧ Fit e q := by
        intro i hi
        have hv := hg i hi
        rw [List.getElem?_eq_getElem (by omega)] at hv
        obtain ⟨p, k1, k2⟩ := ih e te _ _ hp hte hv
        rw [cellsOf_td hte] at k1
        exact ⟨p, k1, k2⟩
      obtain ⟨f, hf⟩ := choose_lt key
      refine ⟨.arr ((List.range n).map f), .arr (by simp) ?_, ?_⟩
      · have := arr_of (f := f) (cs := cs) n 0 (fun i hi => by simpa using (hf i hi).1) (by simpa using hl)
        simpa using this
      · simp only [Fit, List.length_map, List.length_range]
        refine ⟨trivial, fitA_of fun p hp => ?_⟩
        obtain ⟨i, hi, rfl⟩ := List.mem_map.1 hp
        exact (hf i (by simpa using hi)).2
    | ptr e => simp [plainTD] at hp
    | map k e => simp [plainTD] at hp
    | func => simp [plainTD] at hp
    | tup ts => simp [plainTD] at hp

/-- An argument. -/
theorem arg_is {td : TD} {t : TypeId} {v : Value} {d : DataW H} {ps : List MemPlace} (hp : plainTD td = true) (hc : chkTD P td t = true) {r : Reach} {b0 : Nat} (hval : Value.okWide P w r b0 t v) (h : DataW.Trod enc P w base spare held t v d ps) :
    ∃ q, ArgR w (fun _ => False) td v q [] ∧ Fit td q := by
  obtain ⟨fuel, hf⟩ := h
  obtain ⟨q, h1, h2⟩ := trod_is (X := fun _ => False) (fun _ hx => hx) fuel td t _ _ hp hc hf
  refine ⟨q, .imm h1 ?_, h2⟩
  cases td with
  | bool => obtain ⟨b, rfl⟩ := okWide_bool (chkTD.bool hc) hval; rfl
  | int k => obtain ⟨b, rfl⟩ := okWide_int (chkTD.int hc) hval; rfl
  | str => obtain ⟨b, rfl⟩ := okWide_string (chkTD.str hc) hval; rfl
  | slice e => obtain ⟨te, hu, _⟩ := (chkTD.slice hc); obtain ⟨a, l, c, rfl⟩ := okWide_slice hu hval; rfl
  | struct fs =>
    obtain ⟨fields, hu, _⟩ := (chkTD.struct hc)
    simp only [Value.okWide, hu] at hval
    obtain ⟨cs, rfl, _⟩ := hval
    simp [TD.valOf, TD.isAgg, Value.cells]
  | arr n e =>
    obtain ⟨te, hu, _⟩ := (chkTD.arr hc)
    simp only [Value.okWide, hu] at hval
    obtain ⟨cs, rfl, _⟩ := hval
    simp [TD.valOf, TD.isAgg, Value.cells]
  | ptr e => simp [plainTD] at hp
  | map k e => simp [plainTD] at hp
  | func => simp [plainTD] at hp
  | tup ts => simp [plainTD] at hp
end

/-- A law's call. -/
theorem law_calls {P : Program} {T : Nat → Option (List TD × TD)} {C : Nat → List PV → Option (PV × List PV)} (hS : Serves P T C) {f : Nat} {params : List TD} {ps : List PV} {outs : List PV} {vs : List Value} {w : World} (hT : T f = some (params, .bool)) (hC : C f ps = some (.bool true, outs))
    (hA : ArgsR w (fun _ => False) params vs ps []) : Calls P f vs.toArray w fun e w' => e = .returned (.bool true) ∧ Below w.heap.size w w' := by
  refine (hS f params .bool ps _ outs vs w _ [] hT hC hA List.nodup_nil).mono fun e w' h => ?_
  obtain ⟨v, X', bl, ol, rfl, h1, _, _, h2, _⟩ := h
  refine ⟨?_, ⟨h1.os, h1.tape, h1.output, h1.size, fun k hk => h1.block k (by simp) hk⟩⟩
  cases h2 with
  | cells h2 hv => cases h2 with
    | imm h2 => cases h2; rw [hv]; rfl
end Go.Vm
end
