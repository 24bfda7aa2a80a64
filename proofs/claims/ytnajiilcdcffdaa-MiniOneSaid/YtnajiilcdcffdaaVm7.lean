/- A virtual machine for loaded programs, and that the interpreter does what it does. No conditions beyond each theorem. Reasoning about the interpreter: enough fuel is enough; rules for code. Words for the walks over the interpreter's code: loops that count, encoded lists. -/
import Derived.Test.YtnajiilcdcffdaaVm6
import Derived.IntWalk
section
set_option linter.unusedSimpArgs false
set_option linter.unusedVariables false
namespace Go.Vm
abbrev CF := Nat → List PV → Option (PV × List PV)
def CLe (C C' : CF) : Prop := ∀ f ps r, C f ps = some r → C' f ps = some r
theorem CLe.refl (C : CF) : CLe C C := fun _ _ _ h => h

theorem step_mono {C C' : CF} (h : CLe C C') {st st' : St} {d : Option Nat} {op : VO} (hs : step C st d op = some st') : step C' st d op = some st' := by
  cases op with
  | call f xs res =>
    simp only [step] at hs ⊢
    split at hs
    · rename_i vs hvs
      split at hs
      · rename_i rs hrs
        split at hs
        · rename_i ps ls bs ho
          split at hs
          · rename_i hb
            split at hs
            · rename_i r outs hC
              simp only [hvs, hrs, ho, if_pos hb, h _ _ _ hC]
              exact hs
            · cases hs
          · cases hs
        · cases hs
      · cases hs
    · cases hs
  | _ => exact hs
theorem oneOp_mono {C C' : CF} (h : CLe C C') {st st' : St} {o : VOp} (hs : oneOp C o st = some st') : oneOp C' o st = some st' := by
  unfold oneOp at hs ⊢
  cases hw : wantedV st o.guard with
  | none => rw [hw] at hs; cases hs
  | some b =>
    rw [hw] at hs
    cases b with
    | true => exact step_mono h hs
    | false => exact hs
theorem runOps_mono {C C' : CF} (h : CLe C C') : ∀ {ops : List VOp} {st st' : St}, runOps C ops st = some st' → runOps C' ops st = some st'
  | [], st, st', hs => hs
  | o :: ops, st, st', hs => by
    rw [runOps_cons] at hs ⊢
    split at hs
    · rename_i s1 h1
      simp only [oneOp_mono h h1]
      exact runOps_mono h hs
    · cases hs
theorem loopN_mono {f g : St → Option (Ex × St)} (h : ∀ s r, f s = some r → g s = some r) : ∀ {n m : Nat} {st : St} {r : Ex × St}, n ≤ m → loopN n f st = some r → loopN m g st = some r
  | 0, m, st, r, _, hs => by simp [loopN] at hs
  | n + 1, 0, st, r, hm, hs => by omega
  | n + 1, m + 1, st, r, hm, hs => by
    simp only [loopN] at hs ⊢
    cases hf : f st with
    | none => rw [hf] at hs; cases hs
    | some x =>
      rw [hf] at hs
      rw [h _ _ hf]
      obtain ⟨ex, s1⟩ := x
      cases ex with
      | normal => exact loopN_mono h (Nat.le_of_succ_le_succ hm) hs
      | exit id => exact hs
      | ret => exact hs
theorem exec_mono {C C' : CF} (h : CLe C C') {n m : Nat} (hm : n ≤ m) : ∀ {c : VCode} {st : St} {r : Ex × St}, exec C n c st = some r → exec C' m c st = some r := by
  intro c
  induction c with
  | skip => intro st r hs; exact hs
  | region d ops K =>
    intro st r hs
    simp only [exec] at hs ⊢
    split at hs
    · rename_i s1 h1; simp only [runOps_mono h h1]; exact hs
    · cases hs
  | seq a b iha ihb =>
    intro st r hs
    simp only [exec] at hs ⊢
    cases ha : exec C n a st with
    | none => rw [ha] at hs; cases hs
    | some x =>
      rw [ha] at hs
      rw [iha ha]
      obtain ⟨ex, s1⟩ := x
      cases ex with
      | normal => exact ihb hs
      | exit id => exact hs
      | ret => exact hs
  | cond c a b iha ihb =>
    intro st r hs
    simp only [exec] at hs ⊢
    split at hs
    · exact iha hs
    · exact ihb hs
    · cases hs
  | block id c ih =>
    intro st r hs
    simp only [exec] at hs ⊢
    cases ha : exec C n c st with
    | none => rw [ha] at hs; cases hs
    | some x =>
      rw [ha] at hs
      rw [ih ha]
      exact hs
  | loop K c ih =>
    intro st r hs
    simp only [exec] at hs ⊢
    exact loopN_mono (fun s r hr => ih hr) hm hs
  | exit id => intro st r hs; exact hs
  | ret => intro st r hs; exact hs
theorem callF_mono {P : Nat → Option VFn} : ∀ {n m : Nat}, n ≤ m → CLe (callF P n) (callF P m)
  | 0, m, _ => fun f ps r h => by simp [callF] at h
  | n + 1, 0, h => by omega
  | n + 1, m + 1, h => fun f ps r hr => by
    have ih := callF_mono (P := P) (Nat.le_of_succ_le_succ h)
    simp only [callF] at hr ⊢
    split at hr
    · rename_i vf hvf
      cases he : exec (callF P n) n vf.body (enterA 0 ps) with
      | none => rw [he] at hr; cases hr
      | some x =>
        rw [he] at hr
        rw [exec_mono ih (Nat.le_of_succ_le_succ h) he]
        exact hr
    · exact hr
    · cases hr

/-! ### Without fuel -/
variable {P : Nat → Option VFn}
open Classical in
/-- What a call gives, with fuel enough. -/
noncomputable def cv (P : Nat → Option VFn) : CF := fun f ps => if h : ∃ n r, callF P n f ps = some r then some h.choose_spec.choose else none
theorem cv_of {n f : Nat} {ps : List PV} {r : PV × List PV} (h : callF P n f ps = some r) : cv P f ps = some r := by
  have hh : ∃ n r, callF P n f ps = some r := ⟨n, r, h⟩
  unfold cv
  rw [dif_pos hh]
  have h2 := hh.choose_spec.choose_spec
  have h3 := callF_mono (Nat.le_max_left n hh.choose) _ _ _ h
  have h4 := callF_mono (Nat.le_max_right n hh.choose) _ _ _ h2
  rw [h3] at h4
  rw [Option.some.inj h4]
theorem of_cv {f : Nat} {ps : List PV} {r : PV × List PV} (h : cv P f ps = some r) : ∃ n, callF P n f ps = some r := by
  unfold cv at h
  split at h
  · rename_i hh
    injection h with h
    exact ⟨_, h ▸ hh.choose_spec.choose_spec⟩
  · cases h

theorem step_lim {st st' : St} {d : Option Nat} {op : VO} (hs : step (cv P) st d op = some st') : ∃ m, step (callF P m) st d op = some st' := by
  cases op with
  | call f xs res =>
    simp only [step] at hs ⊢
    split at hs
    · rename_i vs hvs
      split at hs
      · rename_i rs hrs
        split at hs
        · rename_i ps ls bs ho
          split at hs
          · rename_i hb
            split at hs
            · rename_i r outs hC
              obtain ⟨m, hm⟩ := of_cv hC
              refine ⟨m, ?_⟩
              simp only [hvs, hrs, ho, if_pos hb, hm]
              exact hs
            · cases hs
          · cases hs
        · cases hs
      · cases hs
    · cases hs
  | _ => exact ⟨0, hs⟩
theorem oneOp_lim {st st' : St} {o : VOp} (hs : oneOp (cv P) o st = some st') : ∃ m, oneOp (callF P m) o st = some st' := by
  unfold oneOp at hs ⊢
  cases hw : wantedV st o.guard with
  | none => rw [hw] at hs; cases hs
  | some b =>
    rw [hw] at hs
    cases b with
    | true => exact step_lim hs
    | false => exact ⟨0, hs⟩
theorem runOps_lim : ∀ {ops : List VOp} {st st' : St}, runOps (cv P) ops st = some st' → ∃ m, runOps (callF P m) ops st = some st'
  | [], st, st', hs => ⟨0, hs⟩
  | o :: ops, st, st', hs => by
    rw [runOps_cons] at hs
    split at hs
    · rename_i s1 h1
      obtain ⟨m, hm⟩ := oneOp_lim h1
      obtain ⟨k, hk⟩ := runOps_lim hs
      refine ⟨max m k, ?_⟩
      rw [runOps_cons, oneOp_mono (callF_mono (Nat.le_max_left m k)) hm]
      exact runOps_mono (callF_mono (Nat.le_max_right m k)) hk
    · cases hs
theorem loopN_lim {K : List Nat} {c : VCode} {n : Nat} (ih : ∀ {st : St} {r : Ex × St}, exec (cv P) n c st = some r → ∃ m, exec (callF P m) m c st = some r) : ∀ {k : Nat} {st : St} {r : Ex × St}, loopN k (fun s => exec (cv P) n c (norm K s)) st = some r → ∃ m, loopN m (fun s => exec (callF P m) m c (norm K s)) st = some r
  | 0, st, r, hs => by simp [loopN] at hs
  | k + 1, st, r, hs => by
    simp only [loopN] at hs
    cases hf : exec (cv P) n c (norm K st) with
    | none => rw [hf] at hs; cases hs
    | some x =>
      rw [hf] at hs
      obtain ⟨m, hm⟩ := ih hf
      obtain ⟨ex, s1⟩ := x
      cases ex with
      | normal =>
        obtain ⟨j, hj⟩ := loopN_lim ih hs
        refine ⟨max m j + 1, ?_⟩
        simp only [loopN, exec_mono (callF_mono (show m ≤ max m j + 1 by omega)) (show m ≤ max m j + 1 by omega) hm]
        exact loopN_mono (fun s r hr => exec_mono (callF_mono (by omega)) (by omega) hr) (by omega) hj
      | exit id => exact ⟨m + 1, by simp only [loopN, exec_mono (callF_mono (Nat.le_succ m)) (Nat.le_succ m) hm]; exact hs⟩
      | ret => exact ⟨m + 1, by simp only [loopN, exec_mono (callF_mono (Nat.le_succ m)) (Nat.le_succ m) hm]; exact hs⟩
theorem exec_lim {n : Nat} : ∀ {c : VCode} {st : St} {r : Ex × St}, exec (cv P) n c st = some r → ∃ m, exec (callF P m) m c st = some r := by
  intro c
  induction c with
  | skip => intro st r hs; exact ⟨0, hs⟩
  | region d ops K =>
    intro st r hs
    simp only [exec] at hs
    split at hs
    · rename_i s1 h1
      obtain ⟨m, hm⟩ := runOps_lim h1
      exact ⟨m, by simp only [exec, hm]; exact hs⟩
    · cases hs
  | seq a b iha ihb =>
    intro st r hs
    simp only [exec] at hs
    cases ha : exec (cv P) n a st with
    | none => rw [ha] at hs; cases hs
    | some x =>
      rw [ha] at hs
      obtain ⟨m, hm⟩ := iha ha
      obtain ⟨ex, s1⟩ := x
      cases ex with
      | normal =>
        obtain ⟨k, hk⟩ := ihb hs
        refine ⟨max m k, ?_⟩
        simp only [exec]
        rw [exec_mono (callF_mono (Nat.le_max_left m k)) (Nat.le_max_left m k) hm]
        exact exec_mono (callF_mono (Nat.le_max_right m k)) (Nat.le_max_right m k) hk
      | exit id => exact ⟨m, by simp only [exec, hm]; exact hs⟩
      | ret => exact ⟨m, by simp only [exec, hm]; exact hs⟩
  | cond c a b iha ihb =>
    intro st r hs
    simp only [exec] at hs
    split at hs
    · rename_i hc; obtain ⟨m, hm⟩ := iha hs; exact ⟨m, by simp only [exec, hc]; exact hm⟩
    · rename_i hc; obtain ⟨m, hm⟩ := ihb hs; exact ⟨m, by simp only [exec, hc]; exact hm⟩
    · cases hs
  | block id c ih =>
    intro st r hs
    simp only [exec] at hs
    cases ha : exec (cv P) n c st with
    | none => rw [ha] at hs; cases hs
    | some x =>
      rw [ha] at hs
      obtain ⟨m, hm⟩ := ih ha
      exact ⟨m, by simp only [exec, hm]; exact hs⟩
  | loop K c ih =>
    intro st r hs
    simp only [exec] at hs
    obtain ⟨m, hm⟩ := loopN_lim (fun h => ih h) hs
    exact ⟨m, by simp only [exec]; exact hm⟩
  | exit id => intro st r hs; exact ⟨0, hs⟩
  | ret => intro st r hs; exact ⟨0, hs⟩

/-! ### Rules -/
section
variable {C : CF} {Q Q' : Ex → St → Prop} {st st' : St}
def W (C : CF) (c : VCode) (Q : Ex → St → Prop) (st : St) : Prop := ∃ n ex st', exec C n c st = some (ex, st') ∧ Q ex st'
def WO (C : CF) (ops : List VOp) (q : St → Prop) (st : St) : Prop := ∃ st', runOps C ops st = some st' ∧ q st'
def Then (o : Option St) (q : St → Prop) : Prop := ∃ s, o = some s ∧ q s
theorem Then_some {s : St} {q : St → Prop} : Then (some s) q ↔ q s := ⟨fun ⟨_, h, hq⟩ => by injection h with h; subst h; exact hq, fun h => ⟨_, rfl, h⟩⟩
theorem W.mono {c : VCode} (h : W C c Q st) (hq : ∀ ex s, Q ex s → Q' ex s) : W C c Q' st := by
  obtain ⟨n, ex, s, h1, h2⟩ := h
  exact ⟨n, ex, s, h1, hq _ _ h2⟩
theorem W_skip : W C .skip Q st ↔ Q .normal st := ⟨fun ⟨_, _, _, h, hq⟩ => by simp only [exec, Option.some.injEq, Prod.mk.injEq] at h; obtain ⟨rfl, rfl⟩ := h; exact hq, fun h => ⟨0, _, _, rfl, h⟩⟩
theorem W_ret : W C .ret Q st ↔ Q .ret st := ⟨fun ⟨_, _, _, h, hq⟩ => by simp only [exec, Option.some.injEq, Prod.mk.injEq] at h; obtain ⟨rfl, rfl⟩ := h; exact hq, fun h => ⟨0, _, _, rfl, h⟩⟩
theorem W_exit {id : Nat} : W C (.exit id) Q st ↔ Q (.exit id) st := ⟨fun ⟨_, _, _, h, hq⟩ => by simp only [exec, Option.some.injEq, Prod.mk.injEq] at h; obtain ⟨rfl, rfl⟩ := h; exact hq, fun h => ⟨0, _, _, rfl, h⟩⟩
def Seq (C : CF) (b : VCode) (Q : Ex → St → Prop) (ex : Ex) (s : St) : Prop := match ex with
  | .normal => W C b Q s
  | .exit id => Q (.exit id) s
  | .ret => Q .ret s
theorem Seq_normal {b : VCode} {s : St} : Seq C b Q .normal s ↔ W C b Q s := Iff.rfl
theorem Seq_exit {b : VCode} {s : St} {id : Nat} : Seq C b Q (.exit id) s ↔ Q (.exit id) s := Iff.rfl
theorem Seq_ret {b : VCode} {s : St} : Seq C b Q .ret s ↔ Q .ret s := Iff.rfl
theorem W_seq {a b : VCode} : W C (.seq a b) Q st ↔ W C a (Seq C b Q) st := by
  constructor
  · rintro ⟨n, ex, s, h1, h2⟩
    simp only [exec] at h1
    cases ha : exec C n a st with
    | none => rw [ha] at h1; cases h1
    | some x =>
      rw [ha] at h1
      obtain ⟨ex1, s1⟩ := x
      cases ex1 with
      | normal => exact ⟨n, _, s1, ha, ⟨n, ex, s, h1, h2⟩⟩
      | exit id => simp only [Option.some.injEq, Prod.mk.injEq] at h1; obtain ⟨rfl, rfl⟩ := h1; exact ⟨n, _, _, ha, h2⟩
      | ret => simp only [Option.some.injEq, Prod.mk.injEq] at h1; obtain ⟨rfl, rfl⟩ := h1; exact ⟨n, _, _, ha, h2⟩
  · rintro ⟨n, ex, s, h1, h2⟩
    cases ex with
    | normal =>
      obtain ⟨m, ex', s', h3, h4⟩ := h2
      refine ⟨max n m, ex', s', ?_, h4⟩
      simp only [exec]
      rw [exec_mono (CLe.refl C) (Nat.le_max_left n m) h1]
      exact exec_mono (CLe.refl C) (Nat.le_max_right n m) h3
    | exit id => exact ⟨n, _, s, by simp only [exec, h1], h2⟩
    | ret => exact ⟨n, _, s, by simp only [exec, h1], h2⟩
def Cnd (o : Option PV) (a b : Prop) : Prop := ∃ t, o = some (.bool t) ∧ (if t then a else b)
theorem Cnd_true {a b : Prop} : Cnd (some (.bool true)) a b ↔ a := ⟨fun ⟨t, h, hq⟩ => by simp only [Option.some.injEq, PV.bool.injEq] at h; subst h; exact hq, fun h => ⟨true, rfl, h⟩⟩
theorem Cnd_false {a b : Prop} : Cnd (some (.bool false)) a b ↔ b := ⟨fun ⟨t, h, hq⟩ => by simp only [Option.some.injEq, PV.bool.injEq] at h; subst h; simpa using hq, fun h => ⟨false, rfl, h⟩⟩
theorem Cnd_if {a b : Prop} {t : Bool} : Cnd (some (.bool t)) a b ↔ if t then a else b := ⟨fun ⟨t, h, hq⟩ => by simp only [Option.some.injEq, PV.bool.injEq] at h; subst h; exact hq, fun h => ⟨t, rfl, h⟩⟩
theorem W_cond {c : VA} {a b : VCode} : W C (.cond c a b) Q st ↔ Cnd (c.eval st) (W C a Q st) (W C b Q st) := by
  constructor
  · rintro ⟨n, ex, s, h1, h2⟩
    simp only [exec] at h1
    split at h1
    · rename_i hc; exact ⟨true, hc, ⟨n, ex, s, h1, h2⟩⟩
    · rename_i hc; exact ⟨false, hc, ⟨n, ex, s, h1, h2⟩⟩
    · cases h1
  · rintro ⟨t, hc, h⟩
    cases t with
    | true => obtain ⟨n, ex, s, h1, h2⟩ := h; exact ⟨n, ex, s, by simp only [exec, hc]; exact h1, h2⟩
    | false => obtain ⟨n, ex, s, h1, h2⟩ := h; exact ⟨n, ex, s, by simp only [exec, hc]; exact h1, h2⟩
def Blk (id : Nat) (Q : Ex → St → Prop) (ex : Ex) (s : St) : Prop := match ex with
  | .normal => Q .normal s
  | .exit j => if j = id then Q .normal s else Q (.exit j) s
  | .ret => Q .ret s
theorem Blk_normal {id : Nat} {s : St} : Blk id Q .normal s ↔ Q .normal s := Iff.rfl
theorem Blk_exit {id j : Nat} {s : St} : Blk id Q (.exit j) s ↔ if j = id then Q .normal s else Q (.exit j) s := Iff.rfl
theorem Blk_ret {id : Nat} {s : St} : Blk id Q .ret s ↔ Q .ret s := Iff.rfl
theorem W_block {id : Nat} {c : VCode} : W C (.block id c) Q st ↔ W C c (Blk id Q) st := by
  constructor
  · rintro ⟨n, ex, s, h1, h2⟩
    simp only [exec] at h1
    cases ha : exec C n c st with
    | none => rw [ha] at h1; cases h1
    | some x =>
      rw [ha] at h1
      obtain ⟨ex1, s1⟩ := x
      refine ⟨n, ex1, s1, ha, ?_⟩
      cases ex1 with
      | normal => simp only [Option.some.injEq, Prod.mk.injEq] at h1; obtain ⟨rfl, rfl⟩ := h1; exact h2
      | ret => simp only [Option.some.injEq, Prod.mk.injEq] at h1; obtain ⟨rfl, rfl⟩ := h1; exact h2
      | exit j =>
        simp only [Blk]
        simp only at h1
        split at h1 <;> (rename_i e; simp only [Option.some.injEq, Prod.mk.injEq] at h1; obtain ⟨rfl, rfl⟩ := h1)
        · rw [if_pos e]; exact h2
        · rw [if_neg e]; exact h2
  · rintro ⟨n, ex, s, h1, h2⟩
    cases ex with
    | normal => exact ⟨n, _, s, by simp only [exec, h1], h2⟩
    | ret => exact ⟨n, _, s, by simp only [exec, h1], h2⟩
    | exit j =>
      simp only [Blk] at h2
      split at h2
      · rename_i e; exact ⟨n, _, s, by simp only [exec, h1, if_pos e], h2⟩
      · rename_i e; exact ⟨n, _, s, by simp only [exec, h1, if_neg e], h2⟩
def Rnd (I : St → Prop) (Q : Ex → St → Prop) (ex : Ex) (s : St) : Prop := match ex with
  | .normal => I s
  | .exit id => Q (.exit id) s
  | .ret => Q .ret s
theorem Rnd_normal {I : St → Prop} {s : St} : Rnd I Q .normal s ↔ I s := Iff.rfl
theorem Rnd_exit {I : St → Prop} {s : St} {id : Nat} : Rnd I Q (.exit id) s ↔ Q (.exit id) s := Iff.rfl
theorem Rnd_ret {I : St → Prop} {s : St} : Rnd I Q .ret s ↔ Q .ret s := Iff.rfl
theorem loopN_fuel {f : St → Option (Ex × St)} {st s1 : St} {n : Nat} {r : Ex × St} (h1 : f st = some (.normal, s1)) (h2 : loopN n f s1 = some r) : loopN (n + 1) f st = some r := by
  simp only [loopN, h1]; exact h2
/-- A loop: I k: k rounds are still to go, at most. -/
theorem W_loop {K : List Nat} {c : VCode} (I : Nat → St → Prop) (k : Nat) (h0 : I k (norm K st)) (hr : ∀ k s, I k s → W C c (Rnd (fun s' => ∃ j, j < k ∧ I j (norm K s')) Q) s) : W C (.loop K c) Q st := by
  induction k using Nat.strongRecOn generalizing st with
  | ind k ih =>
    obtain ⟨n, ex, s, h1, h2⟩ := hr k _ h0
    cases ex with
    | normal =>
      obtain ⟨j, hj, hI⟩ := h2
      obtain ⟨m, ex', s', h3, h4⟩ := ih j hj hI
      refine ⟨max n m + 1, ex', s', ?_, h4⟩
      simp only [exec] at h3 ⊢
      refine loopN_fuel (exec_mono (CLe.refl C) (by omega) h1) ?_
      exact loopN_mono (fun s r hr => exec_mono (CLe.refl C) (by omega) hr) (by omega) h3
    | exit id =>
      refine ⟨n + 1, _, s, ?_, h2⟩
      simp only [exec, loopN, exec_mono (CLe.refl C) (Nat.le_succ n) h1]
    | ret =>
      refine ⟨n + 1, _, s, ?_, h2⟩
      simp only [exec, loopN, exec_mono (CLe.refl C) (Nat.le_succ n) h1]
theorem W_region {d : Bool} {ops : List VOp} {K : List Nat} : W C (.region d ops K) Q st ↔ WO C ops (fun s => Q .normal (norm K s)) st := by
  constructor
  · rintro ⟨n, ex, s, h1, h2⟩
    simp only [exec] at h1
    split at h1
    · rename_i s1 hs; simp only [Option.some.injEq, Prod.mk.injEq] at h1; obtain ⟨rfl, rfl⟩ := h1; exact ⟨s1, hs, h2⟩
    · cases h1
  · rintro ⟨s, h1, h2⟩
    exact ⟨0, _, _, by simp only [exec, h1], h2⟩
/-- A region's operations that are left. -/
def WR (C : CF) (ops : List VOp) (K : List Nat) (Q : Ex → St → Prop) (st : St) : Prop := WO C ops (fun s => Q .normal (norm K s)) st
theorem W_reg {d : Bool} {ops : List VOp} {K : List Nat} : W C (.region d ops K) Q st ↔ WR C ops K Q st := W_region
theorem WO_nil {q : St → Prop} : WO C [] q st ↔ q st := ⟨fun ⟨_, h, hq⟩ => by simp only [runOps, Option.some.injEq] at h; subst h; exact hq, fun h => ⟨_, rfl, h⟩⟩
theorem WO_cons {o : VOp} {r : List VOp} {q : St → Prop} : WO C (o :: r) q st ↔ Then (oneOp C o st) (WO C r q) := by
  constructor
  · rintro ⟨s, h1, h2⟩
    rw [runOps_cons] at h1
    split at h1
    · rename_i s1 hs; exact ⟨s1, hs, s, h1, h2⟩
    · cases h1
  · rintro ⟨s1, hs, s, h1, h2⟩
    exact ⟨s, by rw [runOps_cons, hs]; exact h1, h2⟩
theorem WR_nil {K : List Nat} : WR C [] K Q st ↔ Q .normal (norm K st) := WO_nil
theorem WR_cons {o : VOp} {r : List VOp} {K : List Nat} : WR C (o :: r) K Q st ↔ Then (oneOp C o st) (WR C r K Q) := WO_cons
theorem oneOp_no {d : Option Nat} {op : VO} : oneOp C ⟨d, op, none⟩ st = step C st d op := rfl
theorem oneOp_if {d : Option Nat} {op : VO} {s : Nat} {b : Bool} : oneOp C ⟨d, op, some (s, b)⟩ st = (match look s st.sl with
    | some (.bool t) => if t = b then step C st d op else (match d with | some d => some { st with sl := put d .undef st.sl } | none => some st)
    | some .undef => (match d with | some d => some { st with sl := put d .undef st.sl } | none => some st)
    | _ => none) := by
  simp only [oneOp, wantedV]
  cases look s st.sl with
  | none => rfl
  | some v =>
    cases v
    case bool t => cases t <;> cases b <;> rfl
    all_goals (cases d <;> rfl)
end

/-- What a function's code must do. -/
def Fin (res : List VRes) (ps : List PV) (R : PV → Prop) (ex : Ex) (s : St) : Prop := (ex = .ret ∨ ex = .normal) ∧ ∃ vs bs us l cs m, resV s res = some vs ∧ boxV s (inouts 0 ps) = some bs ∧ s.exps vs = some (us, l) ∧ s.exps bs = some (cs, m) ∧ nodupR (l ++ m) = true ∧ R (packR us)
def Gives (P : Nat → Option VFn) (f : Nat) (ps : List PV) (R : PV → Prop) : Prop := ∃ r outs, cv P f ps = some (r, outs) ∧ R r
theorem gives_of {f : Nat} {vf : VF} {ps : List PV} {R : PV → Prop} (hf : P f = some (.code vf)) (h : W (cv P) vf.body (Fin vf.res ps R) (enterA 0 ps)) : Gives P f ps R := by
  obtain ⟨n, ex, s, h1, h2, vs, bs, us, l, cs, mm, h3, h4, h5, h6, h7, h8⟩ := h
  obtain ⟨m, hm⟩ := exec_lim h1
  refine ⟨_, cs, cv_of (n := m + 1) ?_, h8⟩
  simp only [callF, hf, hm]
  have : finish vf ps s = some (packR us, cs) := by simp only [finish, h3, h4, h5, h6, h7, if_true]
  rcases h2 with rfl | rfl <;> exact this
def End (R : PV → Prop) (s : St) (vs : Option (List PV)) : Prop := ∃ v us l, vs = some v ∧ s.exps v = some (us, l) ∧ nodupR l = true ∧ R (packR us)
/-- As 'End', with boxes that were handed over. -/
def EndB (bx : List Nat) (R : PV → Prop) (s : St) (vs : Option (List PV)) : Prop := ∃ v bs us l cs m, vs = some v ∧ boxV s bx = some bs ∧ s.exps v = some (us, l) ∧ s.exps bs = some (cs, m) ∧ nodupR (l ++ m) = true ∧ R (packR us)
theorem Fin_ret {res : List VRes} {ps : List PV} {R : PV → Prop} {s : St} : Fin res ps R .ret s ↔ EndB (inouts 0 ps) R s (resV s res) := by
  simp only [Fin, EndB, true_or, true_and]
theorem Fin_normal {res : List VRes} {ps : List PV} {R : PV → Prop} {s : St} : Fin res ps R .normal s ↔ EndB (inouts 0 ps) R s (resV s res) := by
  simp only [Fin, EndB, or_true, true_and]
theorem EndB_nil {R : PV → Prop} {s : St} {vs : Option (List PV)} : EndB [] R s vs ↔ End R s vs := by
  constructor
  · rintro ⟨v, bs, us, l, cs, m, h1, h2, h3, h4, h5, h6⟩
    simp only [boxV, Option.some.injEq] at h2
    subst h2
    simp only [St.exps, Option.some.injEq, Prod.mk.injEq] at h4
    obtain ⟨rfl, rfl⟩ := h4
    exact ⟨v, us, l, h1, h3, by simpa using h5, h6⟩
  · rintro ⟨v, us, l, h1, h3, h5, h6⟩
    exact ⟨v, [], us, l, [], [], h1, rfl, h3, rfl, by simpa using h5, h6⟩
def Got (R : PV → Prop) (x : Option (List PV × List RId)) : Prop := ∃ us l, x = some (us, l) ∧ nodupR l = true ∧ R (packR us)
theorem End_some {R : PV → Prop} {s : St} {v : List PV} : End R s (some v) ↔ Got R (s.exps v) :=
  ⟨fun ⟨_, us, l, h, h1, h2, h3⟩ => by injection h with h; subst h; exact ⟨us, l, h1, h2, h3⟩, fun ⟨us, l, h1, h2, h3⟩ => ⟨v, us, l, rfl, h1, h2, h3⟩⟩
theorem Got_some {R : PV → Prop} {us : List PV} {l : List RId} : Got R (some (us, l)) ↔ nodupR l = true ∧ R (packR us) :=
  ⟨fun ⟨_, _, h, h1, h2⟩ => by simp only [Option.some.injEq, Prod.mk.injEq] at h; obtain ⟨rfl, rfl⟩ := h; exact ⟨h1, h2⟩, fun ⟨h1, h2⟩ => ⟨us, l, rfl, h1, h2⟩⟩
theorem packR_one (v : PV) : packR [v] = v := rfl

theorem wrap8 {n : Int} (h : 0 ≤ n ∧ n ≤ 255) : IntKind.u8.wrap n = n := IntWalk.u8_in n h
theorem wrap64 {n : Int} (h : -9223372036854775808 ≤ n ∧ n ≤ 9223372036854775807) : IntKind.i64.wrap n = n := IntWalk.i64_in n h
end Go.Vm
end
section
set_option linter.unusedSimpArgs false
set_option linter.unusedVariables false
set_option linter.defProp false
namespace Go.Vm
section
variable {C : CF} {Q Q' : Ex → St → Prop} {st st' : St}

/-- The loop's head again. -/
def Again (K : List Nat) (J : St → Prop) (s : St) : Prop := J (norm K s)
theorem Again_mk {K : List Nat} {J : St → Prop} {a b : List (Nat × PV)} {c : List (RId × RegC)} : Again K J ⟨a, b, c⟩ ↔ J (norm K ⟨a, b, c⟩) := Iff.rfl
/-- A loop that counts: S i a is the state at the head of round i. -/
theorem W_iter {α : Type} {K : List Nat} {body : VCode} (S : Nat → α → St) (N : Nat) (I : Nat → α → Prop) (i0 : Nat) (a0 : α) (hst : norm K st = S i0 a0) (h0 : I i0 a0) (hi : i0 ≤ N)
    (hend : ∀ a, I N a → W C body (Rnd (fun _ => False) Q) (S N a))
    (hstep : ∀ i a, i < N → I i a → W C body (Rnd (Again K fun s' => ∃ a', s' = S (i + 1) a' ∧ I (i + 1) a') Q) (S i a)) : W C (.loop K body) Q st := by
  refine W_loop (fun k s => ∃ i a, i + k = N ∧ s = S i a ∧ I i a) (N - i0) ⟨i0, a0, by omega, hst, h0⟩ ?_
  rintro k s ⟨i, a, hk, rfl, hI⟩
  by_cases hlt : i < N
  · refine (hstep i a hlt hI).mono fun ex s h => ?_
    cases ex with
    | normal =>
      obtain ⟨a', h1, h2⟩ := h
      exact ⟨k - 1, by omega, i + 1, a', by omega, h1, h2⟩
    | exit id => exact h
    | ret => exact h
  · have : i = N := by omega
    subst this
    refine (hend a hI).mono fun ex s h => ?_
    cases ex with
    | normal => exact h.elim
    | exit id => exact h
    | ret => exact h
/-- A loop that goes on while it makes progress: S a is the state at its head, m a measures what is left. -/
theorem W_while {α : Type} {K : List Nat} {body : VCode} (S : α → St) (I : α → Prop) (m : α → Nat) (a0 : α) (hst : norm K st = S a0) (h0 : I a0)
    (hstep : ∀ a, I a → W C body (Rnd (Again K fun s' => ∃ a', s' = S a' ∧ I a' ∧ m a' < m a) Q) (S a)) : W C (.loop K body) Q st := by
  refine W_loop (fun k s => ∃ a, m a = k ∧ s = S a ∧ I a) (m a0) ⟨a0, rfl, hst, h0⟩ ?_
  rintro k s ⟨a, rfl, rfl, hI⟩
  refine (hstep a hI).mono fun ex s h => ?_
  cases ex with
  | normal =>
    obtain ⟨a', h1, h2, h3⟩ := h
    exact ⟨m a', h3, a', rfl, h1, h2⟩
  | exit id => exact h
  | ret => exact h
end

/-! ### Encoded values -/
abbrev I (n : Int) : PV := .int .i64 n
def Ns (l : List Int) : List PV := l.map fun n => .int .i64 n
def U8s (l : List Nat) : List PV := l.map fun (n : Nat) => .int .u8 (n : Int)
def Bs (l : List Bool) : List PV := l.map .bool
abbrev Rw := Bool × List Int
def Rs (l : List Rw) : List PV := l.map fun r => .sl r.1 (Ns r.2)
/-- The i-th. -/
def nI (l : List Int) (i : Nat) : Int := l.getD i 0
def nN (l : List Nat) (i : Nat) : Nat := l.getD i 0
def nB (l : List Bool) (i : Nat) : Bool := l.getD i false
def nR (l : List Rw) (i : Nat) : Rw := l.getD i (false, [])
theorem nI_eq {l : List Int} {i : Nat} (h : i < l.length) : nI l i = l[i] := by simp [nI, h]
theorem nN_eq {l : List Nat} {i : Nat} (h : i < l.length) : nN l i = l[i] := by simp [nN, h]
theorem nB_eq {l : List Bool} {i : Nat} (h : i < l.length) : nB l i = l[i] := by simp [nB, h]
theorem nR_eq {l : List Rw} {i : Nat} (h : i < l.length) : nR l i = l[i] := by simp [nR, h]
theorem nI_mem {l : List Int} {i : Nat} (h : i < l.length) : nI l i ∈ l := by rw [nI_eq h]; exact List.getElem_mem _
theorem nN_mem {l : List Nat} {i : Nat} (h : i < l.length) : nN l i ∈ l := by rw [nN_eq h]; exact List.getElem_mem _
theorem mem_nI {l : List Int} {x : Int} (h : x ∈ l) : ∃ i, i < l.length ∧ nI l i = x := by
  obtain ⟨i, hi, e⟩ := List.getElem_of_mem h
  exact ⟨i, hi, by rw [nI_eq hi, e]⟩
theorem mem_nN {l : List Nat} {x : Nat} (h : x ∈ l) : ∃ i, i < l.length ∧ nN l i = x := by
  obtain ⟨i, hi, e⟩ := List.getElem_of_mem h
  exact ⟨i, hi, by rw [nN_eq hi, e]⟩
theorem nI_set {l : List Int} {i j : Nat} {x : Int} (h : i < l.length) : nI (l.set i x) j = if i = j then x else nI l j := by
  simp only [nI, List.getD_eq_getElem?_getD, List.getElem?_set, h, if_true]; split <;> simp
theorem nB_set {l : List Bool} {i j : Nat} {x : Bool} (h : i < l.length) : nB (l.set i x) j = if i = j then x else nB l j := by
  simp only [nB, List.getD_eq_getElem?_getD, List.getElem?_set, h, if_true]; split <;> simp
theorem nI_app {l m : List Int} {j : Nat} : nI (l ++ m) j = if j < l.length then nI l j else nI m (j - l.length) := by
  simp only [nI, List.getD_eq_getElem?_getD, List.getElem?_append]; split <;> rfl
theorem nB_app {l m : List Bool} {j : Nat} : nB (l ++ m) j = if j < l.length then nB l j else nB m (j - l.length) := by
  simp only [nB, List.getD_eq_getElem?_getD, List.getElem?_append]; split <;> rfl
theorem nR_app {l m : List Rw} {j : Nat} : nR (l ++ m) j = if j < l.length then nR l j else nR m (j - l.length) := by
  simp only [nR, List.getD_eq_getElem?_getD, List.getElem?_append]; split <;> rfl
theorem nI_ext {l m : List Int} (h : l.length = m.length) (he : ∀ i, i < l.length → nI l i = nI m i) : l = m :=
  List.ext_getElem h fun i h1 h2 => by have := he i h1; rwa [nI_eq h1, nI_eq h2] at this
theorem nB_ext {l m : List Bool} (h : l.length = m.length) (he : ∀ i, i < l.length → nB l i = nB m i) : l = m :=
  List.ext_getElem h fun i h1 h2 => by have := he i h1; rwa [nB_eq h1, nB_eq h2] at this
theorem take_nI {l : List Int} {i : Nat} (h : i < l.length) : l.take (i + 1) = l.take i ++ [nI l i] := by rw [nI_eq h, List.take_succ_eq_append_getElem h]
theorem take_nN {l : List Nat} {i : Nat} (h : i < l.length) : l.take (i + 1) = l.take i ++ [nN l i] := by rw [nN_eq h, List.take_succ_eq_append_getElem h]
theorem take_nR {l : List Rw} {i : Nat} (h : i < l.length) : l.take (i + 1) = l.take i ++ [nR l i] := by rw [nR_eq h, List.take_succ_eq_append_getElem h]
theorem nI_one {x : Int} : nI [x] 0 = x := rfl
theorem nI_rep {n i : Nat} {x : Int} (h : i < n) : nI (List.replicate n x) i = x := by simp [nI, h]
theorem nB_rep {n i : Nat} {x : Bool} (h : i < n) : nB (List.replicate n x) i = x := by simp [nB, h]
def Us (l : List Nat) : List PV := l.map fun (n : Nat) => .int .i64 (n : Int)
theorem Us_length (l : List Nat) : (Us l).length = l.length := by simp [Us]
theorem Us_get {l : List Nat} {i : Nat} (h : i < l.length) : (Us l)[i]? = some (.int .i64 (nN l i : Nat)) := by simp [Us, nN, h]
theorem Us_append {l : List Nat} {n : Nat} : Us l ++ [PV.int .i64 (n : Int)] = Us (l ++ [n]) := by simp [Us]
theorem Ns_append1 {l : List Int} {n : Int} : Ns l ++ [PV.int .i64 n] = Ns (l ++ [n]) := by simp [Ns]
theorem Rs_append1 {l : List Rw} {b : Bool} {r : List Int} : Rs l ++ [PV.sl b (Ns r)] = Rs (l ++ [(b, r)]) := by simp [Rs]
theorem Bs_append1 {l : List Bool} {b : Bool} : Bs l ++ [PV.bool b] = Bs (l ++ [b]) := by simp [Bs]
theorem nN_app {l m : List Nat} {j : Nat} : nN (l ++ m) j = if j < l.length then nN l j else nN m (j - l.length) := by
  simp only [nN, List.getD_eq_getElem?_getD, List.getElem?_append]; split <;> rfl
theorem nN_one {x : Nat} : nN [x] 0 = x := rfl
theorem nR_one {x : Rw} : nR [x] 0 = x := rfl
theorem nN_get? {l : List Nat} {i x : Nat} (h : l[i]? = some x) : nN l i = x := by simp [nN, h]
theorem nN_some {l : List Nat} {i : Nat} (h : i < l.length) : l[i]? = some (nN l i) := by simp [nN, h]
/-- Numbers as whole numbers. -/
def Zi (l : List Nat) : List Int := l.map fun (n : Nat) => (n : Int)
theorem Zi_length (l : List Nat) : (Zi l).length = l.length := by simp [Zi]
theorem nI_Zi (l : List Nat) (i : Nat) : nI (Zi l) i = (nN l i : Int) := by
  simp only [nI, nN, Zi, List.getD_eq_getElem?_getD, List.getElem?_map]
  cases l[i]? <;> rfl
theorem Zi_set (l : List Nat) (i x : Nat) : Zi (l.set i x) = (Zi l).set i (x : Int) := by simp [Zi, List.map_set]
theorem nN_set {l : List Nat} {i j : Nat} {x : Nat} (h : i < l.length) : nN (l.set i x) j = if i = j then x else nN l j := by
  simp only [nN, List.getD_eq_getElem?_getD, List.getElem?_set, h, if_true]; split <;> simp
theorem Ns_length (l : List Int) : (Ns l).length = l.length := by simp [Ns]
theorem U8s_length (l : List Nat) : (U8s l).length = l.length := by simp [U8s]
theorem Bs_length (l : List Bool) : (Bs l).length = l.length := by simp [Bs]
theorem Rs_length (l : List Rw) : (Rs l).length = l.length := by simp [Rs]
theorem Ns_get {l : List Int} {i : Nat} (h : i < l.length) : (Ns l)[i]? = some (.int .i64 (nI l i)) := by simp [Ns, nI, h]
theorem U8s_get {l : List Nat} {i : Nat} (h : i < l.length) : (U8s l)[i]? = some (.int .u8 (nN l i : Nat)) := by simp [U8s, nN, h]
theorem Bs_get {l : List Bool} {i : Nat} (h : i < l.length) : (Bs l)[i]? = some (.bool (nB l i)) := by simp [Bs, nB, h]
theorem Rs_get {l : List Rw} {i : Nat} (h : i < l.length) : (Rs l)[i]? = some (.sl (nR l i).1 (Ns (nR l i).2)) := by simp [Rs, nR, h]
theorem Ns_set {l : List Int} {i : Nat} {n : Int} : (Ns l).set i (.int .i64 n) = Ns (l.set i n) := by simp [Ns, List.map_set]
theorem Bs_set {l : List Bool} {i : Nat} {n : Bool} : (Bs l).set i (.bool n) = Bs (l.set i n) := by simp [Bs, List.map_set]
theorem U8s_set {l : List Nat} {i : Nat} {n : Nat} : (U8s l).set i (.int .u8 (n : Int)) = U8s (l.set i n) := by simp [U8s, List.map_set]
theorem Ns_append {l m : List Int} : Ns l ++ Ns m = Ns (l ++ m) := by simp [Ns]
theorem Bs_append {l m : List Bool} : Bs l ++ Bs m = Bs (l ++ m) := by simp [Bs]
theorem Rs_append {l m : List Rw} : Rs l ++ Rs m = Rs (l ++ m) := by simp [Rs]
theorem Ns_one {n : Int} : [PV.int .i64 n] = Ns [n] := rfl
theorem Bs_one {n : Bool} : [PV.bool n] = Bs [n] := rfl
theorem Rs_one {b : Bool} {l : List Int} : [PV.sl b (Ns l)] = Rs [(b, l)] := rfl
theorem Ns_nil : Ns [] = [] := rfl
theorem Ns_isEmpty {l : List Int} : (Ns l).isEmpty = l.isEmpty := by cases l <;> rfl
theorem Ns_replicate {n : Nat} : List.replicate n (PV.int .i64 0) = Ns (List.replicate n 0) := by simp [Ns]
theorem Bs_replicate {n : Nat} : List.replicate n (PV.bool false) = Bs (List.replicate n false) := by simp [Bs]

/-- A map from texts to the places where they stand. -/
def encM (n : Nat) : List (List UInt8) → List (PV × PV)
  | [] => []
  | k :: r => (.str k, .int .i64 n) :: encM (n + 1) r
theorem encM_length : ∀ (ks : List (List UInt8)) (n : Nat), (encM n ks).length = ks.length
  | [], _ => rfl
  | k :: ks, n => by simp [encM, encM_length ks]
theorem encM_find : ∀ {ks : List (List UInt8)} {n v : Nat} {k : List UInt8}, ks.Nodup → ks[v]? = some k → findKey (.str k) (encM n ks) = some (some (.int .i64 ((n + v : Nat) : Int)))
  | [], _, _, _, _, h => by simp at h
  | a :: ks, n, v, k, hn, h => by
    rw [List.nodup_cons] at hn
    cases v with
    | zero =>
      simp only [List.getElem?_cons_zero, Option.some.injEq] at h
      subst h
      simp [encM, findKey, pvEq]
    | succ v =>
      simp only [List.getElem?_cons_succ] at h
      have hne : ¬ k = a := fun e => hn.1 (e ▸ List.mem_of_getElem? h)
      simp only [encM, findKey, pvEq, hne, decide_false]
      rw [encM_find hn.2 h]
      congr 4
      omega
theorem encM_none : ∀ {ks : List (List UInt8)} {n : Nat} {k : List UInt8}, k ∉ ks → findKey (.str k) (encM n ks) = some none
  | [], _, _, _ => rfl
  | a :: ks, n, k, h => by
    simp only [List.mem_cons, not_or] at h
    simp only [encM, findKey, pvEq, h.1, decide_false]
    exact encM_none h.2
theorem encM_put : ∀ {ks : List (List UInt8)} {n : Nat} {k : List UInt8}, k ∉ ks → putKey (.str k) (.int .i64 ((n + ks.length : Nat) : Int)) (encM n ks) = some (encM n (ks ++ [k]))
  | [], _, _, _ => rfl
  | a :: ks, n, k, h => by
    simp only [List.mem_cons, not_or] at h
    simp only [encM, putKey, pvEq, h.1, decide_false, List.cons_append, List.length_cons]
    have := encM_put (n := n + 1) h.2
    rw [show n + 1 + ks.length = n + (ks.length + 1) by omega] at this
    rw [this]
theorem encM_put0 {ks : List (List UInt8)} {k : List UInt8} (h : k ∉ ks) : putKey (.str k) (.int .i64 (ks.length : Int)) (encM 0 ks) = some (encM 0 (ks ++ [k])) := by
  have := encM_put (n := 0) h
  simpa using this
theorem encM_find0 {ks : List (List UInt8)} {v : Nat} {k : List UInt8} (hn : ks.Nodup) (h : ks[v]? = some k) : findKey (.str k) (encM 0 ks) = some (some (.int .i64 (v : Int))) := by
  have := encM_find (n := 0) hn h
  simpa using this

/-- DFA. -/
def Dfa (cls : List Nat) (b1 : Bool) (nx : List Rw) (b2 : Bool) (mk : List Int) : PV := .agg [.arr (U8s cls), .sl b1 (Rs nx), .sl b2 (Ns mk)]

/-! ### Small facts that the walks use -/
theorem natCast_nonneg (n : Nat) : (0 ≤ (n : Int)) = True := by simp
theorem toNat_cast (n : Nat) : ((n : Int)).toNat = n := rfl
theorem cast_lt (m n : Nat) : ((m : Int) < (n : Int)) = (m < n) := by simp
theorem cast_le (m n : Nat) : ((m : Int) ≤ (n : Int)) = (m ≤ n) := by simp
section
variable {rg : List (RId × RegC)} {bs : List Nat} {pl : RId} {a : Nm}
theorem nmV_sl (n : Bool) (xs : List PV) : nmV rg bs pl a (.sl n xs) = (.sl n xs, a) := by simp [nmV]
theorem nmV_int (k : IntKind) (n : Int) : nmV rg bs pl a (.int k n) = (.int k n, a) := by simp [nmV]
theorem nmV_bool (b : Bool) : nmV rg bs pl a (.bool b) = (.bool b, a) := by simp [nmV]
theorem nmV_str (s : List UInt8) : nmV rg bs pl a (.str s) = (.str s, a) := by simp [nmV]
theorem nmV_arr (xs : List PV) : nmV rg bs pl a (.arr xs) = (.arr xs, a) := by simp [nmV]
theorem nmV_nilp : nmV rg bs pl a .nilp = (.nilp, a) := by simp [nmV]
theorem nmV_map (es : List (PV × PV)) : nmV rg bs pl a (.map es) = (.map es, a) := by simp [nmV]
theorem nmV_undef : nmV rg bs pl a .undef = (.undef, a) := by simp [nmV]
theorem nmV_dead : nmV rg bs pl a .dead = (.dead, a) := by simp [nmV]
theorem nmV_rptr (x : PV) : nmV rg bs pl a (.rptr x) = (.rptr x, a) := by simp [nmV]
end
theorem decide_true_eq : decide True = true := rfl
theorem decide_false_eq : decide False = false := rfl
section
variable {α : Type}
theorem nil_app (l : List α) : [] ++ l = l := rfl
theorem app_nil (l : List α) : l ++ [] = l := List.append_nil l
theorem cons_app (a : α) (l m : List α) : (a :: l) ++ m = a :: (l ++ m) := rfl
theorem get0 (a : α) (l : List α) : (a :: l)[0]? = some a := rfl
theorem getS (a : α) (l : List α) (n : Nat) : (a :: l)[n + 1]? = l[n]? := rfl
theorem len_nil : ([] : List α).length = 0 := rfl
theorem len_cons (a : α) (l : List α) : (a :: l).length = l.length + 1 := rfl
theorem set0 (a b : α) (l : List α) : (a :: l).set 0 b = b :: l := rfl
theorem setS (a b : α) (l : List α) (n : Nat) : (a :: l).set (n + 1) b = a :: l.set n b := rfl
theorem isEmpty_nil : ([] : List α).isEmpty = true := rfl
theorem isEmpty_cons (a : α) (l : List α) : (a :: l).isEmpty = false := rfl
end
theorem zip2_nil : zip2 [] [] = [] := rfl
theorem packR_two (a b : PV) (r : List PV) : packR (a :: b :: r) = .agg (a :: b :: r) := rfl
theorem bounds_nn (n cap : Nat) : bounds n cap none none = (if 0 ≤ (n : Int) ∧ (n : Int) ≤ cap then (if 0 ≤ (0 : Int) ∧ (0 : Int) ≤ (n : Int) then some ((0 : Int).toNat, ((n : Int)).toNat) else none) else none) := rfl
theorem bounds_ns (n cap : Nat) (k : IntKind) (h : Int) : bounds n cap none (some (.int k h)) = (if 0 ≤ h ∧ h ≤ cap then (if 0 ≤ (0 : Int) ∧ 0 ≤ h then some ((0 : Int).toNat, h.toNat) else none) else none) := rfl
theorem bounds_sn (n cap : Nat) (k : IntKind) (l : Int) : bounds n cap (some (.int k l)) none = (if 0 ≤ (n : Int) ∧ (n : Int) ≤ cap then (if 0 ≤ l ∧ l ≤ (n : Int) then some (l.toNat, ((n : Int)).toNat) else none) else none) := rfl
theorem bounds_ss (n cap : Nat) (k j : IntKind) (l h : Int) : bounds n cap (some (.int j l)) (some (.int k h)) = (if 0 ≤ h ∧ h ≤ cap then (if 0 ≤ l ∧ l ≤ h then some (l.toNat, h.toNat) else none) else none) := rfl
theorem true_and_ (p : Prop) : (True ∧ p) = p := by simp
theorem and_true_ (p : Prop) : (p ∧ True) = p := by simp
theorem contains_nil {α : Type} [BEq α] (a : α) : [].contains a = false := rfl
theorem contains_cons {α : Type} [BEq α] (a b : α) (l : List α) : (b :: l).contains a = (a == b || l.contains a) := List.contains_cons ..
theorem cons_beq (a b : Nat) (l m : List Nat) : ((a :: l) == (b :: m)) = (a == b && l == m) := rfl
theorem nil_beq : (([] : List Nat) == []) = true := rfl
theorem nil_beq_cons (a : Nat) (l : List Nat) : (([] : List Nat) == (a :: l)) = false := rfl
theorem cons_beq_nil (a : Nat) (l : List Nat) : ((a :: l) == ([] : List Nat)) = false := rfl
theorem and_ff2 (b : Bool) : (b && false) = false := by cases b <;> rfl
theorem beq_self (a : Nat) : (a == a) = true := by simp
theorem or_true_ (b : Bool) : (b || true) = true := by simp
theorem true_or_ (b : Bool) : (true || b) = true := rfl
theorem or_false_ (b : Bool) : (b || false) = b := by simp
theorem false_or_ (b : Bool) : (false || b) = b := rfl
theorem bnot_true : (!true) = false := rfl
theorem bnot_false : (!false) = true := rfl
theorem ff_eq : (false = true) = False := by simp
theorem int_irrefl (n : Int) : (n < n) = False := by simp
theorem min_zero (n : Nat) : n - 0 = n := rfl
theorem and_ff (b : Bool) : (false && b) = false := rfl
theorem and_tt (b : Bool) : (true && b) = b := rfl
theorem mt_and (b : Bool) : (b && true) = b := by simp

theorem live_bool (b : Bool) : PV.live (.bool b) = true := rfl
theorem live_int (k : IntKind) (n : Int) : PV.live (.int k n) = true := rfl
theorem live_str (s : List UInt8) : PV.live (.str s) = true := rfl
theorem live_agg (fs : List PV) : PV.live (.agg fs) = true := rfl
theorem live_arr (fs : List PV) : PV.live (.arr fs) = true := rfl
theorem live_nil  : PV.live (.nil) = true := rfl
theorem live_sl (b : Bool) (fs : List PV) : PV.live (.sl b fs) = true := rfl
theorem live_ref (r : RId) : PV.live (.ref r) = true := rfl
theorem live_sub (r : RId) (lo hi : Nat) : PV.live (.sub r lo hi) = true := rfl
theorem live_ptr (b : Nat) (p : List Nat) : PV.live (.ptr b p) = true := rfl
theorem live_eptr (r : RId) (i : Nat) (p : List Nat) : PV.live (.eptr r i p) = true := rfl
theorem live_rptr (v : PV) : PV.live (.rptr v) = true := rfl
theorem live_nilp  : PV.live (.nilp) = true := rfl
theorem live_map (es : List (PV × PV)) : PV.live (.map es) = true := rfl
theorem live_mref (r : RId) : PV.live (.mref r) = true := rfl
theorem live_fn (f : Nat) : PV.live (.fn f) = true := rfl
theorem argRs_bool (st : St) (xs : List PV) (b : Bool) : St.argRs st ((.bool b) :: xs) = (match st.imm (.bool b) with | some (_, l) => (match St.argRs st xs with | some m => some (l ++ m) | none => none) | none => none) := rfl
theorem outArgs_bool (st : St) (xs : List PV) (b : Bool) : St.outArgs st ((.bool b) :: xs) = (match st.imm (.bool b) with | some (y, _) => (match St.outArgs st xs with | some (ys, m, bs) => some (y :: ys, m, bs) | none => none) | none => none) := rfl
theorem argRs_int (st : St) (xs : List PV) (k : IntKind) (n : Int) : St.argRs st ((.int k n) :: xs) = (match st.imm (.int k n) with | some (_, l) => (match St.argRs st xs with | some m => some (l ++ m) | none => none) | none => none) := rfl
theorem outArgs_int (st : St) (xs : List PV) (k : IntKind) (n : Int) : St.outArgs st ((.int k n) :: xs) = (match st.imm (.int k n) with | some (y, _) => (match St.outArgs st xs with | some (ys, m, bs) => some (y :: ys, m, bs) | none => none) | none => none) := rfl
theorem argRs_str (st : St) (xs : List PV) (s : List UInt8) : St.argRs st ((.str s) :: xs) = (match st.imm (.str s) with | some (_, l) => (match St.argRs st xs with | some m => some (l ++ m) | none => none) | none => none) := rfl
theorem outArgs_str (st : St) (xs : List PV) (s : List UInt8) : St.outArgs st ((.str s) :: xs) = (match st.imm (.str s) with | some (y, _) => (match St.outArgs st xs with | some (ys, m, bs) => some (y :: ys, m, bs) | none => none) | none => none) := rfl
theorem argRs_agg (st : St) (xs : List PV) (fs : List PV) : St.argRs st ((.agg fs) :: xs) = (match st.imm (.agg fs) with | some (_, l) => (match St.argRs st xs with | some m => some (l ++ m) | none => none) | none => none) := rfl
theorem outArgs_agg (st : St) (xs : List PV) (fs : List PV) : St.outArgs st ((.agg fs) :: xs) = (match st.imm (.agg fs) with | some (y, _) => (match St.outArgs st xs with | some (ys, m, bs) => some (y :: ys, m, bs) | none => none) | none => none) := rfl
theorem argRs_arr (st : St) (xs : List PV) (fs : List PV) : St.argRs st ((.arr fs) :: xs) = (match st.imm (.arr fs) with | some (_, l) => (match St.argRs st xs with | some m => some (l ++ m) | none => none) | none => none) := rfl
theorem outArgs_arr (st : St) (xs : List PV) (fs : List PV) : St.outArgs st ((.arr fs) :: xs) = (match st.imm (.arr fs) with | some (y, _) => (match St.outArgs st xs with | some (ys, m, bs) => some (y :: ys, m, bs) | none => none) | none => none) := rfl
theorem argRs_nil (st : St) (xs : List PV)  : St.argRs st ((.nil) :: xs) = (match st.imm (.nil) with | some (_, l) => (match St.argRs st xs with | some m => some (l ++ m) | none => none) | none => none) := rfl
theorem outArgs_nil (st : St) (xs : List PV)  : St.outArgs st ((.nil) :: xs) = (match st.imm (.nil) with | some (y, _) => (match St.outArgs st xs with | some (ys, m, bs) => some (y :: ys, m, bs) | none => none) | none => none) := rfl
theorem argRs_sl (st : St) (xs : List PV) (b : Bool) (fs : List PV) : St.argRs st ((.sl b fs) :: xs) = (match st.imm (.sl b fs) with | some (_, l) => (match St.argRs st xs with | some m => some (l ++ m) | none => none) | none => none) := rfl
theorem outArgs_sl (st : St) (xs : List PV) (b : Bool) (fs : List PV) : St.outArgs st ((.sl b fs) :: xs) = (match st.imm (.sl b fs) with | some (y, _) => (match St.outArgs st xs with | some (ys, m, bs) => some (y :: ys, m, bs) | none => none) | none => none) := rfl
theorem argRs_ref (st : St) (xs : List PV) (r : RId) : St.argRs st ((.ref r) :: xs) = (match st.imm (.ref r) with | some (_, l) => (match St.argRs st xs with | some m => some (l ++ m) | none => none) | none => none) := rfl
theorem outArgs_ref (st : St) (xs : List PV) (r : RId) : St.outArgs st ((.ref r) :: xs) = (match st.imm (.ref r) with | some (y, _) => (match St.outArgs st xs with | some (ys, m, bs) => some (y :: ys, m, bs) | none => none) | none => none) := rfl
theorem argRs_sub (st : St) (xs : List PV) (r : RId) (lo hi : Nat) : St.argRs st ((.sub r lo hi) :: xs) = (match st.imm (.sub r lo hi) with | some (_, l) => (match St.argRs st xs with | some m => some (l ++ m) | none => none) | none => none) := rfl
theorem outArgs_sub (st : St) (xs : List PV) (r : RId) (lo hi : Nat) : St.outArgs st ((.sub r lo hi) :: xs) = (match st.imm (.sub r lo hi) with | some (y, _) => (match St.outArgs st xs with | some (ys, m, bs) => some (y :: ys, m, bs) | none => none) | none => none) := rfl
theorem argRs_nilp (st : St) (xs : List PV)  : St.argRs st ((.nilp) :: xs) = (match st.imm (.nilp) with | some (_, l) => (match St.argRs st xs with | some m => some (l ++ m) | none => none) | none => none) := rfl
theorem outArgs_nilp (st : St) (xs : List PV)  : St.outArgs st ((.nilp) :: xs) = (match st.imm (.nilp) with | some (y, _) => (match St.outArgs st xs with | some (ys, m, bs) => some (y :: ys, m, bs) | none => none) | none => none) := rfl
theorem argRs_map (st : St) (xs : List PV) (es : List (PV × PV)) : St.argRs st ((.map es) :: xs) = (match st.imm (.map es) with | some (_, l) => (match St.argRs st xs with | some m => some (l ++ m) | none => none) | none => none) := rfl
theorem outArgs_map (st : St) (xs : List PV) (es : List (PV × PV)) : St.outArgs st ((.map es) :: xs) = (match st.imm (.map es) with | some (y, _) => (match St.outArgs st xs with | some (ys, m, bs) => some (y :: ys, m, bs) | none => none) | none => none) := rfl
theorem argRs_mref (st : St) (xs : List PV) (r : RId) : St.argRs st ((.mref r) :: xs) = (match st.imm (.mref r) with | some (_, l) => (match St.argRs st xs with | some m => some (l ++ m) | none => none) | none => none) := rfl
theorem outArgs_mref (st : St) (xs : List PV) (r : RId) : St.outArgs st ((.mref r) :: xs) = (match st.imm (.mref r) with | some (y, _) => (match St.outArgs st xs with | some (ys, m, bs) => some (y :: ys, m, bs) | none => none) | none => none) := rfl
theorem argRs_fn (st : St) (xs : List PV) (f : Nat) : St.argRs st ((.fn f) :: xs) = (match st.imm (.fn f) with | some (_, l) => (match St.argRs st xs with | some m => some (l ++ m) | none => none) | none => none) := rfl
theorem outArgs_fn (st : St) (xs : List PV) (f : Nat) : St.outArgs st ((.fn f) :: xs) = (match st.imm (.fn f) with | some (y, _) => (match St.outArgs st xs with | some (ys, m, bs) => some (y :: ys, m, bs) | none => none) | none => none) := rfl
theorem news_nil (st : St)  : St.news st (.nil) = (match st.content (.nil) with | some (_, ys) => some ys | none => none) := rfl
theorem news_sl (st : St) (b : Bool) (fs : List PV) : St.news st (.sl b fs) = (match st.content (.sl b fs) with | some (_, ys) => some ys | none => none) := rfl
theorem news_ref (st : St) (r : RId) : St.news st (.ref r) = (match st.content (.ref r) with | some (_, ys) => some ys | none => none) := rfl
theorem news_sub (st : St) (r : RId) (lo hi : Nat) : St.news st (.sub r lo hi) = (match st.content (.sub r lo hi) with | some (_, ys) => some ys | none => none) := rfl
theorem imp_bool (q : RId) (b : Bool) : imp q (.bool b) = (.bool b, []) := rfl
theorem imp_int (q : RId) (k : IntKind) (n : Int) : imp q (.int k n) = (.int k n, []) := rfl
theorem imp_str (q : RId) (s : List UInt8) : imp q (.str s) = (.str s, []) := rfl
theorem imp_arr (q : RId) (fs : List PV) : imp q (.arr fs) = (.arr fs, []) := rfl
theorem imp_nil (q : RId)  : imp q (.nil) = (.nil, []) := rfl
theorem imp_sl (q : RId) (b : Bool) (fs : List PV) : imp q (.sl b fs) = (.sl b fs, []) := rfl
theorem imp_nilp (q : RId)  : imp q (.nilp) = (.nilp, []) := rfl
theorem imp_map (q : RId) (es : List (PV × PV)) : imp q (.map es) = (.map es, []) := rfl
theorem imp_fn (q : RId) (f : Nat) : imp q (.fn f) = (.fn f, []) := rfl
theorem noSl_bool (b : Bool) : PV.noSl (.bool b) = true := rfl
theorem noSl_int (k : IntKind) (n : Int) : PV.noSl (.int k n) = true := rfl
theorem noSl_str (s : List UInt8) : PV.noSl (.str s) = true := rfl
theorem noSl_own (b : Bool) (fs : List PV) : PV.noSl (.own b fs) = true := rfl
theorem noSl_omap (es : List (PV × PV)) : PV.noSl (.omap es) = true := rfl
theorem noSl_nilp  : PV.noSl (.nilp) = true := rfl
theorem noSl_arr (fs : List PV) : PV.noSl (.arr fs) = true := rfl
theorem binOpS_bool (st : St) (op : BinOp) (b : Bool) (y : PV) : binOpS st op (.bool b) y = binOp op (.bool b) y := rfl
theorem binOpS_int (st : St) (op : BinOp) (k : IntKind) (n : Int) (y : PV) : binOpS st op (.int k n) y = binOp op (.int k n) y := rfl
theorem binOpS_str (st : St) (op : BinOp) (s : List UInt8) (y : PV) : binOpS st op (.str s) y = binOp op (.str s) y := rfl
theorem binOpS_agg (st : St) (op : BinOp) (fs : List PV) (y : PV) : binOpS st op (.agg fs) y = binOp op (.agg fs) y := rfl
theorem binOpS_arr (st : St) (op : BinOp) (fs : List PV) (y : PV) : binOpS st op (.arr fs) y = binOp op (.arr fs) y := rfl
theorem binOpS_nil (st : St) (op : BinOp)  (y : PV) : binOpS st op (.nil) y = binOp op (.nil) y := rfl
theorem binOpS_sl (st : St) (op : BinOp) (b : Bool) (fs : List PV) (y : PV) : binOpS st op (.sl b fs) y = binOp op (.sl b fs) y := rfl
theorem binOp_add (k j : IntKind) (a b : Int) : binOp .add (.int k a) (.int j b) = (if k = j then binInt .add k a b else none) := rfl
theorem binOp_sub (k j : IntKind) (a b : Int) : binOp .sub (.int k a) (.int j b) = (if k = j then binInt .sub k a b else none) := rfl
theorem binOp_mul (k j : IntKind) (a b : Int) : binOp .mul (.int k a) (.int j b) = (if k = j then binInt .mul k a b else none) := rfl
theorem binOp_quo (k j : IntKind) (a b : Int) : binOp .quo (.int k a) (.int j b) = (if k = j then binInt .quo k a b else none) := rfl
theorem binOp_rem (k j : IntKind) (a b : Int) : binOp .rem (.int k a) (.int j b) = (if k = j then binInt .rem k a b else none) := rfl
theorem binOp_and (k j : IntKind) (a b : Int) : binOp .and (.int k a) (.int j b) = (if k = j then binInt .and k a b else none) := rfl
theorem binOp_or (k j : IntKind) (a b : Int) : binOp .or (.int k a) (.int j b) = (if k = j then binInt .or k a b else none) := rfl
theorem binOp_xor (k j : IntKind) (a b : Int) : binOp .xor (.int k a) (.int j b) = (if k = j then binInt .xor k a b else none) := rfl
theorem binOp_andNot (k j : IntKind) (a b : Int) : binOp .andNot (.int k a) (.int j b) = (if k = j then binInt .andNot k a b else none) := rfl
theorem binOp_eql (k j : IntKind) (a b : Int) : binOp .eql (.int k a) (.int j b) = (if k = j then binInt .eql k a b else none) := rfl
theorem binOp_neq (k j : IntKind) (a b : Int) : binOp .neq (.int k a) (.int j b) = (if k = j then binInt .neq k a b else none) := rfl
theorem binOp_lss (k j : IntKind) (a b : Int) : binOp .lss (.int k a) (.int j b) = (if k = j then binInt .lss k a b else none) := rfl
theorem binOp_leq (k j : IntKind) (a b : Int) : binOp .leq (.int k a) (.int j b) = (if k = j then binInt .leq k a b else none) := rfl
theorem binOp_gtr (k j : IntKind) (a b : Int) : binOp .gtr (.int k a) (.int j b) = (if k = j then binInt .gtr k a b else none) := rfl
theorem binOp_geq (k j : IntKind) (a b : Int) : binOp .geq (.int k a) (.int j b) = (if k = j then binInt .geq k a b else none) := rfl
theorem binOp_str_add (a b : List UInt8) : binOp .add (.str a) (.str b) = binStr .add a b := rfl
theorem binOp_str_eql (a b : List UInt8) : binOp .eql (.str a) (.str b) = binStr .eql a b := rfl
theorem binOp_str_neq (a b : List UInt8) : binOp .neq (.str a) (.str b) = binStr .neq a b := rfl
theorem binOp_str_lss (a b : List UInt8) : binOp .lss (.str a) (.str b) = binStr .lss a b := rfl
theorem binOp_sl_eql (n : Bool) (xs : List PV) : binOp .eql (.sl n xs) .nil = some (.bool n) := rfl
theorem binOp_sl_neq (n : Bool) (xs : List PV) : binOp .neq (.sl n xs) .nil = some (.bool (!n)) := rfl
theorem binOp_b_eql (a b : Bool) : binOp .eql (.bool a) (.bool b) = some (.bool (decide (a = b))) := rfl
theorem binOp_b_neq (a b : Bool) : binOp .neq (.bool a) (.bool b) = some (.bool (!decide (a = b))) := rfl
theorem binOp_arr_eql (a b : List PV) : binOp .eql (.arr a) (.arr b) = (match pvEqs a b with | some t => some (.bool t) | none => none) := rfl
theorem binOp_agg_eql (a b : List PV) : binOp .eql (.agg a) (.agg b) = (if PV.plains a && PV.plains b then (match pvEqs a b with | some t => some (.bool t) | none => none) else none) := rfl
theorem binOp_arr_neq (a b : List PV) : binOp .neq (.arr a) (.arr b) = (match pvEqs a b with | some t => some (.bool (!t)) | none => none) := rfl
theorem binOp_agg_neq (a b : List PV) : binOp .neq (.agg a) (.agg b) = (if PV.plains a && PV.plains b then (match pvEqs a b with | some t => some (.bool (!t)) | none => none) else none) := rfl
theorem binOp_shl (k j : IntKind) (a b : Int) : binOp .shl (.int k a) (.int j b) = shiftInt .shl k a b := rfl
theorem binOp_shr (k j : IntKind) (a b : Int) : binOp .shr (.int k a) (.int j b) = shiftInt .shr k a b := rfl
theorem shift_shl (k : IntKind) (a b : Int) : shiftInt .shl k a b = (if b < 0 then none else some (.int k (k.wrap (a * 2 ^ (min b.toNat k.bits))))) := rfl
theorem shift_shr (k : IntKind) (a b : Int) : shiftInt .shr k a b = (if b < 0 then none else some (.int k (a.fdiv (2 ^ (min b.toNat k.bits))))) := rfl
theorem mild_slice (e : TD) : TD.mild (.slice e) = (e.flat) := rfl
theorem mild_map (k e : TD) : TD.mild (.map k e) = (k.flat && e.flat) := rfl
theorem mild_struct (fs : List TD) : TD.mild (.struct fs) = (TD.milds fs) := rfl
theorem mild_tup (fs : List TD) : TD.mild (.tup fs) = (TD.milds fs) := rfl
theorem mild_arr (n : Nat) (e : TD) : TD.mild (.arr n e) = (e.flat) := rfl
theorem mild_bool  : TD.mild (.bool) = (true) := rfl
theorem mild_int (k : IntKind) : TD.mild (.int k) = (true) := rfl
theorem mild_str  : TD.mild (.str) = (true) := rfl
theorem flat_bool  : TD.flat (.bool) = (true) := rfl
theorem flat_int (k : IntKind) : TD.flat (.int k) = (true) := rfl
theorem flat_str  : TD.flat (.str) = (true) := rfl
theorem flat_struct (fs : List TD) : TD.flat (.struct fs) = (TD.flats fs) := rfl
theorem flat_arr (n : Nat) (e : TD) : TD.flat (.arr n e) = (e.flat) := rfl
theorem flat_slice (e : TD) : TD.flat (.slice e) = (false) := rfl
theorem flat_map (k e : TD) : TD.flat (.map k e) = (false) := rfl
theorem flat_ptr (e : TD) : TD.flat (.ptr e) = (false) := rfl
theorem flats_nil : TD.flats [] = true := rfl
theorem flats_cons (t : TD) (ts : List TD) : TD.flats (t :: ts) = (t.flat && TD.flats ts) := rfl
theorem live_undef : PV.live .undef = false := rfl
theorem live_dead : PV.live .dead = false := rfl
theorem enterA_bool (i : Nat) (r : List PV) (b : Bool) : enterA i ((.bool b) :: r) = ⟨(i, .bool b) :: (enterA (i + 1) r).sl, (enterA (i + 1) r).bx, (enterA (i + 1) r).rg⟩ := rfl
theorem inouts_bool (i : Nat) (r : List PV) (b : Bool) : inouts i ((.bool b) :: r) = inouts (i + 1) r := rfl
theorem enterA_int (i : Nat) (r : List PV) (k : IntKind) (n : Int) : enterA i ((.int k n) :: r) = ⟨(i, .int k n) :: (enterA (i + 1) r).sl, (enterA (i + 1) r).bx, (enterA (i + 1) r).rg⟩ := rfl
theorem inouts_int (i : Nat) (r : List PV) (k : IntKind) (n : Int) : inouts i ((.int k n) :: r) = inouts (i + 1) r := rfl
theorem enterA_str (i : Nat) (r : List PV) (s : List UInt8) : enterA i ((.str s) :: r) = ⟨(i, .str s) :: (enterA (i + 1) r).sl, (enterA (i + 1) r).bx, (enterA (i + 1) r).rg⟩ := rfl
theorem inouts_str (i : Nat) (r : List PV) (s : List UInt8) : inouts i ((.str s) :: r) = inouts (i + 1) r := rfl
theorem enterA_agg (i : Nat) (r : List PV) (fs : List PV) : enterA i ((.agg fs) :: r) = ⟨(i, .agg fs) :: (enterA (i + 1) r).sl, (enterA (i + 1) r).bx, (enterA (i + 1) r).rg⟩ := rfl
theorem inouts_agg (i : Nat) (r : List PV) (fs : List PV) : inouts i ((.agg fs) :: r) = inouts (i + 1) r := rfl
theorem enterA_arr (i : Nat) (r : List PV) (fs : List PV) : enterA i ((.arr fs) :: r) = ⟨(i, .arr fs) :: (enterA (i + 1) r).sl, (enterA (i + 1) r).bx, (enterA (i + 1) r).rg⟩ := rfl
theorem inouts_arr (i : Nat) (r : List PV) (fs : List PV) : inouts i ((.arr fs) :: r) = inouts (i + 1) r := rfl
theorem enterA_sl (i : Nat) (r : List PV) (b : Bool) (fs : List PV) : enterA i ((.sl b fs) :: r) = ⟨(i, .sl b fs) :: (enterA (i + 1) r).sl, (enterA (i + 1) r).bx, (enterA (i + 1) r).rg⟩ := rfl
theorem inouts_sl (i : Nat) (r : List PV) (b : Bool) (fs : List PV) : inouts i ((.sl b fs) :: r) = inouts (i + 1) r := rfl
theorem enterA_rptr (i : Nat) (r : List PV) (v : PV) : enterA i ((.rptr v) :: r) = ⟨(i, .rptr v) :: (enterA (i + 1) r).sl, (enterA (i + 1) r).bx, (enterA (i + 1) r).rg⟩ := rfl
theorem inouts_rptr (i : Nat) (r : List PV) (v : PV) : inouts i ((.rptr v) :: r) = inouts (i + 1) r := rfl
theorem enterA_nilp (i : Nat) (r : List PV)  : enterA i ((.nilp) :: r) = ⟨(i, .nilp) :: (enterA (i + 1) r).sl, (enterA (i + 1) r).bx, (enterA (i + 1) r).rg⟩ := rfl
theorem inouts_nilp (i : Nat) (r : List PV)  : inouts i ((.nilp) :: r) = inouts (i + 1) r := rfl
theorem enterA_map (i : Nat) (r : List PV) (es : List (PV × PV)) : enterA i ((.map es) :: r) = ⟨(i, .map es) :: (enterA (i + 1) r).sl, (enterA (i + 1) r).bx, (enterA (i + 1) r).rg⟩ := rfl
theorem inouts_map (i : Nat) (r : List PV) (es : List (PV × PV)) : inouts i ((.map es) :: r) = inouts (i + 1) r := rfl
theorem enterA_fn (i : Nat) (r : List PV) (f : Nat) : enterA i ((.fn f) :: r) = ⟨(i, .fn f) :: (enterA (i + 1) r).sl, (enterA (i + 1) r).bx, (enterA (i + 1) r).rg⟩ := rfl
theorem inouts_fn (i : Nat) (r : List PV) (f : Nat) : inouts i ((.fn f) :: r) = inouts (i + 1) r := rfl
set_option maxRecDepth 100000 in
/-- What a walk may take for granted: the equations of the interpreter and small facts. -/
def vm := And.intro @enterA_bool <| And.intro @inouts_bool <| And.intro @enterA_int <| And.intro @inouts_int <| And.intro @enterA_str <| And.intro @inouts_str <| And.intro @enterA_agg <| And.intro @inouts_agg <| And.intro @enterA_arr <| And.intro @inouts_arr <| And.intro @enterA_sl <| And.intro @inouts_sl <| And.intro @enterA_rptr <| And.intro @inouts_rptr <| And.intro @enterA_nilp <| And.intro @inouts_nilp <| And.intro @enterA_map <| And.intro @inouts_map <| And.intro @enterA_fn <| And.intro @inouts_fn <|
  And.intro @live_bool <| And.intro @live_int <| And.intro @live_str <| And.intro @live_agg <| And.intro @live_arr <| And.intro @live_nil <| And.intro @live_sl <| And.intro @live_ref <| 
  And.intro @live_sub <| And.intro @live_ptr <| And.intro @live_eptr <| And.intro @live_rptr <| And.intro @live_nilp <| And.intro @live_map <| And.intro @live_mref <| And.intro @live_fn <| 
  And.intro @argRs_bool <| And.intro @outArgs_bool <| And.intro @argRs_int <| And.intro @outArgs_int <| And.intro @argRs_str <| And.intro @outArgs_str <| And.intro @argRs_agg <| 
  And.intro @outArgs_agg <| And.intro @argRs_arr <| And.intro @outArgs_arr <| And.intro @argRs_nil <| And.intro @outArgs_nil <| And.intro @argRs_sl <| And.intro @outArgs_sl <| 
  And.intro @argRs_ref <| And.intro @outArgs_ref <| And.intro @argRs_sub <| And.intro @outArgs_sub <| And.intro @argRs_nilp <| And.intro @outArgs_nilp <| And.intro @argRs_map <| 
  And.intro @outArgs_map <| And.intro @argRs_mref <| And.intro @outArgs_mref <| And.intro @argRs_fn <| And.intro @outArgs_fn <| And.intro @news_nil <| And.intro @news_sl <| 
  And.intro @news_ref <| And.intro @news_sub <| And.intro @imp_bool <| And.intro @imp_int <| And.intro @imp_str <| And.intro @imp_arr <| And.intro @imp_nil <| And.intro @imp_sl <| 
  And.intro @imp_nilp <| And.intro @imp_map <| And.intro @imp_fn <| And.intro @noSl_bool <| And.intro @noSl_int <| And.intro @noSl_str <| And.intro @noSl_own <| And.intro @noSl_omap <| 
  And.intro @noSl_nilp <| And.intro @noSl_arr <| And.intro @binOpS_bool <| And.intro @binOpS_int <| And.intro @binOpS_str <| And.intro @binOpS_agg <| And.intro @binOpS_arr <| 
  And.intro @binOpS_nil <| And.intro @binOpS_sl <| And.intro @binOp_add <| And.intro @binOp_sub <| And.intro @binOp_mul <| And.intro @binOp_quo <| And.intro @binOp_rem <| And.intro @binOp_and <| 
  And.intro @binOp_or <| And.intro @binOp_xor <| And.intro @binOp_andNot <| And.intro @binOp_eql <| And.intro @binOp_neq <| And.intro @binOp_lss <| And.intro @binOp_leq <| 
  And.intro @binOp_gtr <| And.intro @binOp_geq <| And.intro @binOp_str_add <| And.intro @binOp_str_eql <| And.intro @binOp_str_neq <| And.intro @binOp_str_lss <| And.intro @binOp_sl_eql <| 
  And.intro @binOp_sl_neq <| And.intro @binOp_b_eql <| And.intro @binOp_b_neq <| And.intro @binOp_arr_eql <| And.intro @binOp_agg_eql <| And.intro @binOp_arr_neq <| And.intro @binOp_agg_neq <| 
  And.intro @binOp_shl <| And.intro @binOp_shr <| And.intro @shift_shl <| And.intro @shift_shr <| And.intro @mild_slice <| And.intro @mild_map <| And.intro @mild_struct <| And.intro @mild_tup <| 
  And.intro @mild_arr <| And.intro @mild_bool <| And.intro @mild_int <| And.intro @mild_str <| And.intro @flat_bool <| And.intro @flat_int <| And.intro @flat_str <| And.intro @flat_struct <| 
  And.intro @flat_arr <| And.intro @flat_slice <| And.intro @flat_map <| And.intro @flat_ptr <| And.intro @flats_nil <| And.intro @flats_cons <| And.intro @live_undef <| And.intro @live_dead <| 
  And.intro @step.eq_1 <| And.intro @step.eq_2 <| And.intro @step.eq_3 <| And.intro @step.eq_4 <| And.intro @step.eq_5 <| And.intro @step.eq_6 <| And.intro @step.eq_7 <| 
  And.intro @step.eq_8 <| And.intro @step.eq_9 <| And.intro @step.eq_10 <| And.intro @step.eq_11 <| And.intro @step.eq_12 <| And.intro @step.eq_13 <| And.intro @step.eq_14 <| 
  And.intro @step.eq_15 <| And.intro @step.eq_16 <| And.intro @step.eq_17 <| And.intro @step.eq_18 <| And.intro @step.eq_19 <| And.intro @step.eq_20 <| And.intro @step.eq_21 <| 
  And.intro @step.eq_22 <| And.intro @step.eq_23 <| And.intro @step.eq_24 <| And.intro @step.eq_25 <| And.intro @step.eq_26 <| And.intro @step.eq_27 <| And.intro @step.eq_28 <| 
  And.intro @step.eq_29 <| And.intro @VA.eval.eq_1 <| And.intro @VA.eval.eq_2 <| And.intro @look.eq_1 <| And.intro @look.eq_2 <| And.intro @lookR.eq_1 <| And.intro @lookR.eq_2 <| 
  And.intro @put.eq_1 <| And.intro @put.eq_2 <| And.intro @putR.eq_1 <| And.intro @putR.eq_2 <| And.intro @dropR.eq_1 <| And.intro @dropR.eq_2 <| And.intro @St.putS.eq_1 <| 
  And.intro @St.putS.eq_2 <| And.intro @St.newBox.eq_1 <| And.intro @St.newBox.eq_2 <| And.intro @St.newReg.eq_1 <| And.intro @St.newReg.eq_2 <|  
    And.intro @norm.eq_1 <| And.intro @pickL.eq_1 <| And.intro @pickL.eq_2 <| And.intro @nmL.eq_1 <| And.intro @nmL.eq_2 <| 
  And.intro @nmV.eq_1 <| And.intro @nmV.eq_2 <| And.intro @nmV.eq_3 <| And.intro @nmV.eq_4 <| And.intro @nmV.eq_5 <| And.intro @nmV.eq_6 <| And.intro @nmV.eq_7 <| 
  And.intro @nmVs.eq_1 <| And.intro @nmVs.eq_2 <| And.intro @keysL.eq_1 <| And.intro @keysL.eq_2 <| And.intro @getAt.eq_1 <| And.intro @getAt.eq_2 <| And.intro @getAt.eq_3 <| 
   And.intro @setAt.eq_1 <| And.intro @setAt.eq_2 <| And.intro @setAt.eq_3 <|  And.intro @St.content.eq_1 <| 
  And.intro @St.content.eq_2 <| And.intro @St.content.eq_3 <| And.intro @St.content.eq_4 <|  And.intro @St.entries.eq_1 <| And.intro @St.entries.eq_2 <| 
  And.intro @St.entries.eq_3 <|  And.intro @St.imm.eq_1 <| And.intro @St.imm.eq_2 <| And.intro @St.imm.eq_3 <| And.intro @St.imm.eq_4 <| 
  And.intro @St.imm.eq_5 <| And.intro @St.imm.eq_6 <| And.intro @St.imm.eq_7 <| And.intro @St.imm.eq_8 <| And.intro @St.imm.eq_9 <| And.intro @St.imm.eq_10 <| And.intro @St.imm.eq_11 <| 
  And.intro @St.imm.eq_12 <| And.intro @St.imm.eq_13 <|  And.intro @St.imms.eq_1 <| And.intro @St.imms.eq_2 <| And.intro @St.exp.eq_1 <| 
  And.intro @St.exp.eq_2 <| And.intro @St.exp.eq_3 <| And.intro @St.exp.eq_4 <| And.intro @St.exp.eq_5 <| And.intro @St.exp.eq_6 <| And.intro @St.exp.eq_7 <| And.intro @St.exp.eq_8 <| 
  And.intro @St.exp.eq_9 <| And.intro @St.exp.eq_10 <| And.intro @St.exp.eq_11 <| And.intro @St.exp.eq_12 <| And.intro @St.exp.eq_13 <|  
  And.intro @St.exps.eq_1 <| And.intro @St.exps.eq_2 <| And.intro @imp.eq_1 <| And.intro @imp.eq_2 <| And.intro @imp.eq_3 <|  And.intro @imps.eq_1 <| 
  And.intro @imps.eq_2 <| And.intro @evalArgs.eq_1 <| And.intro @evalArgs.eq_2 <| And.intro @evalParts.eq_1 <| And.intro @evalParts.eq_2 <| And.intro @St.argRs.eq_1 <| 
  And.intro @St.argRs.eq_2 <| And.intro @St.argRs.eq_3 <|  And.intro @St.outArgs.eq_1 <| And.intro @St.outArgs.eq_2 <| And.intro @St.outArgs.eq_3 <| 
   And.intro @St.news.eq_1 <|  And.intro @fill.eq_1 <| And.intro @fill.eq_2 <| And.intro @fst2.eq_1 <| And.intro @fst2.eq_2 <| 
  And.intro @zip2.eq_1 <| And.intro @zip2_nil <|      
         
         
   And.intro @binOpS.eq_1 <| And.intro @binOpS.eq_2 <|  And.intro @binInt.eq_1 <| And.intro @binInt.eq_2 <| And.intro @binInt.eq_3 <| 
  And.intro @binInt.eq_4 <| And.intro @binInt.eq_5 <| And.intro @binInt.eq_6 <| And.intro @binInt.eq_7 <| And.intro @binInt.eq_8 <| And.intro @binInt.eq_9 <| And.intro @binInt.eq_10 <| 
  And.intro @binInt.eq_11 <| And.intro @binInt.eq_12 <| And.intro @binInt.eq_13 <| And.intro @binInt.eq_14 <| And.intro @binInt.eq_15 <|  
  And.intro @binStr.eq_1 <| And.intro @binStr.eq_2 <| And.intro @binStr.eq_3 <| And.intro @binStr.eq_4 <|  And.intro @unOp.eq_1 <| And.intro @unOp.eq_2 <| 
   And.intro @optEval.eq_1 <| And.intro @optEval.eq_2 <|     
  And.intro @toIdx.eq_1 <|  And.intro @St.freeze.eq_1 <| And.intro @St.freeze.eq_2 <| And.intro @RegC.freeze.eq_1 <| And.intro @RegC.freeze.eq_2 <| 
  And.intro @resV.eq_1 <| And.intro @resV.eq_2 <| And.intro @resV.eq_3 <| And.intro @boxV.eq_1 <| And.intro @boxV.eq_2 <| And.intro @inouts.eq_1 <| And.intro @inouts.eq_2 <| 
   And.intro @packR.eq_1 <| And.intro @packR_two <| And.intro @and_ff2 <| And.intro @Again_mk <| And.intro @cons_beq <| And.intro @nil_beq <| And.intro @nil_beq_cons <| And.intro @cons_beq_nil <| And.intro @bounds_nn <| And.intro @bounds_ns <| And.intro @bounds_sn <| And.intro @bounds_ss <| And.intro @PV.noSl.eq_1 <| And.intro @PV.noSl.eq_2 <| And.intro @PV.noSl.eq_3 <|  
   And.intro @PV.noSls.eq_1 <| And.intro @PV.noSls.eq_2 <|    
        
  And.intro @TD.milds.eq_1 <| And.intro @TD.milds.eq_2 <|     
    And.intro @TD.zero.eq_1 <| And.intro @TD.zero.eq_2 <| And.intro @TD.zero.eq_3 <| And.intro @TD.zero.eq_4 <| 
  And.intro @TD.zero.eq_5 <| And.intro @TD.zero.eq_6 <| And.intro @TD.zero.eq_7 <| And.intro @TD.zero.eq_8 <| And.intro @TD.zero.eq_9 <| And.intro @TD.zero.eq_10 <| 
  And.intro @TD.zeros.eq_1 <| And.intro @TD.zeros.eq_2 <| And.intro @TD.izero.eq_1 <| And.intro @TD.izero.eq_2 <| And.intro @TD.izero.eq_3 <| And.intro @TD.izero.eq_4 <| 
  And.intro @TD.izero.eq_5 <| And.intro @TD.izero.eq_6 <| And.intro @TD.izero.eq_7 <| And.intro @TD.izero.eq_8 <| And.intro @TD.izero.eq_9 <| And.intro @TD.izero.eq_10 <| 
  And.intro @TD.izeros.eq_1 <| And.intro @TD.izeros.eq_2 <| And.intro @PV.plain.eq_1 <| And.intro @PV.plain.eq_2 <| And.intro @PV.plain.eq_3 <| And.intro @PV.plain.eq_4 <| 
  And.intro @PV.plain.eq_5 <| And.intro @PV.plain.eq_6 <| And.intro @PV.plain.eq_7 <| And.intro @PV.plain.eq_8 <| And.intro @PV.plain.eq_9 <|  
  And.intro @PV.plains.eq_1 <| And.intro @PV.plains.eq_2 <| And.intro @pvEq.eq_1 <| And.intro @pvEq.eq_2 <| And.intro @pvEq.eq_3 <| And.intro @pvEq.eq_4 <| And.intro @pvEq.eq_5 <| 
   And.intro @findKey.eq_1 <| And.intro @findKey.eq_2 <| And.intro @putKey.eq_1 <| And.intro @putKey.eq_2 <| And.intro @enterA.eq_1 <| And.intro @enterA.eq_2 <| 
   And.intro @nodupR.eq_1 <| And.intro @nodupR.eq_2 <|    And.intro @nmV_sl <| 
  And.intro @nmV_int <| And.intro @nmV_bool <| And.intro @nmV_str <| And.intro @nmV_arr <| And.intro @nmV_nilp <| And.intro @nmV_map <| And.intro @nmV_undef <| And.intro @nmV_dead <| 
  And.intro @nmV_rptr <| And.intro @W_seq <| And.intro @W_reg <| And.intro @WR_cons <| And.intro @WR_nil <| And.intro @oneOp_no <| And.intro @oneOp_if <| And.intro @Then_some <| 
  And.intro @Seq_normal <| And.intro @Seq_exit <| And.intro @Seq_ret <| And.intro @W_block <| And.intro @W_cond <| And.intro @Cnd_true <| And.intro @Cnd_false <| And.intro @W_skip <| 
  And.intro @W_exit <| And.intro @W_ret <| And.intro @Rnd_normal <| And.intro @Rnd_exit <| And.intro @Rnd_ret <| And.intro @Blk_normal <| And.intro @Blk_exit <| And.intro @Blk_ret <| 
  And.intro @Fin_ret <| And.intro @Fin_normal <| And.intro @EndB_nil <| And.intro @End_some <| And.intro @Got_some <| And.intro @natCast_nonneg <| And.intro @toNat_cast <| And.intro @cast_lt <| 
  And.intro @cast_le <| And.intro @Ns_length <| And.intro @U8s_length <| And.intro @Bs_length <| And.intro @Rs_length <| And.intro @Ns_set <| And.intro @Bs_set <| 
  And.intro @Ns_append <| And.intro @Bs_append <| And.intro @Rs_append <| And.intro @U8s_set <| And.intro @Us_length <| And.intro @Us_append <| And.intro @Ns_append1 <| And.intro @Rs_append1 <| And.intro @Bs_append1 <| And.intro @decide_true_eq <| And.intro @decide_false_eq <| And.intro @nil_app <| And.intro @app_nil <| 
  And.intro @cons_app <| And.intro @get0 <| And.intro @getS <| And.intro @len_nil <| And.intro @len_cons <| And.intro @true_and_ <| And.intro @and_true_ <| And.intro @contains_nil <| 
  And.intro @contains_cons <| And.intro @beq_self <| And.intro @or_true_ <| And.intro @true_or_ <| And.intro @or_false_ <| And.intro @false_or_ <| And.intro @bnot_true <| 
  And.intro @bnot_false <| And.intro @ff_eq <| And.intro @int_irrefl <| And.intro @set0 <| And.intro @setS <| And.intro @isEmpty_nil <| And.intro @isEmpty_cons <| And.intro @min_zero <| 
  And.intro @and_ff <| And.intro @and_tt <| @mt_and
end Go.Vm
end
