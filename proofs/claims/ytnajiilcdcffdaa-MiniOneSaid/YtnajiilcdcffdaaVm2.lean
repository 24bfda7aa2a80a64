/- A virtual machine for loaded programs, and that the interpreter does what it does. No conditions beyond each theorem. Arithmetic and comparisons: what the interpreter computes, the machine computes. '==' of structs and arrays. Operations that compute or read: what the interpreter does, the machine does. Reading memory: slices, elements, fields. Parts of values, arithmetic, lengths, cuts. Cuts, lengths, conversions, look-ups. Unary operations, conversions, lengths, the greater and the lesser. Operations that make memory: boxes and rows. -/
import Derived.Test.YtnajiilcdcffdaaVm1
import Derived.Laws.Strings
import Derived.Laws.Concat
import Derived.MapKept
import Derived.Laws.BytesArg
section
set_option linter.unusedSimpArgs false
set_option linter.unusedVariables false
namespace Go.Vm
variable {P : Program} {F : Fr} {w w' : World} {st st' : St} {a a' : Act} {E E' : Env}

/-- A scalar's value. -/
def sv : PV → Value
  | .int k n => .int k n
  | .bool b => .bool b
  | .str l => .string ⟨l.toArray⟩
  | _ => Go.undef
theorem bind_id_run {v : Sem Value} {x : Value} (h : v.run P w = .ok x w') : (do pure (.value (← v)) : Sem Next).run P w = .ok (.value x) w' := by
  simp [h]

theorem run_binInt {op : BinOp} {k : IntKind} {m n : Int} {p : PV} {t : TypeId} (h : binInt op k m n = some p) : (Go.binOp op t (.int k m) (.int k n)).run P w = .ok (sv p) w := by
  have heq : (m == n) = decide (m = n) := by rw [Bool.eq_iff_iff]; simp
  cases op <;> simp only [binInt, Option.some.injEq, reduceCtorEq] at h <;>
    first
    | (subst h; simp only [Go.binOp, Op.intArith, Op.intBits, Op.intCmp, Op.intDiv, sv, bne, ne_eq, not_true_eq_false, if_false, Sem.run_pure, heq]; done)
    | (split at h
       · cases h
       · rename_i h0
         simp only [Option.some.injEq] at h
         subst h
         simp [Go.binOp, Op.intDiv, sv, h0])
    | skip
theorem run_shift {op : BinOp} {k j : IntKind} {m n : Int} {p : PV} {t : TypeId} (hop : op = .shl ∨ op = .shr) (h : shiftInt op k m n = some p) : (Go.binOp op t (.int k m) (.int j n)).run P w = .ok (sv p) w := by
  unfold shiftInt at h
  split at h
  · cases h
  · rename_i h0
    rcases hop with rfl | rfl <;> simp only [Option.some.injEq] at h <;> subst h <;> simp [Go.binOp, Op.shift, sv, h0]
theorem bytesLess_eq : ∀ a b : List UInt8, Op.bytesLess a b = bytesLess a b
  | _, [] => by cases ‹List UInt8› <;> rfl
  | [], _ :: _ => rfl
  | x :: xs, y :: ys => by
    simp only [Op.bytesLess, bytesLess, bytesLess_eq xs ys]
    congr 1
theorem bytes_toList (l : List UInt8) : (⟨l.toArray⟩ : ByteArray).toList = l := by
  rw [ByteArray.toList_eq]
theorem run_binStr {op : BinOp} {m n : List UInt8} {p : PV} {t : TypeId} (h : binStr op m n = some p) :
    (Go.binOp op t (.string ⟨m.toArray⟩) (.string ⟨n.toArray⟩)).run P w = .ok (sv p) w := by
  have heq : (m == n) = decide (m = n) := by rw [Bool.eq_iff_iff]; simp
  cases op <;> simp only [binStr, Option.some.injEq, reduceCtorEq] at h
  case add =>
    split at h
    · rename_i hl
      simp only [Option.some.injEq] at h
      subst h
      have hn : ¬ (((⟨m.toArray⟩ : ByteArray).size + (⟨n.toArray⟩ : ByteArray).size : Nat) : Int) > IntKind.i64.max := by
        have e1 : (⟨m.toArray⟩ : ByteArray).size = m.length := by simp [ByteArray.size]
        have e2 : (⟨n.toArray⟩ : ByteArray).size = n.length := by simp [ByteArray.size]
        rw [e1, e2]
        have : IntKind.i64.max = 9223372036854775807 := by decide
        rw [this]
        omega
      simp only [Go.binOp, Op.stringOp, if_neg hn, Sem.run_pure, sv, ByteArray.mk_append_mk]
    · cases h
  all_goals
    subst h
    simp only [Go.binOp, Op.stringOp, sv, Sem.run_pure, bytes_toList, heq, bytesLess_eq]

-- Types whose '==' the interpreter knows: whole numbers, bools, strings, and structs and arrays of such.
mutual
def chkEq (P : Program) : TD → TypeId → Bool
  | .bool, _ | .int _, _ | .str, _ => true
  | .struct fs, t => !P.stoodInHeld t && (match P.underlying t with | some (.struct fields) => chkEqs P fs fields.toList | _ => false)
  | .arr _ e, t => (match P.underlying t with | some (.array _ te) => decide (0 < e.size) && chkEq P e te | _ => false)
  | _, _ => false
def chkEqs (P : Program) : List TD → List Field → Bool
  | [], [] => true
  | t :: ts, f :: fs => !(f.name == "_") && chkEq P t f.type && chkEqs P ts fs
  | _, _ => false
end
theorem part_run {td : TD} {t : TypeId} {cs : Array Value} {off : Nat} (hc : chkTD P td t = true) (h : off + td.size ≤ cs.size) :
    (part t cs off).run P w = .ok (td.valOf (seg off td.size cs.toList)) w := by
  obtain ⟨i, hi, hs, hz⟩ := chkTD.info hc
  have agg : ∀ d, P.underlying t = some d → (isAgg t).run P w = .ok (match d with | .struct _ => true | .array _ _ => true | _ => false) w := by
    intro d hd
    simp only [isAgg, Sem.run_bind, run_underlying hd, Result.andThen_ok]
    cases d <;> rfl
  have ext : (cs.extract off (off + td.size)) = (seg off td.size cs.toList).toArray := by
    apply Array.ext'
    simp [seg, List.extract_eq_take_drop]
  cases td with
  | struct fs =>
    obtain ⟨fields, hu, _⟩ := chkTD.struct hc
    simp only [part, Sem.run_bind, agg _ hu, Result.andThen_ok, if_true, sizeOf, typeInfo, run_program, hi, Sem.run_pure, hs, TD.valOf, TD.isAgg, ext]
  | arr n e =>
    obtain ⟨te, hu, _⟩ := chkTD.arr hc
    simp only [part, Sem.run_bind, agg _ hu, Result.andThen_ok, if_true, sizeOf, typeInfo, run_program, hi, Sem.run_pure, hs, TD.valOf, TD.isAgg, ext]
  | tup ts => simp [chkTD] at hc
  | _ =>
    have hlt : off < cs.size := by simp only [TD.size] at h; omega
    have hseg : ∀ n, n = 1 → seg off n cs.toList = [cs[off]] := by
      rintro n rfl
      apply List.ext_getElem?
      intro i
      simp only [seg, List.getElem?_take, List.getElem?_drop]
      cases i with
      | zero => simp [hlt]
      | succ i => simp
    have hu : ∃ d, P.underlying t = some d ∧ (match d with | .struct _ => true | .array _ _ => true | _ => false) = false := by
      first
      | exact ⟨_, chkTD.bool hc, rfl⟩
      | exact ⟨_, chkTD.int hc, rfl⟩
      | exact ⟨_, chkTD.str hc, rfl⟩
      | (obtain ⟨te, hu, _⟩ := chkTD.slice hc; exact ⟨_, hu, rfl⟩)
      | (obtain ⟨te, hu, _⟩ := chkTD.ptr hc; exact ⟨_, hu, rfl⟩)
      | (obtain ⟨tk, te, hu, _⟩ := chkTD.map hc; exact ⟨_, hu, rfl⟩)
      | (obtain ⟨a, b, c, hu⟩ := chkTD.func hc; exact ⟨_, hu, rfl⟩)
    obtain ⟨d, hu, hd⟩ := hu
    simp only [part, Sem.run_bind, agg _ hu, hd, Result.andThen_ok, Bool.false_eq_true, if_false, hlt, Array.getElem?_eq_getElem, Sem.run_pure, TD.valOf, TD.isAgg]
    simp only [TD.size, hseg 1 rfl]

theorem isAgg_run {td : TD} {t : TypeId} (hc : chkTD P td t = true) : (isAgg t).run P w = .ok td.isAgg w := by
  have agg : ∀ d, P.underlying t = some d → (isAgg t).run P w = .ok (match d with | .struct _ => true | .array _ _ => true | _ => false) w := by
    intro d hd
    simp only [isAgg, Sem.run_bind, run_underlying hd, Result.andThen_ok]
    cases d <;> rfl
  cases td with
  | struct fs => obtain ⟨_, hu, _⟩ := chkTD.struct hc; exact agg _ hu
  | arr n e => obtain ⟨_, hu, _⟩ := chkTD.arr hc; exact agg _ hu
  | bool => exact agg _ (chkTD.bool hc)
  | int k => exact agg _ (chkTD.int hc)
  | str => exact agg _ (chkTD.str hc)
  | slice e => obtain ⟨_, hu, _⟩ := chkTD.slice hc; exact agg _ hu
  | ptr e => obtain ⟨_, hu, _⟩ := chkTD.ptr hc; exact agg _ hu
  | map k e => obtain ⟨_, _, hu, _⟩ := chkTD.map hc; exact agg _ hu
  | func => obtain ⟨_, _, _, hu⟩ := chkTD.func hc; exact agg _ hu
  | tup ts => simp [chkTD] at hc
theorem sizeOf_run {td : TD} {t : TypeId} (hc : chkTD P td t = true) : (sizeOf t).run P w = .ok td.size w := by
  obtain ⟨i, hi, hs, _⟩ := chkTD.info hc
  simp only [sizeOf, typeInfo, Sem.run_bind, run_program, Result.andThen_ok, hi, Sem.run_pure, hs]
theorem zeroValue_run {td : TD} {t : TypeId} (hc : chkTD P td t = true) : (zeroValue t).run P w = .ok (td.valOf td.zcells) w := by
  obtain ⟨i, hi, hs, hz⟩ := chkTD.info hc
  simp only [zeroValue, typeInfo, Sem.run_bind, run_program, Result.andThen_ok, hi, Sem.run_pure, hz]

/-- A loop over a list whose body asks and goes on or leaves with 'false'. -/
theorem forIn_asks {α : Type} (f : α → Sem (ForInStep (Option Bool × PUnit))) (ask : α → Bool) :
    ∀ (l : List α), (∀ x ∈ l, (f x).run P w = .ok (if ask x then .yield (none, ⟨⟩) else .done (some false, ⟨⟩)) w) →
    (forIn (m := Sem) l (none, ⟨⟩) (fun x _ => f x)).run P w = .ok (if l.all ask then (none, ⟨⟩) else (some false, ⟨⟩)) w
  | [], _ => by simp
  | x :: l, h => by
    have hx := h x (by simp)
    have ih := forIn_asks f ask l (fun y hy => h y (by simp [hy]))
    rw [List.forIn_cons, Sem.run_bind, hx]
    by_cases hq : ask x
    · simp only [hq, if_true, Result.andThen_ok, ih, List.all_cons, Bool.true_and]
    · simp [hq]
end Go.Vm
end
section
set_option linter.unusedSimpArgs false
set_option linter.unusedVariables false
namespace Go.Vm
variable {P : Program} {w : World}

mutual
def TD.dep : TD → Nat
  | .struct fs => TD.deps fs + 1
  | .arr _ e => e.dep + 1
  | _ => 0
def TD.deps : List TD → Nat
  | [] => 0
  | t :: ts => max t.dep (TD.deps ts)
end

theorem seg_drop {off n : Nat} {cs cs1 cs2 : List Value} (h : cs.drop off = cs1 ++ cs2) (hn : cs1.length = n) : seg off n cs = cs1 ∧ cs.drop (off + n) = cs2 ∧ off + n ≤ cs.length + (if cs1 = [] then off + n else 0) := by
  subst hn
  refine ⟨by simp [seg, h], by rw [← List.drop_drop, h]; simp, ?_⟩
  split
  · omega
  · rename_i hne
    have hl := congrArg List.length h
    simp only [List.length_drop, List.length_append] at hl
    have : 0 < cs1.length := List.length_pos_iff.2 hne
    omega
theorem Result.ite_run {c : Prop} [Decidable c] {α : Type} {x y : Sem α} {r s : α} (hx : c → x.run P w = .ok r w) (hy : ¬ c → y.run P w = .ok s w) : (if c then x else y).run P w = .ok (if c then r else s) w := by
  split
  · rename_i h; exact hx h
  · rename_i h; exact hy h

theorem equala_run {X : Nat → Prop} {e : TD} {d : Nat} {te : TypeId} {xs ys : Array Value} (h0 : 0 < e.size) (hce : chkTD P e te = true)
    (rc : ∀ {cs ds : List Value} {p q : PV} {b : Bool}, RC w X e cs p → RC w X e ds q → pvEq p q = some b → (Op.equalIn d te (e.valOf cs) (e.valOf ds)).run P w = .ok b w) :
    ∀ (ps qs : List PV) {b : Bool} (i : Nat), RCa w X e (xs.toList.drop (i * e.size)) ps → RCa w X e (ys.toList.drop (i * e.size)) qs → pvEqs ps qs = some b →
    (forIn (m := Sem) (List.range' i ps.length) (none, PUnit.unit) (fun i (__s : Option Bool × PUnit) => do
              let __do_lift ← part te xs (i * e.size)
              let __do_lift_1 ← part te ys (i * e.size)
              let __do_lift ← Op.equalIn d te __do_lift __do_lift_1
              if (!__do_lift) = true then pure (ForInStep.done (some false, PUnit.unit)) else pure (ForInStep.yield (none, PUnit.unit)))).run P w = .ok (if b then (none, PUnit.unit) else (some false, PUnit.unit)) w
  | [], [], b, i, _, _, h => by
    simp only [pvEqs, Option.some.injEq] at h
    subst h
    simp
  | p1 :: ps, q1 :: qs, b, i, hp, hq, h => by
    generalize hx : xs.toList.drop (i * e.size) = cs at hp
    generalize hy : ys.toList.drop (i * e.size) = ds at hq
    cases hp with
    | cons h1 h1s =>
    cases hq with
    | cons h2 h2s =>
      rename_i cs1 cs2 ds1 ds2
      have n1 := h1.length
      have n2 := h2.length
      have e1 := seg_drop hx n1
      have e2 := seg_drop hy n2
      have l1 : i * e.size + e.size ≤ xs.size := by
        have := e1.2.2
        rw [if_neg (by intro e; rw [e] at n1; simp at n1; omega)] at this
        simpa using this
      have l2 : i * e.size + e.size ≤ ys.size := by
        have := e2.2.2
        rw [if_neg (by intro e; rw [e] at n2; simp at n2; omega)] at this
        simpa using this
      have p1r := part_run (P := P) (w := w) (cs := xs) (off := i * e.size) hce l1
      have p2r := part_run (P := P) (w := w) (cs := ys) (off := i * e.size) hce l2
      rw [e1.1] at p1r
      rw [e2.1] at p2r
      simp only [pvEqs] at h
      rw [List.length_cons, List.range'_succ, List.forIn_cons]
      simp only [Sem.run_bind, p1r, p2r, Result.andThen_ok]
      cases hpq : pvEq p1 q1 with
      | none => rw [hpq] at h; cases h
      | some c =>
        rw [hpq] at h
        rw [rc h1 h2 hpq]
        cases c with
        | false =>
          simp only [Option.some.injEq] at h
          subst h
          rfl
        | true =>
          have em : (i + 1) * e.size = i * e.size + e.size := by rw [Nat.succ_mul]
          have ih := equala_run h0 hce rc ps qs (i + 1) (by rw [em, e1.2.1]; exact h1s) (by rw [em, e2.2.1]; exact h2s) h
          simp only [Result.andThen_ok, Bool.not_true, Bool.false_eq_true, if_false, Sem.run_pure]
          exact ih
  | [], _ :: _, _, _, _, _, h => by simp [pvEqs] at h
  | _ :: _, [], _, _, _, _, h => by simp [pvEqs] at h

mutual
theorem equal_run {X : Nat → Prop} : ∀ {td : TD} {t : TypeId} {d : Nat} {cs ds : List Value} {p q : PV} {b : Bool}, chkTD P td t = true → chkEq P td t = true → td.dep < d →
    RC w X td cs p → RC w X td ds q → pvEq p q = some b → (Op.equalIn d t (td.valOf cs) (td.valOf ds)).run P w = .ok b w
  | .bool, t, d + 1, _, _, _, _, b, hc, _, _, .bool x, .bool y, h => by
    simp only [pvEq, Option.some.injEq] at h
    subst h
    have : (x == y) = decide (x = y) := by rw [Bool.eq_iff_iff]; simp
    simp only [TD.valOf, TD.isAgg, Bool.false_eq_true, if_false, Op.equalIn, Sem.run_bind, run_underlying (chkTD.bool hc), Result.andThen_ok, Sem.run_pure, this]
  | .int k, t, d + 1, _, _, _, _, b, hc, _, _, .int _ x, .int _ y, h => by
    simp only [pvEq, if_true, Option.some.injEq] at h
    subst h
    have : (x == y) = decide (x = y) := by rw [Bool.eq_iff_iff]; simp
    simp only [TD.valOf, TD.isAgg, Bool.false_eq_true, if_false, Op.equalIn, Sem.run_bind, run_underlying (chkTD.int hc), Result.andThen_ok, Sem.run_pure, this, if_true]
  | .str, t, d + 1, _, _, _, _, b, hc, _, _, .str x, .str y, h => by
    simp only [pvEq, Option.some.injEq] at h
    subst h
    have : ((⟨x.toArray⟩ : ByteArray) == ⟨y.toArray⟩) = decide (x = y) := by
      rw [Bool.eq_iff_iff, MapKept.bytes_beq]
      simp
    simp only [TD.valOf, TD.isAgg, Bool.false_eq_true, if_false, Op.equalIn, Sem.run_bind, run_underlying (chkTD.str hc), Result.andThen_ok, Sem.run_pure, this]
  | .struct fs, t, d + 1, cs, ds, _, _, b, hc, he, hd, .struct hp, .struct hq, h => by
    obtain ⟨fields, hu, hf⟩ := chkTD.struct hc
    simp only [chkEq, hu, Bool.and_eq_true, Bool.not_eq_true'] at he
    simp only [pvEq] at h
    simp only [TD.dep] at hd
    have hl := equals_run (d := d) (xs := cs.toArray) (ys := ds.toArray) (off := 0) hf he.2 (by omega) (by simpa using hp) (by simpa using hq) h
    simp only [TD.valOf, TD.isAgg, if_true, Op.equalIn, Sem.run_bind, run_underlying hu, Result.andThen_ok, run_program, he.1, Bool.false_eq_true, if_false]
    rw [← Array.forIn_toList, hl]
    cases b <;> rfl
  | .arr n e, t, d + 1, cs, ds, _, _, b, hc, he, hd, .arr hn hp, .arr hm hq, h => by
    obtain ⟨te, hu, hce⟩ := chkTD.arr hc
    simp only [chkEq, hu] at he
    simp only [pvEq] at h
    simp only [TD.dep] at hd
    simp only [Bool.and_eq_true, decide_eq_true_eq] at he
    obtain ⟨h0, he⟩ := he
    have rc : ∀ {cs ds : List Value} {p q : PV} {b : Bool}, RC w X e cs p → RC w X e ds q → pvEq p q = some b → (Op.equalIn d te (e.valOf cs) (e.valOf ds)).run P w = .ok b w :=
      fun h1 h2 h3 => equal_run hce he (by omega) h1 h2 h3
    have hl := equala_run (P := P) (w := w) (d := d) (xs := cs.toArray) (ys := ds.toArray) (te := te) h0 hce rc _ _ 0 (by simpa using hp) (by simpa using hq) h
    simp only [TD.valOf, TD.isAgg, if_true, Op.equalIn, Sem.run_bind, run_underlying hu, Result.andThen_ok, sizeOf_run hce]
    rw [Std.Legacy.Range.forIn_eq_forIn_range']
    rw [hn] at hl
    simp only [Std.Legacy.Range.size, Nat.sub_zero, Nat.add_sub_cancel, Nat.div_one]
    rw [hl]
    cases b <;> rfl
theorem equals_run {X : Nat → Prop} : ∀ {fs : List TD} {fields : List Field} {off d : Nat} {xs ys : Array Value} {ps qs : List PV} {b : Bool}, chkFs P fs off fields = true → chkEqs P fs fields = true → TD.deps fs < d →
    RCs w X fs (xs.toList.drop off) ps → RCs w X fs (ys.toList.drop off) qs → pvEqs ps qs = some b →
    (forIn (m := Sem) fields (none, PUnit.unit) (fun f (__s : Option Bool × PUnit) => if f.name ≠ "_" then do
                let __do_lift ← part f.type xs f.offset
                let __do_lift_1 ← part f.type ys f.offset
                let __do_lift ← Op.equalIn d f.type __do_lift __do_lift_1
                if (!__do_lift) = true then pure (ForInStep.done (some false, PUnit.unit))
                  else pure (ForInStep.yield (none, PUnit.unit))
              else pure (ForInStep.yield (none, PUnit.unit)))).run P w = .ok (if b then (none, PUnit.unit) else (some false, PUnit.unit)) w
  | [], [], off, d, xs, ys, _, _, b, _, _, _, hp, hq, h => by
    generalize xs.toList.drop off = cs at hp
    generalize ys.toList.drop off = ds at hq
    cases hp
    cases hq
    simp only [pvEqs, Option.some.injEq] at h
    subst h
    simp
  | t :: ts, f :: fl, off, d, xs, ys, ps, qs, b, hc, he, hd, hp, hq, h => by
    simp only [chkFs, Bool.and_eq_true, decide_eq_true_eq] at hc
    simp only [chkEqs, Bool.and_eq_true, Bool.not_eq_true', beq_eq_false_iff_ne] at he
    simp only [TD.deps] at hd
    obtain ⟨⟨⟨ho, h0⟩, hct⟩, hcs⟩ := hc
    generalize hx : xs.toList.drop off = cs at hp
    generalize hy : ys.toList.drop off = ds at hq
    cases hp with
    | cons h1 h1s =>
    cases hq with
    | cons h2 h2s =>
      rename_i cs1 cs2 p1 ps1 ds1 ds2 q1 qs1
      have n1 := h1.length
      have n2 := h2.length
      have e1 := seg_drop hx n1
      have e2 := seg_drop hy n2
      have l1 : off + t.size ≤ xs.size := by
        have := e1.2.2
        rw [if_neg (by intro e; rw [e] at n1; simp at n1; omega)] at this
        simpa using this
      have l2 : off + t.size ≤ ys.size := by
        have := e2.2.2
        rw [if_neg (by intro e; rw [e] at n2; simp at n2; omega)] at this
        simpa using this
      have p1r := part_run (P := P) (w := w) (cs := xs) (off := off) hct l1
      have p2r := part_run (P := P) (w := w) (cs := ys) (off := off) hct l2
      rw [e1.1] at p1r
      rw [e2.1] at p2r
      simp only [pvEqs] at h
      rw [List.forIn_cons]
      simp only [Sem.run_bind, ho, ne_eq, he.1.1, not_false_eq_true, if_true, p1r, p2r, Result.andThen_ok]
      cases hpq : pvEq p1 q1 with
      | none => rw [hpq] at h; cases h
      | some c =>
        rw [hpq] at h
        rw [equal_run hct he.1.2 (by omega) h1 h2 hpq]
        cases c with
        | false =>
          simp only [Option.some.injEq] at h
          subst h
          rfl
        | true =>
          have ih := equals_run (d := d) (xs := xs) (ys := ys) (off := off + t.size) hcs he.2 (by omega) (by rw [e1.2.1]; exact h1s) (by rw [e2.2.1]; exact h2s) h
          simp only [Result.andThen_ok, Bool.not_true, Bool.false_eq_true, if_false, Sem.run_pure]
          exact ih
  | [], _ :: _, _, _, _, _, _, _, _, hc, _, _, _, _, _ => by simp [chkFs] at hc
  | _ :: _, [], _, _, _, _, _, _, _, hc, _, _, _, _, _ => by simp [chkFs] at hc
end

-- The guard of '==' lets such values by.
mutual
def noGuard : TD → Bool
  | .bool | .int _ | .str => true
  | .struct fs => noGuards fs
  | .arr _ e => noGuard e
  | _ => false
def noGuards : List TD → Bool
  | [] => true
  | t :: ts => noGuard t && noGuards ts
end
end Go.Vm
end
section
set_option linter.unusedSimpArgs false
set_option linter.unusedVariables false
namespace Go.Vm
variable {P : Program} {F : Fr} {w w' : World} {st st' : St} {a a' : Act} {E E' : Env} {K : Act → World → Prop} {Q : Exit → Act → World → Prop} {o : Oper}

def dOk (Γ : Nat → TD) (N : Nat) (d : Option Nat) (td : TD) : Bool :=
  match d with
  | some n => decide (n < N) && tdEq (Γ n) td
  | none => false
theorem dOk_spec {Γ : Nat → TD} {N : Nat} {d : Option Nat} {td : TD} (h : dOk Γ N d td = true) : ∃ n, d = some n ∧ n < N ∧ Γ n = td := by
  unfold dOk at h
  split at h
  · simp only [Bool.and_eq_true, decide_eq_true_eq] at h
    exact ⟨_, rfl, h.1, tdEq_eq h.2⟩
  · cases h

theorem put_sound {td : TD} {p : PV} {v : Value} (h : Rel F st a w E) (hd : dOk F.Γ F.N o.dst td = true) (hst : st.putS o.dst p = some st') (hrun : (execOp a.eval o).run P w = .ok (.value v) w)
    (hv : RV w E td v p) (hok : Ok st p) (hK : ∀ a' w' E', Rel F st' a' w' E' → K a' w') : o.wp P a w K Q := by
  obtain ⟨n, hn, hN, hΓ⟩ := dOk_spec hd
  rw [hn] at hst
  simp only [St.putS, Option.some.injEq] at hst
  subst hst
  refine upon_value hrun (hK _ _ E ?_)
  rw [hn]
  exact h.putS hN (hΓ ▸ hv) hok.put

theorem cell_at {ad : Addr} {cur : Array Value} {et : TypeId} {fr : Nat × Nat} (hs : ad.spot = none) (h : w.heap[ad.block]? = some (.cells cur et fr)) (j : Nat) : w.cell? (ad.add j) = cur[ad.off + j]? := by
  unfold Addr.add
  split
  · rename_i h0
    subst h0
    simp [World.cell?, h, hs]
  · simp [World.cell?, h]
theorem frozen_at {ad : Addr} {cur : Array Value} {et : TypeId} (h : w.heap[ad.block]? = some (.cells cur et (0, 0))) (j : Nat) : w.frozen? (ad.add j) = false := by
  have : (ad.add j).block = ad.block := add_block _ _
  simp [World.frozen?, this, h]
theorem CellsAt.of_in {ad : Addr} {cur : Array Value} {et : TypeId} {fr : Nat × Nat} {cs : List Value} {o : Nat} (hs : ad.spot = none) (h : w.heap[ad.block]? = some (.cells cur et fr)) (hc : CellsIn cur (ad.off + o) cs) : CellsAt w (ad.add o) cs := by
  intro j v hj
  rw [add_add, cell_at hs h]
  have := hc j v hj
  rwa [Nat.add_assoc] at this
theorem CellsIn.seg {cur : Array Value} {off o n : Nat} {cs : List Value} (h : CellsIn cur off cs) : CellsIn cur (off + o) (seg o n cs) := by
  intro j v hj
  have := h _ _ (seg_get hj)
  rwa [← Nat.add_assoc] at this
theorem CellsAt.seg {ad : Addr} {o n : Nat} {cs : List Value} (h : CellsAt w ad cs) : CellsAt w (ad.add o) (seg o n cs) := by
  intro j v hj
  rw [add_add]
  exact h _ _ (seg_get hj)

theorem loadVar_run {td : TD} {t : TypeId} {ad : Addr} {cs : List Value} (hc : chkTD P td t = true) (hl : cs.length = td.size) (h : CellsAt w ad cs) : (loadVar t ad).run P w = .ok (td.valOf cs) w := by
  simp only [loadVar, Sem.run_bind, isAgg_run hc, Result.andThen_ok]
  cases hg : td.isAgg with
  | true =>
    have hr := run_loadCells_list (P := P) (w := w) ad cs h
    simp only [if_true, Sem.run_bind, sizeOf_run hc, Result.andThen_ok, ← hl, hr, Sem.run_pure, TD.valOf, hg]
  | false =>
    have h1 : ∃ v, cs = [v] := by
      have h2 : td.size = 1 := by cases td <;> first | rfl | simp [TD.isAgg] at hg
      rw [h2] at hl
      exact List.length_eq_one_iff.1 hl
    obtain ⟨v, rfl⟩ := h1
    have hv := h 0 v rfl
    simp only [Addr.add, if_true] at hv
    simp only [Bool.false_eq_true, if_false, run_load, hv, TD.valOf, hg]

/-! ### Ok -/
theorem Ok.of_nil {p : PV} (h1 : ids p = []) (h2 : bxs p = []) : Ok st p := ⟨fun r hr => (by rw [h1] at hr; cases hr), fun b hb => (by rw [h2] at hb; cases hb)⟩
theorem idss_get : ∀ {xs : List PV} {i : Nat} {x : PV}, xs[i]? = some x → (∀ r ∈ ids x, r ∈ idss xs) ∧ (∀ b ∈ bxs x, b ∈ bxss xs)
  | y :: ys, 0, x, h => by
    simp only [List.getElem?_cons_zero, Option.some.injEq] at h
    subst h
    exact ⟨fun r hr => by simp [idss, hr], fun b hb => by simp [bxss, hb]⟩
  | y :: ys, i + 1, x, h => by
    simp only [List.getElem?_cons_succ] at h
    have ih := idss_get h
    exact ⟨fun r hr => by simp [idss, ih.1 r hr], fun b hb => by simp [bxss, ih.2 b hb]⟩
  | [], _, _, h => by simp at h
theorem Ok.field {fs : List PV} {i : Nat} {x : PV} (h : Ok st (.agg fs)) (hx : fs[i]? = some x) : Ok st x :=
  ⟨fun r hr => h.1 r (by simpa [ids] using (idss_get hx).1 r hr), fun b hb => h.2 b (by simpa [bxs] using (idss_get hx).2 b hb)⟩
mutual
theorem RC.noIds {X : Nat → Prop} : ∀ {td : TD} {cs : List Value} {p : PV}, RC w X td cs p → ids p = [] ∧ bxs p = []
  | _, _, _, .bool _ => ⟨rfl, rfl⟩
  | _, _, _, .int _ _ => ⟨rfl, rfl⟩
  | _, _, _, .str _ => ⟨rfl, rfl⟩
  | _, _, _, .struct h => by simpa [ids, bxs] using RCs.noIds h
  | _, _, _, .arr _ _ => ⟨rfl, rfl⟩
  | _, _, _, .slnil => ⟨rfl, rfl⟩
  | _, _, _, .sl .. => ⟨rfl, rfl⟩
  | _, _, _, .mapnil => ⟨rfl, rfl⟩
  | _, _, _, .map .. => ⟨rfl, rfl⟩
  | _, _, _, .fn _ => ⟨rfl, rfl⟩
  | _, _, _, .nilfn => ⟨rfl, rfl⟩
  | _, _, _, .nilptr => ⟨rfl, rfl⟩
theorem RCs.noIds {X : Nat → Prop} : ∀ {fs : List TD} {cs : List Value} {ps : List PV}, RCs w X fs cs ps → idss ps = [] ∧ bxss ps = []
  | _, _, _, .nil => ⟨rfl, rfl⟩
  | _, _, _, .cons h hs => by
    have a := RC.noIds h
    have b := RCs.noIds hs
    simp [idss, bxss, a.1, a.2, b.1, b.2]
end
theorem RC.ok {X : Nat → Prop} {td : TD} {cs : List Value} {p : PV} (h : RC w X td cs p) : Ok st p := Ok.of_nil h.noIds.1 h.noIds.2
theorem Ok.at {p q : PV} {path : List Nat} {td : TD} {cs : List Value} : RT w E td cs p → Ok st p → getAt p path = some q → Ok st q := by
  induction path generalizing p td cs with
  | nil =>
    intro _ h hq
    have : p = q := by cases p <;> simpa [getAt] using hq
    rwa [← this]
  | cons i path ih =>
    intro hr h hq
    cases p with
    | agg fs =>
      obtain ⟨fs', rfl, hs⟩ := hr.fields (fs := [])
      simp only [getAt] at hq
      split at hq
      · rename_i y hy
        have hf : ∃ t o, TD.field fs' i = some (t, o) := by
          have : ∀ {fs' : List TD} {cs : List Value} {fs : List PV} {i : Nat} {y : PV}, RTs w E fs' cs fs → fs[i]? = some y → ∃ t o, TD.field fs' i = some (t, o) := by
            intro fs' cs fs i
            induction i generalizing fs' cs fs with
            | zero =>
              intro y h hy
              cases h with
              | nil => simp at hy
              | cons h hs => exact ⟨_, _, rfl⟩
            | succ i ih =>
              intro y h hy
              cases h with
              | nil => simp at hy
              | cons h hs =>
                obtain ⟨t, o, e⟩ := ih hs (by simpa using hy)
                exact ⟨t, _, by simp only [TD.field, e]; rfl⟩
          exact this hs hy
        obtain ⟨t, o, hf⟩ := hf
        exact ih (hs.get hf hy).2 (h.field hy) hq
      · cases hq
    | arr xs =>
      obtain ⟨n, e, rfl, hn, hs⟩ := hr.array
      simp only [getAt] at hq
      split at hq
      · rename_i y hy
        have := (hs.get hy).2
        exact ih (.imm this) this.ok hq
      · cases hq
    | _ => simp [getAt] at hq
theorem Ok.bool {b : Bool} : Ok st (.bool b) := Ok.of_nil rfl rfl
theorem Ok.int {k : IntKind} {n : Int} : Ok st (.int k n) := Ok.of_nil rfl rfl
theorem Ok.str {l : List UInt8} : Ok st (.str l) := Ok.of_nil rfl rfl

/-! ### move, pick -/
theorem move_sound {x : Operand} {y : VA} {td : TD} (h : Rel F st a w E) (ho : o.op = .move x ∨ o.op = .assign x) (hx : argOk F.Γ x y td = true) (hd : dOk F.Γ F.N o.dst td = true) {p : PV} (hp : y.eval st = some p)
    (hst : st.putS o.dst p = some st') (hK : ∀ a' w' E', Rel F st' a' w' E' → K a' w') : o.wp P a w K Q := by
  obtain ⟨hv, hok⟩ := h.arg hx hp
  refine put_sound h hd hst ?_ hv hok hK
  rcases ho with ho | ho <;> simp only [execOp, ho, Sem.run_pure]
theorem pick_sound {c x z : Operand} {c' x' z' : VA} {td : TD} {b : Bool} (h : Rel F st a w E) (ho : o.op = .pick c x z) (hc : argOk F.Γ c c' .bool = true) (hx : argOk F.Γ x x' td = true) (hz : argOk F.Γ z z' td = true)
    (hd : dOk F.Γ F.N o.dst td = true) (hb : c'.eval st = some (.bool b)) {p : PV} (hp : (if b then x' else z').eval st = some p) (hst : st.putS o.dst p = some st') (hK : ∀ a' w' E', Rel F st' a' w' E' → K a' w') : o.wp P a w K Q := by
  obtain ⟨hv, _⟩ := h.arg hc hb
  obtain ⟨hv, _⟩ := hv.bool
  cases b with
  | true =>
    obtain ⟨h1, h2⟩ := h.arg hx hp
    exact put_sound h hd hst (by simp [execOp, ho, hv, asBool]) h1 h2 hK
  | false =>
    obtain ⟨h1, h2⟩ := h.arg hz hp
    exact put_sound h hd hst (by simp [execOp, ho, hv, asBool]) h1 h2 hK
end Go.Vm
end
section
set_option linter.unusedSimpArgs false
set_option linter.unusedVariables false
namespace Go.Vm
variable {P : Program} {F : Fr} {w w' : World} {st st' : St} {a a' : Act} {E E' : Env} {K : Act → World → Prop} {Q : Exit → Act → World → Prop} {o : Oper}

/-- What a slice's value leads to. -/
def SliceAt (w : World) (X : Nat → Prop) (e : TD) (v : Value) (n : Bool) (xs : List PV) : Prop :=
  (n = true ∧ v = .slice none 0 0 ∧ xs = []) ∨
  (n = false ∧ ∃ ad cap, v = .slice (some ad) xs.length cap ∧ xs.length ≤ cap ∧ ∀ (i : Nat) (x : PV), xs[i]? = some x → ∃ cs, CellsAt w (ad.add (i * e.size)) cs ∧ RC w X e cs x)

theorem RegRep.slice {r : RId} {g : Reg} {e : TD} {v : Value} (h : RegRep w E r (.row g)) (hr : E.rb r = some (.row e v)) : SliceAt w E.X e v g.isNil g.xs := by
  rcases h with ⟨h1, h2, e', h3⟩ | ⟨h1, e', ad, cap, h3, h4⟩
  · rw [hr] at h3
    injection h3 with h3
    injection h3 with h3 h5
    exact .inl ⟨h1, h5, h2⟩
  · rw [hr] at h3
    injection h3 with h3
    injection h3 with h3 h5
    subst h3 h5
    rcases h4 with ⟨hf, h6⟩ | ⟨hf, h6⟩
    · obtain ⟨k1, k2, k3, k4, cur, et, k5, k6, cf, k7, k8⟩ := h6
      refine .inr ⟨h1, ad, cap, rfl, k3, fun i x hx => ⟨cf i, ?_, k8 i x hx⟩⟩
      exact CellsAt.of_in k2 k5 (k7 i (List.getElem?_eq_some_iff.1 hx).1)
    · cases h6 with
      | sl hX hl hc cf hcf h => exact .inr ⟨h1, ad, cap, rfl, hc, fun i x hx => ⟨cf i, hcf i (List.getElem?_eq_some_iff.1 hx).1, h i x hx⟩⟩
theorem RC.slice {X : Nat → Prop} {e : TD} {v : Value} {n : Bool} {xs : List PV} (h : RC w X (.slice e) [v] (.sl n xs)) : SliceAt w X e v n xs := by
  cases h with
  | slnil => exact .inl ⟨rfl, rfl, rfl⟩
  | sl hX hl hc cf hcf h =>
    subst hl
    exact .inr ⟨rfl, _, _, rfl, hc, fun i x hx => ⟨cf i, hcf i (List.getElem?_eq_some_iff.1 hx).1, h i x hx⟩⟩
theorem SliceAt.part {X : Nat → Prop} {e : TD} {ad ad' : Addr} {len cap lo hi c : Nat} {n : Bool} {xs : List PV} (h : SliceAt w X e (.slice (some ad) len cap) n xs) (h1 : lo ≤ hi) (h2 : hi ≤ xs.length) (h3 : hi - lo ≤ c)
    (h5 : 0 < c → ad' = ad.add (lo * e.size)) : SliceAt w X e (.slice (some ad') (hi - lo) c) n ((xs.drop lo).take (hi - lo)) := by
  rcases h with ⟨_, h, _⟩ | ⟨hn, ad0, cap0, h, h6, h7⟩
  · cases h
  · injection h with h8 h9 h10
    injection h8 with h8
    subst h8
    have hl : ((xs.drop lo).take (hi - lo)).length = hi - lo := by simp; omega
    refine .inr ⟨hn, ad', c, by rw [hl], by rw [hl]; exact h3, fun i x hx => ?_⟩
    rw [List.getElem?_take] at hx
    split at hx
    · rename_i hi'
      rw [List.getElem?_drop] at hx
      obtain ⟨cs, k1, k2⟩ := h7 _ x hx
      refine ⟨cs, ?_, k2⟩
      rw [h5 (by omega), add_add, ← Nat.add_mul]
      exact k1
    · cases hx

theorem RV.one {td : TD} {v : Value} {p : PV} (h : RV w E td v p) (hg : td.isAgg = false) (hp : p ≠ .undef) (hd : p ≠ .dead) (ht : ∀ ts, td ≠ .tup ts) : RT w E td [v] p := by
  cases h with
  | cells h hv =>
    have hl := h.length
    have h1 : td.size = 1 := by cases td <;> first | rfl | simp [TD.isAgg] at hg
    rw [h1] at hl
    obtain ⟨u, rfl⟩ := List.length_eq_one_iff.1 hl
    have : v = u := by rw [hv]; simp [TD.valOf, hg]
    subst this
    exact h
  | tup h => exact absurd rfl (ht _)
  | undef => exact absurd rfl hp
  | dead => exact absurd rfl hd

theorem RV.int_shape {k : IntKind} {v : Value} {p : PV} (h : RV w E (.int k) v p) : (∃ n, p = .int k n) ∨ p = .undef ∨ p = .dead := by
  cases h with
  | cells h hv => cases h with
    | imm h => cases h; exact .inl ⟨_, rfl⟩
    | dead => exact .inr (.inr rfl)
  | undef => exact .inr (.inl rfl)
  | dead => exact .inr (.inr rfl)
theorem RV.bool_shape {v : Value} {p : PV} (h : RV w E .bool v p) : (∃ n, p = .bool n) ∨ p = .undef ∨ p = .dead := by
  cases h with
  | cells h hv => cases h with
    | imm h => cases h; exact .inl ⟨_, rfl⟩
    | dead => exact .inr (.inr rfl)
  | undef => exact .inr (.inl rfl)
  | dead => exact .inr (.inr rfl)
theorem RV.str_shape {v : Value} {p : PV} (h : RV w E .str v p) : (∃ n, p = .str n) ∨ p = .undef ∨ p = .dead := by
  cases h with
  | cells h hv => cases h with
    | imm h => cases h; exact .inl ⟨_, rfl⟩
    | dead => exact .inr (.inr rfl)
  | undef => exact .inr (.inl rfl)
  | dead => exact .inr (.inr rfl)
theorem RV.slice_shape {e : TD} {v : Value} {p : PV} (h : RV w E (.slice e) v p) : p = .nil ∨ (∃ n xs, p = .sl n xs) ∨ (∃ r, p = .ref r) ∨ (∃ r lo hi, p = .sub r lo hi) ∨ p = .undef ∨ p = .dead := by
  cases h with
  | cells h hv => cases h with
    | imm h => cases h <;> exact .inr (.inl ⟨_, _, rfl⟩)
    | nil => exact .inl rfl
    | ref => exact .inr (.inr (.inl ⟨_, rfl⟩))
    | sub => exact .inr (.inr (.inr (.inl ⟨_, _, _, rfl⟩)))
    | subnil => exact .inr (.inr (.inr (.inl ⟨_, _, _, rfl⟩)))
    | dead => exact .inr (.inr (.inr (.inr (.inr rfl))))
  | undef => exact .inr (.inr (.inr (.inr (.inl rfl))))
  | dead => exact .inr (.inr (.inr (.inr (.inr rfl))))
theorem RV.struct_shape {fs : List TD} {v : Value} {p : PV} (h : RV w E (.struct fs) v p) : (∃ n, p = .agg n) ∨ p = .undef ∨ p = .dead := by
  cases h with
  | cells h hv => cases h with
    | imm h => cases h; exact .inl ⟨_, rfl⟩
    | struct => exact .inl ⟨_, rfl⟩
    | dead => exact .inr (.inr rfl)
  | undef => exact .inr (.inl rfl)
  | dead => exact .inr (.inr rfl)
theorem RV.arr_shape {n : Nat} {e : TD} {v : Value} {p : PV} (h : RV w E (.arr n e) v p) : (∃ n, p = .arr n) ∨ p = .undef ∨ p = .dead := by
  cases h with
  | cells h hv => cases h with
    | imm h => cases h; exact .inl ⟨_, rfl⟩
    | dead => exact .inr (.inr rfl)
  | undef => exact .inr (.inl rfl)
  | dead => exact .inr (.inr rfl)

theorem Rel.content (h : Rel F st a w E) {e : TD} {v : Value} {p : PV} {n : Bool} {xs : List PV} (hv : RV w E (.slice e) v p) (hc : st.content p = some (n, xs)) : SliceAt w E.X e v n xs := by
  unfold St.content at hc
  split at hc
  · simp only [Option.some.injEq, Prod.mk.injEq] at hc
    obtain ⟨rfl, rfl⟩ := hc
    have := hv.one rfl (by simp) (by simp) (by simp)
    cases this with
    | imm h => cases h
    | nil => exact .inl ⟨rfl, rfl, rfl⟩
  · simp only [Option.some.injEq, Prod.mk.injEq] at hc
    obtain ⟨rfl, rfl⟩ := hc
    have := hv.one rfl (by simp) (by simp) (by simp)
    cases this with
    | imm h => exact h.slice
  · rename_i r
    split at hc
    · rename_i g hg
      simp only [Option.some.injEq, Prod.mk.injEq] at hc
      obtain ⟨rfl, rfl⟩ := hc
      have := hv.one rfl (by simp) (by simp) (by simp)
      cases this with
      | imm h => cases h
      | ref hr _ => exact (h.regs _ _ hg).slice hr
    · cases hc
  · rename_i r lo hi
    split at hc
    · rename_i g hg
      split at hc
      · rename_i hb
        simp only [Option.some.injEq, Prod.mk.injEq] at hc
        obtain ⟨rfl, rfl⟩ := hc
        have := hv.one rfl (by simp) (by simp) (by simp)
        cases this with
        | imm h => cases h
        | sub hr h1 h2 h3 h4 h5 h6 => exact ((h.regs _ _ hg).slice hr).part hb.1 hb.2 h3 h5
        | subnil hr =>
          rcases (h.regs _ _ hg).slice hr with ⟨k1, k2, k3⟩ | ⟨k1, ad, cap, k2, _⟩
          · exact .inl ⟨k1, rfl, by simp⟩
          · cases k2
      · cases hc
    · cases hc
  · cases hc

/-! ### load -/
theorem load_sound {x : Operand} {y : VA} {td : TD} {t : TypeId} {C : Nat → List PV → Option (PV × List PV)} (h : Rel F st a w E) (ho : o.op = .load t x) (hc : chkTD P td t = true) (hx : argOk F.Γ x y (.ptr td) = true) (hd : dOk F.Γ F.N o.dst td = true)
    (hst : step C st o.dst (.load y) = some st') (hK : ∀ a' w' E', Rel F st' a' w' E' → K a' w') : o.wp P a w K Q := by
  have run : ∀ {ad : Addr} {cs : List Value}, a.eval x = .pointer (some ad) → cs.length = td.size → CellsAt w ad cs → (execOp a.eval o).run P w = .ok (.value (td.valOf cs)) w := by
    intro ad cs h1 h2 h3
    simp only [execOp, ho, Instr.loadAt, h1, Instr.sureAddr, Sem.run_bind, Sem.run_pure, Result.andThen_ok, loadVar_run hc h2 h3]
  simp only [step] at hst
  split at hst
  · rename_i b p hp
    split at hst
    · rename_i v hv
      split at hst
      · rename_i u hu
        obtain ⟨hv1, hok⟩ := h.arg hx hp
        obtain ⟨t', td0, ad, off, e1, e2, e3, e4⟩ := hv1.ptr
        injection e1 with e1
        subst e1
        obtain ⟨td1, ad1, k1, k2, k3, cur, et, cs, k4, k5, k6⟩ := h.boxes _ _ hv
        rw [e3] at k1
        injection k1 with k1
        injection k1 with k1 k1'
        subst k1 k1'
        have hr := k6.get e4 hu
        refine put_sound h hd hst (run e2 hr.length (CellsAt.of_in k3 k4 k5.seg)) (.cells hr rfl) (Ok.at k6 (h.named.bx _ _ hv) hu) hK
      · cases hst
    · cases hst
  · rename_i r i p hp
    split at hst
    · rename_i g hg
      split at hst
      · rename_i v hv
        split at hst
        · rename_i u hu
          obtain ⟨hv1, hok⟩ := h.arg hx hp
          obtain ⟨t', e, ad, len, cap, off, e1, e2, e3, e4, e5⟩ := hv1.eptr
          injection e1 with e1
          subst e1
          rcases (h.regs _ _ hg).slice e3 with ⟨_, k, _⟩ | ⟨_, ad', cap', k1, k2, k3⟩
          · cases k
          · injection k1 with k1 k1' k1''
            injection k1 with k1
            subst k1
            obtain ⟨cs, m1, m2⟩ := k3 _ _ hv
            have hr := m2.get e5 hu
            have m3 := m1.seg (o := off) (n := td.size)
            rw [add_add] at m3
            exact put_sound h hd hst (run e2 hr.length m3) (.cells (.imm hr) rfl) hr.ok hK
        · cases hst
      · cases hst
    · cases hst
  · rename_i v hp
    obtain ⟨hv1, hok⟩ := h.arg hx hp
    obtain ⟨t', ad, cs, e1, e2, e3, e4, e5⟩ := hv1.rptr
    injection e1 with e1
    subst e1
    exact put_sound h hd hst (run e2 e5.length e4) (.cells (.imm e5) rfl) e5.ok hK
  · cases hst

/-! ### Addresses -/
theorem TD.at_snoc : ∀ {path : List Nat} {td0 : TD} {fs : List TD} {o o' : Nat} {t : TD} {f : Nat}, TD.at td0 path = some (.struct fs, o) → TD.field fs f = some (t, o') → TD.at td0 (path ++ [f]) = some (t, o + o') := by
  intro path
  induction path with
  | nil =>
    intro td0 fs o o' t f h hf
    simp only [TD.at, Option.some.injEq, Prod.mk.injEq] at h
    obtain ⟨rfl, rfl⟩ := h
    simp [TD.at, hf]
  | cons i path ih =>
    intro td0 fs o o' t f h hf
    cases td0 with
    | struct gs =>
      simp only [TD.at] at h
      split at h
      · rename_i t1 o1 h1
        split at h
        · rename_i t2 o2 h2
          simp only [Option.some.injEq, Prod.mk.injEq] at h
          obtain ⟨rfl, rfl⟩ := h
          simp only [List.cons_append, TD.at, h1, ih h2 hf, Nat.add_assoc]
        · cases h
      · cases h
    | arr n e =>
      simp only [TD.at] at h
      split at h
      · rename_i hi
        split at h
        · rename_i t2 o2 h2
          simp only [Option.some.injEq, Prod.mk.injEq] at h
          obtain ⟨rfl, rfl⟩ := h
          simp only [List.cons_append, TD.at, if_pos hi, ih h2 hf, Nat.add_assoc]
        · cases h
      · cases h
    | _ => simp [TD.at] at h
theorem TD.at_snoc_arr : ∀ {path : List Nat} {td0 e : TD} {o n i : Nat}, TD.at td0 path = some (.arr n e, o) → i < n → TD.at td0 (path ++ [i]) = some (e, o + i * e.size) := by
  intro path
  induction path with
  | nil =>
    intro td0 e o n i h hi
    simp only [TD.at, Option.some.injEq, Prod.mk.injEq] at h
    obtain ⟨rfl, rfl⟩ := h
    simp [TD.at, hi]
  | cons j path ih =>
    intro td0 e o n i h hi
    cases td0 with
    | struct gs =>
      simp only [TD.at] at h
      split at h
      · rename_i t1 o1 h1
        split at h
        · rename_i t2 o2 h2
          simp only [Option.some.injEq, Prod.mk.injEq] at h
          obtain ⟨rfl, rfl⟩ := h
          simp only [List.cons_append, TD.at, h1, ih h2 hi, Nat.add_assoc]
        · cases h
      · cases h
    | arr m e' =>
      simp only [TD.at] at h
      split at h
      · rename_i hj
        split at h
        · rename_i t2 o2 h2
          simp only [Option.some.injEq, Prod.mk.injEq] at h
          obtain ⟨rfl, rfl⟩ := h
          simp only [List.cons_append, TD.at, if_pos hj, ih h2 hi, Nat.add_assoc]
        · cases h
      · cases h
    | _ => simp [TD.at] at h

theorem fieldAt_run {fs : List TD} {t : TypeId} {f : Nat} {td : TD} {off : Nat} {ad : Addr} (hc : chkTD P (.struct fs) t = true) (hf : TD.field fs f = some (td, off)) :
    (Instr.fieldAt t (.pointer (some ad)) f).run P w = .ok (.pointer (some (ad.add off))) w := by
  obtain ⟨fields, hu, hc⟩ := chkTD.struct hc
  obtain ⟨g, h1, h2, h3, h4⟩ := chkFs.get hc hf
  have h1 : fields[f]? = some g := by rw [← Array.getElem?_toList]; exact h1
  have hz : ¬ td.size = 0 := by omega
  simp only [Instr.fieldAt, Sem.run_bind, run_underlying hu, Result.andThen_ok, h1, Instr.sureAddr, Sem.run_pure, fieldPlace, sizeOf_run h4, if_neg hz, h2, Nat.zero_add]

theorem fieldAddr_sound {x : Operand} {y : VA} {fs : List TD} {td : TD} {off : Nat} {t : TypeId} {f : Nat} {C : Nat → List PV → Option (PV × List PV)} (h : Rel F st a w E) (ho : o.op = .fieldAddr t x f) (hc : chkTD P (.struct fs) t = true)
    (hf : TD.field fs f = some (td, off)) (hx : argOk F.Γ x y (.ptr (.struct fs)) = true) (hd : dOk F.Γ F.N o.dst (.ptr td) = true)
    (hst : step C st o.dst (.fieldAddr y f) = some st') (hK : ∀ a' w' E', Rel F st' a' w' E' → K a' w') : o.wp P a w K Q := by
  have run : ∀ {ad : Addr}, a.eval x = .pointer (some ad) → (execOp a.eval o).run P w = .ok (.value (.pointer (some (ad.add off)))) w := by
    intro ad h1
    simp only [execOp, ho, h1, Sem.run_bind, fieldAt_run hc hf, Result.andThen_ok, Sem.run_pure]
  simp only [step] at hst
  split at hst
  · rename_i b p hp
    obtain ⟨hv1, hok⟩ := h.arg hx hp
    obtain ⟨t', td0, ad, o1, e1, e2, e3, e4⟩ := hv1.ptr
    injection e1 with e1
    subst e1
    have hrun := run e2
    rw [add_add] at hrun
    exact put_sound h hd hst hrun (.cells (.ptr e3 (TD.at_snoc e4 hf)) rfl) ⟨by simp [ids], fun b hb => hok.2 b (by simpa [bxs] using hb)⟩ hK
  · rename_i r i p hp
    obtain ⟨hv1, hok⟩ := h.arg hx hp
    obtain ⟨t', e, ad, len, cap, o1, e1, e2, e3, e4, e5⟩ := hv1.eptr
    injection e1 with e1
    subst e1
    have hrun := run e2
    rw [add_add, Nat.add_assoc] at hrun
    exact put_sound h hd hst hrun (.cells (.eptr e3 e4 (TD.at_snoc e5 hf)) rfl) ⟨fun r hr => hok.1 r (by simpa [ids] using hr), by simp [bxs]⟩ hK
  · rename_i gs hp
    split at hst
    · rename_i v hv
      obtain ⟨hv1, hok⟩ := h.arg hx hp
      obtain ⟨t', ad, cs, e1, e2, e3, e4, e5⟩ := hv1.rptr
      injection e1 with e1
      subst e1
      cases e5 with
      | struct e5 =>
        have hg := e5.get hf hv
        exact put_sound h hd hst (run e2) (.cells (.rptr (by rw [add_block]; exact e3) e4.seg hg.2) rfl) (Ok.of_nil rfl rfl) hK
    · cases hst
  · cases hst

theorem elem_size {e : TD} {te : TypeId} (h : chkTD P e te = true) : (sizeOf te).run P w = .ok e.size w := sizeOf_run h
theorem index_slice_run {e : TD} {t : TypeId} {ad : Addr} {len cap : Nat} {k : IntKind} {i : Int} (hc : chkTD P (.slice e) t = true) (h0 : 0 ≤ i) (h1 : i < len) :
    (Instr.indexAt t (.slice (some ad) len cap) (.int k i)).run P w = .ok (.pointer (some (ad.add (i.toNat * e.size)))) w := by
  obtain ⟨te, hu, hce⟩ := chkTD.slice hc
  simp only [Instr.indexAt, asIntOf, Sem.run_bind, Sem.run_pure, Result.andThen_ok, run_underlying hu, Bool.and_false, h0, h1, and_self, if_true, sizeOf_run hce]
theorem index_array_run {e : TD} {t : TypeId} {ad : Addr} {n : Nat} {k : IntKind} {i : Int} (hc : chkTD P (.arr n e) t = true) (h0 : 0 ≤ i) (h1 : i < n) :
    (Instr.indexAt t (.pointer (some ad)) (.int k i)).run P w = .ok (.pointer (some (ad.add (i.toNat * e.size)))) w := by
  obtain ⟨te, hu, hce⟩ := chkTD.arr hc
  simp only [Instr.indexAt, asIntOf, Sem.run_bind, Sem.run_pure, Result.andThen_ok, run_underlying hu, Instr.sureAddr, h0, h1, and_self, if_true, sizeOf_run hce]

theorem RT.arr_len {n : Nat} {e : TD} {cs : List Value} {xs : List PV} (h : RT w E (.arr n e) cs (.arr xs)) : xs.length = n := by
  obtain ⟨n', e', h1, h2, _⟩ := h.array
  injection h1 with h1
  omega
theorem RT.arr_ty {td : TD} {cs : List Value} {xs : List PV} {n : Nat} {e : TD} (h : RT w E td cs (.arr xs)) (ht : td = .arr n e) : xs.length = n := by subst ht; exact h.arr_len

/-- What 'x[i]' asks of its index. -/
def idxOk (Γ : Nat → TD) (x : Operand) (y : VA) : Bool :=
  match x, y with
  | .tmp n, .s m => decide (n = m) && (match Γ n with | .int _ => true | _ => false)
  | .const (.int k n), .c (.int j m) => decide (k = j) && decide (n = m)
  | _, _ => false
theorem Rel.idx (h : Rel F st a w E) {x : Operand} {y : VA} {k : IntKind} {i : Int} (hx : idxOk F.Γ x y = true) (hy : y.eval st = some (.int k i)) : a.eval x = .int k i := by
  unfold idxOk at hx
  split at hx
  · rename_i n m
    simp only [Bool.and_eq_true, decide_eq_true_eq] at hx
    obtain ⟨rfl, h2⟩ := hx
    obtain ⟨v, hv, hr⟩ := h.slots _ _ hy
    simp only [Act.eval, Array.getD_eq_getD_getElem?, hv, Option.getD_some]
    exact hr.int.1
  · simp only [Bool.and_eq_true, decide_eq_true_eq] at hx
    simp only [VA.eval, Option.some.injEq, PV.int.injEq] at hy
    obtain ⟨rfl, rfl⟩ := hx
    obtain ⟨rfl, rfl⟩ := hy
    rfl
  · cases hx

theorem indexAddr_slice_sound {x i : Operand} {y j : VA} {e : TD} {t : TypeId} {C : Nat → List PV → Option (PV × List PV)} (h : Rel F st a w E) (ho : o.op = .indexAddr t x i) (hc : chkTD P (.slice e) t = true)
    (hx : argOk F.Γ x y (.slice e) = true) (hi : idxOk F.Γ i j = true) (hd : dOk F.Γ F.N o.dst (.ptr e) = true)
    (hst : step C st o.dst (.indexAddr y j) = some st') (hK : ∀ a' w' E', Rel F st' a' w' E' → K a' w') : o.wp P a w K Q := by
  simp only [step] at hst
  split at hst
  · rename_i u k n hu hn
    split at hst
    · rename_i h0
      obtain ⟨hv, hok⟩ := h.arg hx hu
      have hiv := h.idx hi hn
      generalize hav : a.eval x = av at hv
      have run : ∀ {ad : Addr} {len cap : Nat}, a.eval x = .slice (some ad) len cap → n < len → (execOp a.eval o).run P w = .ok (.value (.pointer (some (ad.add (n.toNat * e.size))))) w := by
        intro ad len cap h1 h2
        simp only [execOp, ho, h1, hiv, Sem.run_bind, index_slice_run hc h0 h2, Result.andThen_ok, Sem.run_pure]
      split at hst
      · exact absurd hv.ptr (by rintro ⟨_, _, _, _, e1, _⟩; cases e1)
      · exact absurd hv.eptr (by rintro ⟨_, _, _, _, _, _, e1, _⟩; cases e1)
      · exact absurd hv.rptr (by rintro ⟨_, _, _, e1, _⟩; cases e1)
      · rename_i b xs
        split at hst
        · rename_i v hxv
          have hr := hv.one rfl (by simp) (by simp) (by simp)
          cases hr with
          | imm hr =>
            cases hr with
            | slnil => simp at hxv
            | sl hX hl hc' cf hcf hcs =>
              have hlt := (List.getElem?_eq_some_iff.1 hxv).1
              refine put_sound h hd hst (run hav (by omega)) (.cells (.rptr ?_ (hcf _ hlt) (hcs _ _ hxv)) rfl) (Ok.of_nil rfl rfl) hK
              rw [add_block]
              exact hX (by omega)
        · cases hst
      · rename_i r
        split at hst
        · rename_i g hg
          split at hst
          · rename_i hlt
            have hr := hv.one rfl (by simp) (by simp) (by simp)
            cases hr with
            | imm hr => cases hr
            | ref hr h1c =>
              rcases (h.regs _ _ hg).slice hr with ⟨_, k1, k2⟩ | ⟨_, ad, cap, k1, k2, k3⟩
              · rw [k2] at hlt; simp at hlt; omega
              · refine put_sound h hd hst (run (hav.trans k1) hlt) (.cells (cs := [_]) ?_ rfl) ⟨fun q hq => hok.1 q (by simpa [ids] using hq), by simp [bxs]⟩ hK
                rw [k1] at hr
                have := RT.eptr (w := w) (E := E) (path := []) (i := n.toNat) (td := e) (off := 0) hr (by omega) rfl
                simpa using this
          · cases hst
        · cases hst
      · rename_i r lo hi'
        split at hst
        · rename_i g hg
          split at hst
          · rename_i hlt
            have hr := hv.one rfl (by simp) (by simp) (by simp)
            cases hr with
            | imm hr => cases hr
            | sub hr h1 h2 h3 h4 h5 h6 =>
              rcases (h.regs _ _ hg).slice hr with ⟨_, k1, k2⟩ | ⟨_, ad, cap, k1, k2, k3⟩
              · cases k1
              · injection k1 with k1 k1' k1''
                injection k1 with k1
                subst k1 k1' k1''
                have hrun := run hav (by omega)
                rw [h5 (by omega), add_add, ← Nat.add_mul] at hrun
                refine put_sound h hd hst hrun (.cells (cs := [_]) ?_ rfl) ⟨fun q hq => hok.1 q (by simpa [ids] using hq), by simp [bxs]⟩ hK
                have := RT.eptr (w := w) (E := E) (path := []) (i := lo + n.toNat) (td := e) (off := 0) hr (by omega) rfl
                simpa using this
            | subnil hr => omega
          · cases hst
        · cases hst
      · cases hst
    · cases hst
  · cases hst
theorem indexAddr_array_sound {x i : Operand} {y j : VA} {e : TD} {m : Nat} {t : TypeId} {C : Nat → List PV → Option (PV × List PV)} (h : Rel F st a w E) (ho : o.op = .indexAddr t x i) (hc : chkTD P (.arr m e) t = true)
    (hx : argOk F.Γ x y (.ptr (.arr m e)) = true) (hi : idxOk F.Γ i j = true) (hd : dOk F.Γ F.N o.dst (.ptr e) = true)
    (hst : step C st o.dst (.indexAddr y j) = some st') (hK : ∀ a' w' E', Rel F st' a' w' E' → K a' w') : o.wp P a w K Q := by
  simp only [step] at hst
  split at hst
  · rename_i u k n hu hn
    split at hst
    · rename_i h0
      obtain ⟨hv, hok⟩ := h.arg hx hu
      have hiv := h.idx hi hn
      generalize hav : a.eval x = av at hv
      have run : ∀ {ad : Addr}, a.eval x = .pointer (some ad) → n < m → (execOp a.eval o).run P w = .ok (.value (.pointer (some (ad.add (n.toNat * e.size))))) w := by
        intro ad h1 h2
        simp only [execOp, ho, h1, hiv, Sem.run_bind, index_array_run hc h0 h2, Result.andThen_ok, Sem.run_pure]
      split at hst
      · rename_i b p
        split at hst
        · rename_i xs hxs
          split at hst
          · rename_i hlt
            obtain ⟨t', td0, ad, off, e1, e2, e3, e4⟩ := hv.ptr
            injection e1 with e1
            subst e1
            have hlen : xs.length = m := by
              split at hxs
              · rename_i v hbv
                obtain ⟨td1, ad1, k1, k2, k3, cur, et, cs, k4, k5, k6⟩ := h.boxes _ _ hbv
                rw [e3] at k1
                injection k1 with k1
                injection k1 with k1 k1'
                subst k1 k1'
                exact (k6.get e4 hxs).arr_len
              · cases hxs
            have hrun := run (hav.trans e2) (by omega)
            rw [add_add] at hrun
            exact put_sound h hd hst hrun (.cells (.ptr e3 (TD.at_snoc_arr e4 (by omega))) rfl) ⟨by simp [ids], fun b hb => hok.2 b (by simpa [bxs] using hb)⟩ hK
          · cases hst
        · cases hst
      · rename_i r l p
        split at hst
        · rename_i xs hxs
          split at hst
          · rename_i hlt
            obtain ⟨t', e', ad, len, cap, off, e1, e2, e3, e4, e5⟩ := hv.eptr
            injection e1 with e1
            subst e1
            have hlen : xs.length = m := by
              split at hxs
              · rename_i g hg
                split at hxs
                · rename_i v hbv
                  rcases (h.regs _ _ hg).slice e3 with ⟨_, k1, k2⟩ | ⟨_, ad', cap', k1, k2, k3⟩
                  · cases k1
                  · obtain ⟨cs, m1, m2⟩ := k3 _ _ hbv
                    have hr := RT.imm (E := E) (m2.get e5 hxs)
                    exact hr.arr_len
                · cases hxs
              · cases hxs
            have hrun := run (hav.trans e2) (by omega)
            rw [add_add, Nat.add_assoc] at hrun
            exact put_sound h hd hst hrun (.cells (.eptr e3 e4 (TD.at_snoc_arr e5 (by omega))) rfl) ⟨fun q hq => hok.1 q (by simpa [ids] using hq), by simp [bxs]⟩ hK
          · cases hst
        · cases hst
      · rename_i xs
        split at hst
        · rename_i v hxv
          obtain ⟨t', ad, cs, e1, e2, e3, e4, e5⟩ := hv.rptr
          injection e1 with e1
          subst e1
          cases e5 with
          | arr hn' e5 =>
            have hg := e5.get hxv
            have hlt := (List.getElem?_eq_some_iff.1 hxv).1
            exact put_sound h hd hst (run (hav.trans e2) (by omega)) (.cells (.rptr (by rw [add_block]; exact e3) e4.seg hg.2) rfl) (Ok.of_nil rfl rfl) hK
        · cases hst
      · have hr := hv.one rfl (by simp) (by simp) (by simp)
        cases hr with
        | imm hr => cases hr
      · have hr := hv.one rfl (by simp) (by simp) (by simp)
        cases hr with
        | imm hr => cases hr
      · have hr := hv.one rfl (by simp) (by simp) (by simp)
        cases hr with
        | imm hr => cases hr
      · cases hst
    · cases hst
  · cases hst
end Go.Vm
end
section
set_option linter.unusedSimpArgs false
set_option linter.unusedVariables false
namespace Go.Vm
variable {P : Program} {F : Fr} {w w' : World} {st st' : St} {a a' : Act} {E E' : Env} {K : Act → World → Prop} {Q : Exit → Act → World → Prop} {o : Oper} {C : Nat → List PV → Option (PV × List PV)}

theorem str_get (l : List UInt8) (i : Nat) : (⟨l.toArray⟩ : ByteArray)[i]? = l[i]? := by
  by_cases h : i < l.length
  · have h' : i < (⟨l.toArray⟩ : ByteArray).size := by simpa [ByteArray.size] using h
    rw [getElem?_pos _ i h', List.getElem?_eq_getElem h]
    rfl
  · have h' : ¬ i < (⟨l.toArray⟩ : ByteArray).size := by simpa [ByteArray.size] using h
    rw [getElem?_neg _ i h', List.getElem?_eq_none (by omega)]

theorem index_str_sound {x i : Operand} {y j : VA} {t : TypeId} (h : Rel F st a w E) (ho : o.op = .index t x i) (hc : chkTD P .str t = true)
    (hx : argOk F.Γ x y .str = true) (hi : idxOk F.Γ i j = true) (hd : dOk F.Γ F.N o.dst (.int .u8) = true)
    (hst : step C st o.dst (.index y j) = some st') (hK : ∀ a' w' E', Rel F st' a' w' E' → K a' w') : o.wp P a w K Q := by
  simp only [step] at hst
  split at hst
  · rename_i s k n hu hn
    split at hst
    · rename_i h0
      split at hst
      · rename_i c hc'
        obtain ⟨hv, _⟩ := h.arg hx hu
        have hiv := h.idx hi hn
        have hs := hv.str.1
        refine put_sound (v := .int .u8 (c.toNat : Int)) h hd hst ?_ (.cells (cs := [_]) (.imm (.int _ _)) rfl) .int hK
        have hg := str_get s n.toNat
        rw [hc'] at hg
        simp [execOp, ho, Instr.index, hs, hiv, asIntOf, run_underlying (chkTD.str hc), h0, hg]
      · cases hst
    · cases hst
  · rename_i xs k n hu hn
    obtain ⟨hv, _⟩ := h.arg hx hu
    rcases hv.str_shape with ⟨_, e⟩ | e | e <;> cases e
  · cases hst
theorem index_arr_sound {x i : Operand} {y j : VA} {e : TD} {m : Nat} {t : TypeId} (h : Rel F st a w E) (ho : o.op = .index t x i) (hc : chkTD P (.arr m e) t = true)
    (hx : argOk F.Γ x y (.arr m e) = true) (hi : idxOk F.Γ i j = true) (hd : dOk F.Γ F.N o.dst e = true)
    (hst : step C st o.dst (.index y j) = some st') (hK : ∀ a' w' E', Rel F st' a' w' E' → K a' w') : o.wp P a w K Q := by
  simp only [step] at hst
  split at hst
  · rename_i s k n hu hn
    obtain ⟨hv, _⟩ := h.arg hx hu
    exact absurd hv.str.2 (by simp)
  · rename_i xs k n hu hn
    split at hst
    · rename_i h0
      split at hst
      · rename_i u hxu
        obtain ⟨hv, _⟩ := h.arg hx hu
        have hiv := h.idx hi hn
        generalize hav : a.eval x = av at hv
        cases hv with
        | cells hr hv =>
          obtain ⟨m', e', e1, e2, e3⟩ := hr.array
          injection e1 with e1 e1'
          subst e1 e1'
          obtain ⟨te, hu', hce⟩ := chkTD.arr hc
          have hg := e3.get hxu
          have hlt := (List.getElem?_eq_some_iff.1 hxu).1
          have hpr := part_run (P := P) (w := w) (td := e) (t := te) (cs := (‹List Value› : List Value).toArray) (off := n.toNat * e.size) hce (by simpa using hg.1)
          simp only [TD.valOf, TD.isAgg, if_true] at hv
          refine put_sound h hd hst ?_ (.cells (.imm hg.2) rfl) hg.2.ok hK
          simp only [execOp, ho, Instr.index, hav, hv, hiv, asIntOf, Sem.run_bind, Sem.run_pure, Result.andThen_ok, run_underlying hu', h0, show n < (m : Int) from by omega, and_self, if_true, sizeOf_run hce, hpr]
      · cases hst
    · cases hst
  · cases hst
theorem field_sound {x : Operand} {y : VA} {fs : List TD} {td : TD} {off : Nat} {t : TypeId} {f : Nat} (h : Rel F st a w E) (ho : o.op = .field t x f) (hc : chkTD P (.struct fs) t = true) (hf : TD.field fs f = some (td, off))
    (hx : argOk F.Γ x y (.struct fs) = true) (hd : dOk F.Γ F.N o.dst td = true)
    (hst : step C st o.dst (.field y f) = some st') (hK : ∀ a' w' E', Rel F st' a' w' E' → K a' w') : o.wp P a w K Q := by
  simp only [step] at hst
  split at hst
  · rename_i gs hu
    split at hst
    · rename_i v hv'
      obtain ⟨hv, hok⟩ := h.arg hx hu
      generalize hav : a.eval x = av at hv
      cases hv with
      | cells hr hv =>
        obtain ⟨fs', e1, e2⟩ := hr.fields (fs := [])
        injection e1 with e1
        subst e1
        obtain ⟨fields, hu', hcf⟩ := chkTD.struct hc
        obtain ⟨g, g1, g2, g3, g4⟩ := chkFs.get hcf hf
        have g1 : fields[f]? = some g := by rw [← Array.getElem?_toList]; exact g1
        have hg := e2.get hf hv'
        have hpr := part_run (P := P) (w := w) (td := td) (t := g.type) (cs := (‹List Value› : List Value).toArray) (off := off) g4 (by simpa using hg.1)
        simp only [TD.valOf, TD.isAgg, if_true] at hv
        refine put_sound h hd hst ?_ (.cells hg.2 rfl) (hok.field hv') hK
        simp only [execOp, ho, Instr.field, hav, hv, asAgg, Sem.run_bind, Sem.run_pure, Result.andThen_ok, run_underlying hu', g1, g2, Nat.zero_add, hpr]
    · cases hst
  · cases hst
theorem RVs.get : ∀ {ts : List TD} {vs : List Value} {ps : List PV} {i : Nat} {q : PV}, RVs w E ts vs ps → ps[i]? = some q → ∃ t v, ts[i]? = some t ∧ vs[i]? = some v ∧ RV w E t v q
  | _, _, _, 0, _, .cons h hs, hq => by
    simp only [List.getElem?_cons_zero, Option.some.injEq] at hq
    subst hq
    exact ⟨_, _, rfl, rfl, h⟩
  | _, _, _, i + 1, _, .cons h hs, hq => by
    simp only [List.getElem?_cons_succ] at hq ⊢
    exact RVs.get hs hq
  | _, _, _, _, _, .nil, hq => by simp at hq
theorem extract_sound {x : Operand} {y : VA} {ts : List TD} {td : TD} {i : Nat} (h : Rel F st a w E) (ho : o.op = .extract x i) (hi : ts[i]? = some td)
    (hx : argOk F.Γ x y (.tup ts) = true) (hd : dOk F.Γ F.N o.dst td = true)
    (hst : step C st o.dst (.extract y i) = some st') (hK : ∀ a' w' E', Rel F st' a' w' E' → K a' w') : o.wp P a w K Q := by
  simp only [step] at hst
  split at hst
  · rename_i gs hu
    split at hst
    · rename_i v hv'
      obtain ⟨hv, hok⟩ := h.arg hx hu
      generalize hav : a.eval x = av at hv
      cases hv with
      | cells hr hv =>
        obtain ⟨fs', e1, e2⟩ := hr.fields (fs := [])
        cases e1
      | tup hs =>
        obtain ⟨t, u, h1, h2, h3⟩ := hs.get hv'
        rw [hi] at h1
        injection h1 with h1
        subst h1
        refine put_sound h hd hst ?_ h3 (hok.field hv') hK
        simp [execOp, ho, hav, Instr.extract, h2]
    · cases hst
  · cases hst
theorem nilCheck_sound {x : Operand} {y : VA} {td : TD} (h : Rel F st a w E) (ho : o.op = .nilCheck x) (hx : argOk F.Γ x y td = true) (hd : dOk F.Γ F.N o.dst td = true)
    (hst : step C st o.dst (.nilCheck y) = some st') (hK : ∀ a' w' E', Rel F st' a' w' E' → K a' w') : o.wp P a w K Q := by
  have run : ∀ {ad : Addr}, a.eval x = .pointer (some ad) → (execOp a.eval o).run P w = .ok (.value (a.eval x)) w := by
    intro ad h1
    simp only [execOp, ho, h1, Sem.run_pure]
  simp only [step] at hst
  split at hst
  · rename_i b p hu
    obtain ⟨hv, hok⟩ := h.arg hx hu
    obtain ⟨_, _, _, _, e1, e2, _⟩ := hv.ptr
    exact put_sound h hd hst (run e2) hv hok hK
  · rename_i r i p hu
    obtain ⟨hv, hok⟩ := h.arg hx hu
    obtain ⟨_, _, _, _, _, _, e1, e2, _⟩ := hv.eptr
    exact put_sound h hd hst (run e2) hv hok hK
  · rename_i v hu
    obtain ⟨hv, hok⟩ := h.arg hx hu
    obtain ⟨_, _, _, e1, e2, _⟩ := hv.rptr
    exact put_sound h hd hst (run e2) hv hok hK
  · cases hst

/-! ### Arithmetic -/
theorem sv_rv {k : IntKind} {n : Int} : RV w E (.int k) (sv (.int k n)) (.int k n) := .cells (cs := [_]) (.imm (.int _ _)) rfl
theorem svb_rv {b : Bool} : RV w E .bool (sv (.bool b)) (.bool b) := .cells (cs := [_]) (.imm (.bool _)) rfl
theorem svs_rv {l : List UInt8} : RV w E .str (sv (.str l)) (.str l) := .cells (cs := [_]) (.imm (.str _)) rfl
/-- The type of what an operation on two values of a type gives. -/
def binTD (op : BinOp) (td : TD) : TD :=
  match op with
  | .eql | .neq | .lss | .leq | .gtr | .geq => .bool
  | _ => td
theorem binInt_rv {op : BinOp} {k : IntKind} {m n : Int} {r : PV} (h : binInt op k m n = some r) : RV w E (binTD op (.int k)) (sv r) r ∧ Ok st r := by
  cases op <;> simp only [binInt, Option.some.injEq, reduceCtorEq] at h <;>
    first
    | (subst h; exact ⟨sv_rv, .int⟩)
    | (subst h; exact ⟨svb_rv, .bool⟩)
    | (split at h
       · cases h
       · simp only [Option.some.injEq] at h
         subst h
         exact ⟨sv_rv, .int⟩)
theorem shiftInt_rv {op : BinOp} {k : IntKind} {m n : Int} {r : PV} (h : shiftInt op k m n = some r) : RV w E (binTD op (.int k)) (sv r) r ∧ Ok st r := by
  unfold shiftInt at h
  split at h
  · cases h
  · cases op <;> simp only [Option.some.injEq, reduceCtorEq] at h <;> subst h <;> exact ⟨sv_rv, .int⟩
theorem binStr_rv {op : BinOp} {m n : List UInt8} {r : PV} (h : binStr op m n = some r) : RV w E (binTD op .str) (sv r) r ∧ Ok st r := by
  cases op <;> simp only [binStr, Option.some.injEq, reduceCtorEq] at h
  case add =>
    split at h
    · simp only [Option.some.injEq] at h
      subst h
      exact ⟨svs_rv, .str⟩
    · cases h
  all_goals
    subst h
    exact ⟨svb_rv, .bool⟩

theorem eqGuard_run {op : BinOp} {t : TypeId} {x y : Operand} {u v : Value} (h : (∀ cs ds, u = .agg cs → v = .agg ds → P.eqGuardType P.depth t = false) ∧ (u ≠ .nilIface ∨ v ≠ .nilIface)) :
    (eqGuard op t x y u v).run P w = .ok () w := by
  have h2 : (match u, v with
        | .nilIface, .nilIface => False
        | _, _ => True) := by
    cases u with
    | nilIface => cases v with
      | nilIface => rcases h.2 with h | h <;> exact absurd rfl h
      | _ => trivial
    | _ => trivial
  cases op <;> first
    | (simp only [eqGuard, Bool.not_false, if_true, Sem.run_pure]; done)
    | skip
  all_goals
    simp only [eqGuard, Bool.not_true, Bool.false_eq_true, if_false]
    split
    · exact h2.elim
    · have h1 := h.1 _ _ rfl rfl
      simp [h1]
    · simp

/-- What '==' and its like ask of a type. -/
def chkBin (P : Program) (op : BinOp) (td : TD) (t : TypeId) : Bool :=
  match td with
  | .int _ | .str => true
  | .bool => match op with | .eql | .neq => true | _ => false
  | .slice _ => match op with | .eql | .neq => true | _ => false
  | .struct _ | .arr _ _ => (match op with | .eql | .neq => true | _ => false) && chkEq P td t && decide (td.dep < 10000) && !P.eqGuardType P.depth t
  | _ => false

theorem bin_exec {op : BinOp} {t t' : TypeId} {x y : Operand} {r : Value} (ho : o.op = .binOp op t x y t')
    (hg : (∀ cs ds, a.eval x = .agg cs → a.eval y = .agg ds → P.eqGuardType P.depth t = false) ∧ (a.eval x ≠ .nilIface ∨ a.eval y ≠ .nilIface)) (h : (Go.binOp op t (a.eval x) (a.eval y)).run P w = .ok r w) :
    (execOp a.eval o).run P w = .ok (.value r) w := by
  simp only [execOp, ho, Sem.run_bind, eqGuard_run hg, Result.andThen_ok, h, Sem.run_pure]

theorem shift_sound {op : BinOp} {x i : Operand} {y j : VA} {k : IntKind} {t t' : TypeId} (h : Rel F st a w E) (ho : o.op = .binOp op t x i t') (hop : op = .shl ∨ op = .shr)
    (hx : argOk F.Γ x y (.int k) = true) (hi : idxOk F.Γ i j = true) (hd : dOk F.Γ F.N o.dst (.int k) = true)
    (hst : step C st o.dst (.bin op y j) = some st') (hK : ∀ a' w' E', Rel F st' a' w' E' → K a' w') : o.wp P a w K Q := by
  simp only [step] at hst
  split at hst
  · rename_i u v hu hv
    split at hst
    · rename_i r hr
      obtain ⟨hxv, _⟩ := h.arg hx hu
      have : ∃ m j' n, u = .int k m ∧ v = .int j' n ∧ shiftInt op k m n = some r := by
        rcases hxv.int_shape with ⟨m, rfl⟩ | rfl | rfl
        · cases v <;> simp only [binOpS, binOp, reduceCtorEq] at hr
          rcases hop with rfl | rfl <;> exact ⟨_, _, _, rfl, rfl, hr⟩
        · cases v <;> simp [binOpS, binOp] at hr
        · cases v <;> simp [binOpS, binOp] at hr
      obtain ⟨m, j', n, rfl, rfl, hs⟩ := this
      have e1 := hxv.int.1
      have e2 := h.idx hi hv
      have hrv := shiftInt_rv (w := w) (E := E) (st := st) hs
      have hb : binTD op (.int k) = .int k := by rcases hop with rfl | rfl <;> rfl
      rw [hb] at hrv
      exact put_sound h hd hst (bin_exec ho (by rw [e1, e2]; simp) (by rw [e1, e2]; exact run_shift hop hs)) hrv.1 hrv.2 hK
    · cases hst
  · cases hst

theorem bin_int_sound {op : BinOp} {x z : Operand} {y j : VA} {k : IntKind} {t t' : TypeId} (h : Rel F st a w E) (ho : o.op = .binOp op t x z t') (hop : op ≠ .shl ∧ op ≠ .shr)
    (hx : argOk F.Γ x y (.int k) = true) (hz : argOk F.Γ z j (.int k) = true) (hd : dOk F.Γ F.N o.dst (binTD op (.int k)) = true)
    (hst : step C st o.dst (.bin op y j) = some st') (hK : ∀ a' w' E', Rel F st' a' w' E' → K a' w') : o.wp P a w K Q := by
  simp only [step] at hst
  split at hst
  · rename_i u v hu hv
    split at hst
    · rename_i r hr
      obtain ⟨hxv, _⟩ := h.arg hx hu
      obtain ⟨hzv, _⟩ := h.arg hz hv
      rcases hxv.int_shape with ⟨m, rfl⟩ | rfl | rfl
      · rcases hzv.int_shape with ⟨n, rfl⟩ | rfl | rfl
        · have hs : binInt op k m n = some r := by
            simp only [binOpS, binOp, if_true] at hr
            cases op <;> first | exact hr | exact absurd rfl hop.1 | exact absurd rfl hop.2
          have e1 := hxv.int.1
          have e2 := hzv.int.1
          have hrv := binInt_rv (w := w) (E := E) (st := st) hs
          exact put_sound h hd hst (bin_exec ho (by rw [e1, e2]; simp) (by rw [e1, e2]; exact run_binInt hs)) hrv.1 hrv.2 hK
        · simp [binOpS, binOp] at hr
        · simp [binOpS, binOp] at hr
      · cases v <;> simp [binOpS, binOp] at hr
      · cases v <;> simp [binOpS, binOp] at hr
    · cases hst
  · cases hst
theorem bin_str_sound {op : BinOp} {x z : Operand} {y j : VA} {t t' : TypeId} (h : Rel F st a w E) (ho : o.op = .binOp op t x z t')
    (hx : argOk F.Γ x y .str = true) (hz : argOk F.Γ z j .str = true) (hd : dOk F.Γ F.N o.dst (binTD op .str) = true)
    (hst : step C st o.dst (.bin op y j) = some st') (hK : ∀ a' w' E', Rel F st' a' w' E' → K a' w') : o.wp P a w K Q := by
  simp only [step] at hst
  split at hst
  · rename_i u v hu hv
    split at hst
    · rename_i r hr
      obtain ⟨hxv, _⟩ := h.arg hx hu
      obtain ⟨hzv, _⟩ := h.arg hz hv
      rcases hxv.str_shape with ⟨m, rfl⟩ | rfl | rfl
      · rcases hzv.str_shape with ⟨n, rfl⟩ | rfl | rfl
        · have hs : binStr op m n = some r := by
            simpa only [binOpS, binOp] using hr
          have e1 := hxv.str.1
          have e2 := hzv.str.1
          have hrv := binStr_rv (w := w) (E := E) (st := st) hs
          exact put_sound h hd hst (bin_exec ho (by rw [e1, e2]; simp) (by rw [e1, e2]; exact run_binStr hs)) hrv.1 hrv.2 hK
        · simp [binOpS, binOp] at hr
        · simp [binOpS, binOp] at hr
      · cases v <;> simp [binOpS, binOp] at hr
      · cases v <;> simp [binOpS, binOp] at hr
    · cases hst
  · cases hst
theorem equal_of {t : TypeId} {u v : Value} {b : Bool} (h : ∀ d, (Op.equalIn (d + 1) t u v).run P w = .ok b w) : (Op.equal t u v).run P w = .ok b w := h 9999
theorem eql_bool {t : TypeId} {m n : Bool} (hc : chkTD P .bool t = true) : (Op.equal t (.bool m) (.bool n)).run P w = .ok (decide (m = n)) w := by
  have heq : (m == n) = decide (m = n) := by rw [Bool.eq_iff_iff]; simp
  refine equal_of fun d => ?_
  simp only [Op.equalIn, Sem.run_bind, run_underlying (chkTD.bool hc), Result.andThen_ok, Sem.run_pure, heq]
theorem eql_nil {t te : TypeId} {n : Bool} {X : Nat → Prop} {e : TD} {v : Value} {xs : List PV} (hu : P.underlying t = some (.slice te)) (h : SliceAt w X e v n xs) : (Op.equal t v (.slice none 0 0)).run P w = .ok n w := by
  refine equal_of fun d => ?_
  rcases h with ⟨rfl, rfl, _⟩ | ⟨rfl, ad, cap, rfl, _⟩ <;> simp only [Op.equalIn, Sem.run_bind, run_underlying hu, Result.andThen_ok, Sem.run_pure, Option.isNone_none]
theorem eql_run {op : BinOp} {t : TypeId} {u v : Value} {b : Bool} (hop : op = .eql ∨ op = .neq) (h : (Op.equal t u v).run P w = .ok b w)
    (hs : (∃ m n, u = .bool m ∧ v = .bool n) ∨ (∃ a b c d e f, u = .slice a b c ∧ v = .slice d e f) ∨ (∃ a b, u = .agg a ∧ v = .agg b)) :
    (Go.binOp op t u v).run P w = .ok (.bool (if op = .eql then b else !b)) w := by
  rcases hop with rfl | rfl <;> rcases hs with ⟨m, n, rfl, rfl⟩ | ⟨_, _, _, _, _, _, rfl, rfl⟩ | ⟨_, _, rfl, rfl⟩ <;> simp [Go.binOp, h]
theorem bin_bool_sound {op : BinOp} {x z : Operand} {y j : VA} {t t' : TypeId} (h : Rel F st a w E) (ho : o.op = .binOp op t x z t') (hc : chkTD P .bool t = true) (hop : op = .eql ∨ op = .neq)
    (hx : argOk F.Γ x y .bool = true) (hz : argOk F.Γ z j .bool = true) (hd : dOk F.Γ F.N o.dst .bool = true)
    (hst : step C st o.dst (.bin op y j) = some st') (hK : ∀ a' w' E', Rel F st' a' w' E' → K a' w') : o.wp P a w K Q := by
  simp only [step] at hst
  split at hst
  · rename_i u v hu hv
    split at hst
    · rename_i r hr
      obtain ⟨hxv, _⟩ := h.arg hx hu
      obtain ⟨hzv, _⟩ := h.arg hz hv
      rcases hxv.bool_shape with ⟨m, rfl⟩ | rfl | rfl
      · rcases hzv.bool_shape with ⟨n, rfl⟩ | rfl | rfl
        · have e1 := hxv.bool.1
          have e2 := hzv.bool.1
          have heq : (m == n) = decide (m = n) := by rw [Bool.eq_iff_iff]; simp
          have hr' : r = .bool (if op = .eql then decide (m = n) else !decide (m = n)) := by
            rcases hop with rfl | rfl <;> simp only [binOpS, binOp, Option.some.injEq] at hr <;> exact hr.symm
          subst hr'
          refine put_sound h hd hst (bin_exec (r := .bool (if op = .eql then decide (m = n) else !decide (m = n))) ho (by rw [e1, e2]; simp) ?_) svb_rv .bool hK
          rw [e1, e2]
          exact eql_run hop (eql_bool hc) (.inl ⟨_, _, rfl, rfl⟩)
        · simp [binOpS, binOp] at hr
        · simp [binOpS, binOp] at hr
      · cases v <;> simp [binOpS, binOp] at hr
      · cases v <;> simp [binOpS, binOp] at hr
    · cases hst
  · cases hst
/-- A slice held against nil. -/
theorem bin_nil_sound {op : BinOp} {x z : Operand} {y j : VA} {e : TD} {t t' : TypeId} (h : Rel F st a w E) (ho : o.op = .binOp op t x z t') (hc : chkTD P (.slice e) t = true) (hop : op = .eql ∨ op = .neq)
    (hx : argOk F.Γ x y (.slice e) = true) (hz : argOk F.Γ z j (.slice e) = true) (hd : dOk F.Γ F.N o.dst .bool = true)
    (hst : step C st o.dst (.bin op y j) = some st') (hK : ∀ a' w' E', Rel F st' a' w' E' → K a' w') : o.wp P a w K Q := by
  simp only [step] at hst
  split at hst
  · rename_i u v hu hv
    split at hst
    · rename_i r hr
      obtain ⟨hxv, _⟩ := h.arg hx hu
      obtain ⟨hzv, _⟩ := h.arg hz hv
      obtain ⟨te, hut, _⟩ := chkTD.slice hc
      have vn : v = .nil := by
        rcases hxv.slice_shape with rfl | ⟨_, _, rfl⟩ | ⟨_, rfl⟩ | ⟨_, _, _, rfl⟩ | rfl | rfl <;> cases v <;> simp_all [binOpS, binOp]
      subst vn
      have hvn : a.eval z = .slice none 0 0 := by
        generalize a.eval z = vz at hzv
        have := hzv.one rfl (by simp) (by simp) (by simp)
        cases this with
        | imm h => cases h
        | nil => rfl
      -- what nil says
      have fin : ∀ (n : Bool) (xs : List PV), SliceAt w E.X e (a.eval x) n xs → (op = .eql → r = .bool n) → (op = .neq → r = .bool (!n)) → o.wp P a w K Q := by
        intro n xs hs h1 h2
        have hr' : r = .bool (if op = .eql then n else !n) := by
          rcases hop with rfl | rfl
          · exact h1 rfl
          · exact h2 rfl
        subst hr'
        refine put_sound h hd hst (bin_exec (r := .bool (if op = .eql then n else !n)) ho (by rw [hvn]; simp) ?_) svb_rv .bool hK
        have hsl : ∃ q b c, a.eval x = .slice q b c := by rcases hs with ⟨_, k, _⟩ | ⟨_, _, _, k, _⟩ <;> exact ⟨_, _, _, k⟩
        obtain ⟨_, _, _, hsl⟩ := hsl
        rw [hvn]
        exact eql_run hop (eql_nil hut hs) (.inr (.inl ⟨_, _, _, _, _, _, hsl, rfl⟩))
      rcases hxv.slice_shape with rfl | ⟨n, xs, rfl⟩ | ⟨q, rfl⟩ | ⟨q, lo, hi, rfl⟩ | rfl | rfl
      · refine fin true [] (h.content hxv rfl) ?_ ?_ <;> rintro rfl <;> simp only [binOpS, binOp, Option.some.injEq] at hr <;> exact hr.symm
      · refine fin n xs (h.content hxv rfl) ?_ ?_ <;> rintro rfl <;> simp only [binOpS, binOp, Option.some.injEq] at hr <;> exact hr.symm
      · simp only [binOpS] at hr
        split at hr
        · rename_i g hg
          refine fin g.isNil g.xs (h.content hxv (by simp only [St.content, hg])) ?_ ?_ <;> rintro rfl <;> simp only [Option.some.injEq] at hr <;> exact hr.symm
        · cases hr
      · simp only [binOpS] at hr
        split at hr
        · rename_i g hg
          have hs : ∃ xs, SliceAt w E.X e (a.eval x) g.isNil xs := by
            generalize a.eval x = vx at hxv
            have h1 := hxv.one rfl (by simp) (by simp) (by simp)
            cases h1 with
            | imm h => cases h
            | sub hb h1 h2 h3 h4 h5 h6 =>
              have hsl := (h.regs _ _ hg).slice hb
              have hlen : hi ≤ g.xs.length := by
                rcases hsl with ⟨_, k, _⟩ | ⟨_, ad, cap, k1, _⟩
                · cases k
                · injection k1 with _ k1
                  omega
              exact ⟨_, hsl.part h1 hlen h3 h5⟩
            | subnil hb =>
              have hsl := (h.regs _ _ hg).slice hb
              rcases hsl with ⟨k0, _, _⟩ | ⟨k0, ad, cap, k1, k2, k3⟩
              · exact ⟨[], .inl ⟨k0, rfl, rfl⟩⟩
              · cases k1
          obtain ⟨xs, hs⟩ := hs
          refine fin g.isNil xs hs ?_ ?_ <;> rintro rfl <;> simp only [Option.some.injEq] at hr <;> exact hr.symm
        · cases hr
      · simp [binOpS, binOp] at hr
      · simp [binOpS, binOp] at hr
    · cases hst
  · cases hst

/-- '==' of structs and arrays. -/
theorem bin_agg_sound {op : BinOp} {x z : Operand} {y j : VA} {td : TD} {t t' : TypeId} (h : Rel F st a w E) (ho : o.op = .binOp op t x z t') (hc : chkTD P td t = true) (hop : op = .eql ∨ op = .neq)
    (htd : td.isAgg = true) (he : chkEq P td t = true) (hdep : td.dep < 10000) (hg : P.eqGuardType P.depth t = false)
    (hx : argOk F.Γ x y td = true) (hz : argOk F.Γ z j td = true) (hd : dOk F.Γ F.N o.dst .bool = true)
    (hst : step C st o.dst (.bin op y j) = some st') (hK : ∀ a' w' E', Rel F st' a' w' E' → K a' w') : o.wp P a w K Q := by
  simp only [step] at hst
  split at hst
  · rename_i u v hu hv
    split at hst
    · rename_i r hr
      obtain ⟨hxv, _⟩ := h.arg hx hu
      obtain ⟨hzv, _⟩ := h.arg hz hv
      generalize hax : a.eval x = vx at hxv
      generalize haz : a.eval z = vz at hzv
      have key : ∃ b, pvEq u v = some b ∧ r = .bool (if op = .eql then b else !b) ∧ u.plain = true ∧ v.plain = true ∧ u ≠ .undef ∧ v ≠ .undef ∧ u ≠ .dead ∧ v ≠ .dead := by
        cases td with
        | struct fs =>
          rcases hxv.struct_shape with ⟨m, rfl⟩ | rfl | rfl
          · rcases hzv.struct_shape with ⟨n, rfl⟩ | rfl | rfl
            · simp only [binOpS, binOp] at hr
              split at hr
              · rename_i hpl
                simp only [Bool.and_eq_true] at hpl
                cases hb : pvEqs m n with
                | none => rcases hop with rfl | rfl <;> simp [hb] at hr
                | some b =>
                  refine ⟨b, by simp only [pvEq, hb], ?_, by simpa [PV.plain] using hpl.1, by simpa [PV.plain] using hpl.2, by simp, by simp, by simp, by simp⟩
                  rcases hop with rfl | rfl <;> simp [hb] at hr <;> simp [hr]
              · cases hr
            · simp [binOpS, binOp] at hr
            · simp [binOpS, binOp] at hr
          · cases v <;> simp [binOpS, binOp] at hr
          · cases v <;> simp [binOpS, binOp] at hr
        | arr n e =>
          rcases hxv.arr_shape with ⟨m, rfl⟩ | rfl | rfl
          · rcases hzv.arr_shape with ⟨n, rfl⟩ | rfl | rfl
            · simp only [binOpS, binOp] at hr
              cases hb : pvEqs m n with
              | none => rcases hop with rfl | rfl <;> simp [hb] at hr
              | some b =>
                refine ⟨b, by simp only [pvEq, hb], ?_, rfl, rfl, by simp, by simp, by simp, by simp⟩
                rcases hop with rfl | rfl <;> simp [hb] at hr <;> simp [hr]
            · simp [binOpS, binOp] at hr
            · simp [binOpS, binOp] at hr
          · cases v <;> simp [binOpS, binOp] at hr
          · cases v <;> simp [binOpS, binOp] at hr
        | _ => simp [TD.isAgg] at htd
      obtain ⟨b, hb, rfl, p1, p2, n1, n2, n3, n4⟩ := key
      cases hxv with
      | cells hrx hvx =>
        cases hzv with
        | cells hrz hvz =>
          have hq := equal_run (P := P) (w := w) (d := 10000) hc he hdep (hrx.plain p1) (hrz.plain p2) hb
          have hag : ∀ cs, td.valOf cs = .agg cs.toArray := fun cs => by simp [TD.valOf, htd]
          refine put_sound h hd hst (bin_exec (r := .bool (if op = .eql then b else !b)) ho (by rw [hax, haz, hvx, hvz, hag, hag]; exact ⟨fun _ _ _ _ => hg, by simp⟩) ?_) svb_rv .bool hK
          rw [hax, haz, hvx, hvz]
          exact eql_run hop hq (.inr (.inr ⟨_, _, hag _, hag _⟩))
        | tup => simp [TD.isAgg] at htd
        | undef => exact absurd rfl n2
        | dead => exact absurd rfl n4
      | tup => simp [TD.isAgg] at htd
      | undef => exact absurd rfl n1
      | dead => exact absurd rfl n3
    · cases hst
  · cases hst
end Go.Vm
end
section
set_option linter.unusedSimpArgs false
set_option linter.unusedVariables false
namespace Go.Vm
variable {P : Program} {F : Fr} {w w' : World} {st st' : St} {a a' : Act} {E E' : Env} {K : Act → World → Prop} {Q : Exit → Act → World → Prop} {o : Oper} {C : Nat → List PV → Option (PV × List PV)}

/-! ### x[lo:hi] -/
def optOk (Γ : Nat → TD) : Option Operand → Option VA → Bool
  | none, none => true
  | some x, some y => idxOk Γ x y
  | _, _ => false
/-- The machine's bound and the interpreter's. -/
def OptIs : Option Value → Option PV → Prop
  | none, none => True
  | some v, some p => ∀ n, toIdx p = some n → ∃ k, v = .int k n
  | _, _ => False
theorem Rel.opt (h : Rel F st a w E) {x : Option Operand} {y : Option VA} {p : Option PV} (hx : optOk F.Γ x y = true) (hy : optEval st y = some p) : OptIs (x.map a.eval) p := by
  cases x with
  | none => cases y with
    | none => simp only [optEval, Option.some.injEq] at hy; subst hy; trivial
    | some _ => simp [optOk] at hx
  | some x => cases y with
    | none => simp [optOk] at hx
    | some y =>
      simp only [optEval] at hy
      split at hy
      · rename_i v hv
        simp only [Option.some.injEq] at hy
        subst hy
        intro n hn
        cases v <;> simp only [toIdx, Option.some.injEq, reduceCtorEq] at hn
        subst hn
        exact ⟨_, h.idx hx hv⟩
      · cases hy
theorem bounds_run {isSlice : Bool} {n cap mcap : Nat} {lo hi : Option PV} {vlo vhi : Option Value} {l h : Nat} (hb : bounds n cap lo hi = some (l, h)) (hlo : OptIs vlo lo) (hhi : OptIs vhi hi) (hcap : cap ≤ mcap) :
    l ≤ h ∧ h ≤ cap ∧ (Instr.sliceBounds isSlice n mcap vlo vhi none).run P w = .ok (l, h, mcap) w := by
  unfold bounds at hb
  split at hb
  · cases hb
  · rename_i hh hhe
    split at hb
    · rename_i h1
      split at hb
      · cases hb
      · rename_i ll hle
        split at hb
        · rename_i h2
          simp only [Option.some.injEq, Prod.mk.injEq] at hb
          obtain ⟨rfl, rfl⟩ := hb
          refine ⟨by omega, by omega, ?_⟩
          have bound : ∀ (k : IntKind) (i : Int) (y : Nat) (c : BoundsCode), 0 ≤ i → i ≤ y → (Instr.sliceBound (.int k i) y c).run P w = .ok i.toNat w := by
            intro k i y c k1 k2
            simp [Instr.sliceBound, asIntOf, k1, k2]
          have hr : (vhi = none ∧ n = hh.toNat) ∨ ∃ k, vhi = some (.int k hh) := by
            cases hi with
            | none =>
              cases vhi with
              | none =>
                simp only [Option.some.injEq] at hhe
                exact .inl ⟨rfl, by omega⟩
              | some _ => exact hhi.elim
            | some p =>
              cases vhi with
              | none => exact hhi.elim
              | some v =>
                obtain ⟨k, rfl⟩ := hhi _ hhe
                exact .inr ⟨k, rfl⟩
          have lr : (vlo = none ∧ ll.toNat = 0) ∨ ∃ k, vlo = some (.int k ll) := by
            cases lo with
            | none =>
              cases vlo with
              | none =>
                simp only [Option.some.injEq] at hle
                exact .inl ⟨rfl, by omega⟩
              | some _ => exact hlo.elim
            | some p =>
              cases vlo with
              | none => exact hlo.elim
              | some v =>
                obtain ⟨k, rfl⟩ := hlo _ hle
                exact .inr ⟨k, rfl⟩
          have b1 : ∀ k c, (Instr.sliceBound (.int k hh) mcap c).run P w = .ok hh.toNat w := fun k c => bound k hh mcap c h1.1 (by omega)
          have b2 : ∀ k c, (Instr.sliceBound (.int k ll) hh.toNat c).run P w = .ok ll.toNat w := fun k c => bound k ll hh.toNat c h2.1 (by omega)
          rcases hr with ⟨rfl, hr⟩ | ⟨k, rfl⟩ <;> rcases lr with ⟨rfl, lr⟩ | ⟨k', rfl⟩
          · simp only [Instr.sliceBounds, Sem.run_bind, Sem.run_pure, Result.andThen_ok, hr, lr]
          · simp only [Instr.sliceBounds, Sem.run_bind, Sem.run_pure, Result.andThen_ok, hr, b2]
          · simp only [Instr.sliceBounds, Sem.run_bind, Sem.run_pure, Result.andThen_ok, b1, lr]
          · simp only [Instr.sliceBounds, Sem.run_bind, Sem.run_pure, Result.andThen_ok, b1, b2]
        · cases hb
    · cases hb
theorem str_size (l : List UInt8) : (⟨l.toArray⟩ : ByteArray).size = l.length := by simp [ByteArray.size]
theorem str_extract (s : List UInt8) (l h : Nat) : (⟨s.toArray⟩ : ByteArray).extract l h = ⟨((s.drop l).take (h - l)).toArray⟩ := by
  apply ByteArray.ext
  simp [ByteArray.data_extract, List.extract_eq_take_drop]

theorem slice_str_sound {x : Operand} {y : VA} {lo hi : Option Operand} {lo' hi' : Option VA} {t : TypeId} (h : Rel F st a w E) (ho : o.op = .slice t x lo hi none) (hc : chkTD P .str t = true)
    (hx : argOk F.Γ x y .str = true) (hlo : optOk F.Γ lo lo' = true) (hhi : optOk F.Γ hi hi' = true) (hd : dOk F.Γ F.N o.dst .str = true)
    (hst : step C st o.dst (.slice y lo' hi') = some st') (hK : ∀ a' w' E', Rel F st' a' w' E' → K a' w') : o.wp P a w K Q := by
  simp only [step] at hst
  split at hst
  · rename_i s p q hu hp hq
    split at hst
    · rename_i l hh hb
      obtain ⟨hv, _⟩ := h.arg hx hu
      obtain ⟨b1, b2, b3⟩ := bounds_run (P := P) (w := w) (isSlice := false) hb (h.opt hlo hp) (h.opt hhi hq) (Nat.le_refl _)
      refine put_sound (v := .string ⟨((s.drop l).take (hh - l)).toArray⟩) h hd hst ?_ (.cells (cs := [_]) (.imm (.str _)) rfl) .str hK
      have hu := chkTD.str hc
      simp only [execOp, ho, Instr.sliceAt, Sem.run_bind, run_underlying hu, Result.andThen_ok, Instr.slice, hv.str.1, Option.map_none, Option.isSome_none, Bool.false_eq_true, if_false, str_size, b3, Sem.run_pure, str_extract]
    · cases hst
  · rename_i p q hu hp hq
    rcases (h.arg hx hu).1.str_shape with ⟨_, e⟩ | e | e <;> cases e
  · rename_i n xs p q hu hp hq
    rcases (h.arg hx hu).1.str_shape with ⟨_, e⟩ | e | e <;> cases e
  · rename_i r p q hu hp hq
    rcases (h.arg hx hu).1.str_shape with ⟨_, e⟩ | e | e <;> cases e
  · rename_i r i j p q hu hp hq
    rcases (h.arg hx hu).1.str_shape with ⟨_, e⟩ | e | e <;> cases e
  · cases hst

theorem slice_run {e : TD} {t : TypeId} {ad : Option Addr} {len cap l h : Nat} {vlo vhi : Option Value} (hc : chkTD P (.slice e) t = true) (hb : (Instr.sliceBounds true len cap vlo vhi none).run P w = .ok (l, h, cap) w) :
    (Instr.sliceAt t (.slice ad len cap) vlo vhi none).run P w = .ok (.slice (if cap = l then ad else ad.map (·.add (l * e.size))) (h - l) (cap - l)) w := by
  obtain ⟨te, hu, hce⟩ := chkTD.slice hc
  simp only [Instr.sliceAt, Sem.run_bind, run_underlying hu, Result.andThen_ok, Instr.slice, hb, sizeOf_run hce, Sem.run_pure]

theorem slice_sound {x : Operand} {y : VA} {lo hi : Option Operand} {lo' hi' : Option VA} {e : TD} {t : TypeId} (h : Rel F st a w E) (ho : o.op = .slice t x lo hi none) (hc : chkTD P (.slice e) t = true)
    (hx : argOk F.Γ x y (.slice e) = true) (hlo : optOk F.Γ lo lo' = true) (hhi : optOk F.Γ hi hi' = true) (hd : dOk F.Γ F.N o.dst (.slice e) = true)
    (hst : step C st o.dst (.slice y lo' hi') = some st') (hK : ∀ a' w' E', Rel F st' a' w' E' → K a' w') : o.wp P a w K Q := by
  have run : ∀ {ad : Option Addr} {len cap l hh : Nat}, a.eval x = .slice ad len cap → (Instr.sliceBounds true len cap (lo.map a.eval) (hi.map a.eval) none).run P w = .ok (l, hh, cap) w →
      (execOp a.eval o).run P w = .ok (.value (.slice (if cap = l then ad else ad.map (·.add (l * e.size))) (hh - l) (cap - l))) w := by
    intro ad len cap l hh h1 h2
    simp only [execOp, ho, h1, Option.map_none, Sem.run_bind, slice_run hc h2, Result.andThen_ok, Sem.run_pure]
  simp only [step] at hst
  split at hst
  · rename_i s p q hu hp hq
    exact absurd (h.arg hx hu).1.str.2 (by simp)
  · rename_i p q hu hp hq
    split at hst
    · rename_i l hh hb
      obtain ⟨hv, hok⟩ := h.arg hx hu
      generalize hav : a.eval x = av at hv
      have hr := hv.one rfl (by simp) (by simp) (by simp)
      cases hr with
      | imm h => cases h
      | nil =>
        obtain ⟨b1, b2, b3⟩ := bounds_run (P := P) (w := w) (isSlice := true) hb (h.opt hlo hp) (h.opt hhi hq) (Nat.le_refl _)
        have l0 : l = 0 := by omega
        have h0 : hh = 0 := by omega
        subst l0 h0
        have := run hav b3
        simp only [if_true, Nat.sub_zero] at this
        exact put_sound h hd hst this (.cells .nil rfl) (Ok.of_nil rfl rfl) hK
    · cases hst
  · rename_i n xs p q hu hp hq
    split at hst
    · rename_i l hh hb
      obtain ⟨hv, hok⟩ := h.arg hx hu
      generalize hav : a.eval x = av at hv
      have hr := hv.one rfl (by simp) (by simp) (by simp)
      cases hr with
      | imm hr =>
        cases hr with
        | slnil =>
          obtain ⟨b1, b2, b3⟩ := bounds_run (P := P) (w := w) (isSlice := true) hb (h.opt hlo hp) (h.opt hhi hq) (Nat.le_refl _)
          simp only [List.length_nil] at b2 b3
          have l0 : l = 0 := by omega
          have h0 : hh = 0 := by omega
          subst l0 h0
          have := run hav b3
          simp only [if_true, Nat.sub_zero] at this
          exact put_sound h hd hst this (.cells (cs := [_]) (.imm (by simpa using RC.slnil)) rfl) (Ok.of_nil rfl rfl) hK
        | sl hX hl hcp cf hcf hcs =>
          rename_i ad len cap
          subst hl
          obtain ⟨b1, b2, b3⟩ := bounds_run (P := P) (w := w) (isSlice := true) (mcap := cap) hb (h.opt hlo hp) (h.opt hhi hq) hcp
          have hrun := run hav b3
          have hll : ((xs.drop l).take (hh - l)).length = hh - l := by simp; omega
          refine put_sound h hd hst hrun (.cells (cs := [_]) (.imm ?_) rfl) (Ok.of_nil rfl rfl) hK
          have hsh : (if cap = l then some ad else (some ad).map (·.add (l * e.size))) = some (if cap = l then ad else ad.add (l * e.size)) := by split <;> rfl
          rw [hsh]
          refine RC.sl (fun h0 => ?_) hll (by omega) (fun i => cf (l + i)) (fun i hi => ?_) (fun i u hu => ?_)
          · rw [hll] at h0
            rw [if_neg (by omega), add_block]
            exact hX (by omega)
          · rw [hll] at hi
            rw [if_neg (by omega), add_add, ← Nat.add_mul]
            exact hcf _ (by omega)
          · rw [List.getElem?_take] at hu
            split at hu
            · rw [List.getElem?_drop] at hu
              exact hcs _ _ hu
            · cases hu
    · cases hst
  · rename_i r p q hu hp hq
    split at hst
    · rename_i g hg
      split at hst
      · rename_i l hh hb
        obtain ⟨hv, hok⟩ := h.arg hx hu
        generalize hav : a.eval x = av at hv
        have hr := hv.one rfl (by simp) (by simp) (by simp)
        have hok' : Ok st (.sub r l hh) := ⟨fun q hq => hok.1 q (by simpa [ids] using hq), by simp [bxs]⟩
        cases hr with
        | imm h => cases h
        | ref hr h1c =>
          rcases (h.regs _ _ hg).slice hr with ⟨_, k1, k2⟩ | ⟨_, ad, cap, k1, k2, k3⟩
          · obtain ⟨b1, b2, b3⟩ := bounds_run (P := P) (w := w) (isSlice := true) hb (h.opt hlo hp) (h.opt hhi hq) (Nat.le_refl _)
            rw [k2] at b2 b3
            simp only [List.length_nil] at b2 b3
            have l0 : l = 0 := by omega
            have h0 : hh = 0 := by omega
            subst l0 h0
            have := run (hav.trans k1) b3
            simp only [if_true, Nat.sub_zero] at this
            exact put_sound h hd hst this (.cells (cs := [_]) (.subnil (k1 ▸ hr)) rfl) hok' hK
          · obtain ⟨b1, b2, b3⟩ := bounds_run (P := P) (w := w) (isSlice := true) (mcap := cap) hb (h.opt hlo hp) (h.opt hhi hq) k2
            have hrun := run (hav.trans k1) b3
            refine put_sound h hd hst hrun (.cells (cs := [_]) ?_ rfl) hok' hK
            have hsh : (if cap = l then some ad else (some ad).map (·.add (l * e.size))) = some (if cap = l then ad else ad.add (l * e.size)) := by split <;> rfl
            rw [hsh]
            exact RT.sub (k1 ▸ hr) b1 b2 (by omega) (by omega) (fun h0 => by rw [if_neg (by omega)]) (by
              split
              · exact ⟨0, Nat.zero_le _, by simp [Addr.add]⟩
              · exact ⟨l, Nat.le_refl _, rfl⟩)
      · cases hst
    · cases hst
  · rename_i r i j p q hu hp hq
    split at hst
    · rename_i l hh hb
      obtain ⟨hv, hok⟩ := h.arg hx hu
      generalize hav : a.eval x = av at hv
      have hr := hv.one rfl (by simp) (by simp) (by simp)
      have hok' : Ok st (.sub r (i + l) (i + hh)) := ⟨fun q hq => hok.1 q (by simpa [ids] using hq), by simp [bxs]⟩
      cases hr with
      | imm h => cases h
      | sub hr h1 h2 h3 h4 h5 h6 =>
        rename_i ad ad' len cap c
        obtain ⟨b1, b2, b3⟩ := bounds_run (P := P) (w := w) (isSlice := true) (mcap := c) hb (h.opt hlo hp) (h.opt hhi hq) h3
        have hrun := run hav b3
        refine put_sound h hd hst hrun (.cells (cs := [_]) ?_ rfl) hok' hK
        have hsh : (if c = l then some ad' else (some ad').map (·.add (l * e.size))) = some (if c = l then ad' else ad'.add (l * e.size)) := by split <;> rfl
        rw [hsh]
        have := RT.sub (w := w) (E := E) (e := e) (lo := i + l) (hi := i + hh) (c := c - l) (a' := if c = l then ad' else ad'.add (l * e.size)) hr (by omega) (by omega) (by omega) (by omega) (fun h0 => by
          rw [if_neg (by omega), h5 (by omega), add_add, ← Nat.add_mul]) (by
          obtain ⟨k, hk, hk'⟩ := h6
          split
          · exact ⟨k, by omega, hk'⟩
          · exact ⟨k + l, by omega, by rw [hk', add_add, ← Nat.add_mul]⟩)
        have hs : i + hh - (i + l) = hh - l := by omega
        rwa [hs] at this
      | subnil hr =>
        obtain ⟨b1, b2, b3⟩ := bounds_run (P := P) (w := w) (isSlice := true) (mcap := 0) hb (h.opt hlo hp) (h.opt hhi hq) (Nat.le_refl _)
        have l0 : l = 0 := by omega
        have h0 : hh = 0 := by omega
        subst l0 h0
        have := run hav b3
        simp only [if_true, Nat.sub_zero] at this
        exact put_sound h hd hst this (.cells (cs := [_]) (.subnil hr) rfl) hok' hK
    · cases hst
  · cases hst
end Go.Vm
end
section
set_option linter.unusedSimpArgs false
set_option linter.unusedVariables false
namespace Go.Vm
variable {P : Program} {F : Fr} {w w' : World} {st st' : St} {a a' : Act} {E E' : Env} {K : Act → World → Prop} {Q : Exit → Act → World → Prop} {o : Oper} {C : Nat → List PV → Option (PV × List PV)}

theorem un_not_sound {x : Operand} {y : VA} {t : TypeId} (h : Rel F st a w E) (ho : o.op = .unOp .not t x) (hx : argOk F.Γ x y .bool = true) (hd : dOk F.Γ F.N o.dst .bool = true)
    (hst : step C st o.dst (.un .not y) = some st') (hK : ∀ a' w' E', Rel F st' a' w' E' → K a' w') : o.wp P a w K Q := by
  simp only [step] at hst
  split at hst
  · rename_i u hu
    obtain ⟨hv, _⟩ := h.arg hx hu
    rcases hv.bool_shape with ⟨b, rfl⟩ | rfl | rfl
    · simp only [unOp] at hst
      exact put_sound (v := .bool (!b)) h hd hst (by simp [execOp, ho, hv.bool.1, Op.unary]) svb_rv .bool hK
    · simp [unOp] at hst
    · simp [unOp] at hst
  · cases hst
theorem un_neg_sound {x : Operand} {y : VA} {t : TypeId} {k : IntKind} (h : Rel F st a w E) (ho : o.op = .unOp .neg t x) (hx : argOk F.Γ x y (.int k) = true) (hd : dOk F.Γ F.N o.dst (.int k) = true)
    (hst : step C st o.dst (.un .neg y) = some st') (hK : ∀ a' w' E', Rel F st' a' w' E' → K a' w') : o.wp P a w K Q := by
  simp only [step] at hst
  split at hst
  · rename_i u hu
    obtain ⟨hv, _⟩ := h.arg hx hu
    rcases hv.int_shape with ⟨b, rfl⟩ | rfl | rfl
    · simp only [unOp] at hst
      exact put_sound (v := .int k (k.wrap (0 - b))) h hd hst (by simp only [execOp, ho, hv.int.1, Op.unary, Op.intArith, Sem.run_bind, Sem.run_pure, Result.andThen_ok]) sv_rv .int hK
    · simp [unOp] at hst
    · simp [unOp] at hst
  · cases hst
theorem convInt_sound {x : Operand} {y : VA} {s t : TypeId} {j k : IntKind} (h : Rel F st a w E) (ho : o.op = .convert s t x) (hs : chkTD P (.int j) s = true) (ht : chkTD P (.int k) t = true)
    (hx : argOk F.Γ x y (.int j) = true) (hd : dOk F.Γ F.N o.dst (.int k) = true)
    (hst : step C st o.dst (.convInt k y) = some st') (hK : ∀ a' w' E', Rel F st' a' w' E' → K a' w') : o.wp P a w K Q := by
  simp only [step] at hst
  split at hst
  · rename_i q n hu
    obtain ⟨hv, _⟩ := h.arg hx hu
    refine put_sound (v := .int k (k.wrap n)) h hd hst ?_ sv_rv .int hK
    simp only [execOp, ho, hv.int.1, convert, Sem.run_bind, run_underlying (chkTD.int hs), run_underlying (chkTD.int ht), Result.andThen_ok, Conv.intToInt, Sem.run_pure]
  · cases hst

theorem builtin_run {b : Builtin} {args : Array Operand} {ts : Array TypeId} {r : Result Next} (ho : o.op = .call { callee := .builtin b, args := args, argTypes := ts })
    (h : ∀ cs, (builtin b ts o.type cs (args.map a.eval)).run P w = r) : (execOp a.eval o).run P w = r := by
  simp only [execOp, ho, resolve, Sem.run_bind, Sem.run_pure, Result.andThen_ok, invoke, h]

theorem minmax_sound {mx : Bool} {x z : Operand} {y j : VA} {k : IntKind} {ts : Array TypeId} (h : Rel F st a w E)
    (ho : o.op = .call { callee := .builtin (if mx then .max else .min), args := #[x, z], argTypes := ts }) (hx : argOk F.Γ x y (.int k) = true) (hz : argOk F.Γ z j (.int k) = true) (hd : dOk F.Γ F.N o.dst (.int k) = true)
    (hst : step C st o.dst (.minmax mx y j) = some st') (hK : ∀ a' w' E', Rel F st' a' w' E' → K a' w') : o.wp P a w K Q := by
  simp only [step] at hst
  split at hst
  · rename_i k1 m k2 n hu hv
    obtain ⟨hxv, _⟩ := h.arg hx hu
    obtain ⟨hzv, _⟩ := h.arg hz hv
    split at hst
    · rename_i hk
      subst hk
      have e := hxv.int.2
      injection e with e
      subst e
      refine put_sound (v := .int k (if mx then max m n else min m n)) h hd hst (builtin_run ho fun cs => ?_) sv_rv .int hK
      cases mx with
      | true =>
        have : (if n > m then n else m) = max m n := by rw [Int.max_def]; split <;> split <;> omega
        simp [builtin, Builtin.max_, Builtin.max2, hxv.int.1, hzv.int.1, this]
      | false =>
        have : (if n < m then n else m) = min m n := by rw [Int.min_def]; split <;> split <;> omega
        simp [builtin, Builtin.min_, Builtin.min2, hxv.int.1, hzv.int.1, this]
    · cases hst
  · cases hst

theorem RCm.length {X : Nat → Prop} {k e : TD} : ∀ {ms : List MapEntry} {ps : List (PV × PV)}, RCm w X k e ms ps → ms.length = ps.length
  | _, _, .nil => rfl
  | _, _, .cons _ _ hm _ _ => by simp [RCm.length hm]
theorem run_getObj_map {r : Nat} {es : Array MapEntry} {clock : Nat} (h : w.heap[r]? = some (.map es clock)) : (getObj r).run P w = .ok (.map es clock) w := by
  simp [getObj, Sem.run, h]

theorem RV.map {td : TD} {v : Value} {es : List (PV × PV)} (h : RV w E td v (.map es)) : ∃ k e r ms clock, td = .map k e ∧ v = .map (some r) ∧ (¬ E.X r ∧ r < w.heap.size) ∧ w.heap[r]? = some (.map ms clock) ∧ RCm w E.X k e ms.toList es := by
  cases h with
  | cells h hv => cases h with
    | imm h => cases h with
      | map hX hr hm => exact ⟨_, _, _, _, _, rfl, hv, hX, hr, hm⟩
theorem RV.mref {td : TD} {v : Value} {r : RId} (h : RV w E td v (.mref r)) : ∃ k e b, td = .map k e ∧ v = .map (some b) ∧ E.rb r = some (.mp k e b) := by
  cases h with
  | cells h hv => cases h with
    | imm h => cases h
    | mref h => exact ⟨_, _, _, rfl, hv, h⟩
/-- A map's region, frozen or not, is a map in memory. -/
theorem RegRep.map {r : RId} {fz : Bool} {es : List (PV × PV)} {k e : TD} {b : Nat} (h : RegRep w E r (.mp fz es)) (hb : E.rb r = some (.mp k e b)) : ∃ ms clock, w.heap[b]? = some (.map ms clock) ∧ RCm w E.X k e ms.toList es := by
  obtain ⟨k', e', b', h1, h2⟩ := h
  rw [hb] at h1
  injection h1 with h1
  injection h1 with h1 h1' h1''
  subst h1 h1' h1''
  rcases h2 with ⟨_, _, ms, clock, h3, h4⟩ | ⟨_, h3⟩
  · exact ⟨ms, clock, h3, h4⟩
  · cases h3 with
    | map hX hr hm => exact ⟨_, _, hr, hm⟩

theorem len_sound {x : Operand} {y : VA} {td : TD} {t : TypeId} {ts : Array TypeId} (h : Rel F st a w E)
    (ho : o.op = .call { callee := .builtin .len, args := #[x], argTypes := ts }) (ht : ts[0]? = some t) (hc : chkTD P td t = true)
    (htd : (match td with | .str | .slice _ | .arr _ _ | .map _ _ => true | _ => false) = true) (hx : argOk F.Γ x y td = true) (hd : dOk F.Γ F.N o.dst (.int .i64) = true)
    (hst : step C st o.dst (.len y) = some st') (hK : ∀ a' w' E', Rel F st' a' w' E' → K a' w') : o.wp P a w K Q := by
  have fin : ∀ n : Nat, (Builtin.len_ ts o.type #[a.eval x]).run P w = .ok (goInt n) w → st.putS o.dst (.int .i64 n) = some st' → o.wp P a w K Q := by
    intro n h1 h2
    refine put_sound (v := .int .i64 n) h hd h2 (builtin_run ho fun cs => ?_) sv_rv .int hK
    simp only [builtin, List.map_toArray, List.map_cons, List.map_nil, Sem.run_bind, h1, Result.andThen_ok, Sem.run_pure, goInt]
  simp only [step] at hst
  split at hst
  · rename_i s hu
    obtain ⟨hv, _⟩ := h.arg hx hu
    have e := hv.str.2
    subst e
    refine fin s.length ?_ hst
    simp [Builtin.len_, ht, run_underlying (chkTD.str hc), hv.str.1, str_size]
  · rename_i xs hu
    obtain ⟨hv, _⟩ := h.arg hx hu
    cases td with
    | arr n e =>
      generalize hav : a.eval x = av at hv fin
      cases hv with
      | cells hr hv =>
        have hl := hr.arr_len
        obtain ⟨te, hut, _⟩ := chkTD.arr hc
        refine fin xs.length ?_ hst
        simp [Builtin.len_, ht, run_underlying hut, hl]
    | str => rcases hv.str_shape with ⟨_, e⟩ | e | e <;> cases e
    | slice e => rcases hv.slice_shape with e | ⟨_, _, e⟩ | ⟨_, e⟩ | ⟨_, _, _, e⟩ | e | e <;> cases e
    | map k e =>
      generalize a.eval x = av at hv
      have := hv.one rfl (by simp) (by simp) (by simp)
      cases this with
      | imm h => cases h
    | _ => simp at htd
  · rename_i es hu
    obtain ⟨hv, _⟩ := h.arg hx hu
    obtain ⟨k, e, r, ms, clock, rfl, hv', hX, hr, hm⟩ := hv.map
    obtain ⟨tk, te, hut, _, _⟩ := chkTD.map hc
    refine fin es.length ?_ hst
    have hl := hm.length
    simp [Builtin.len_, ht, run_underlying hut, hv', run_getObj_map hr, ← hl]
  · rename_i r hu
    split at hst
    · rename_i fz es hg
      obtain ⟨hv, _⟩ := h.arg hx hu
      obtain ⟨k, e, b, rfl, hv', hb⟩ := hv.mref
      obtain ⟨tk, te, hut, _, _⟩ := chkTD.map hc
      obtain ⟨ms, clock, h1, h2⟩ := (h.regs _ _ hg).map hb
      refine fin es.length ?_ hst
      have hl := h2.length
      simp [Builtin.len_, ht, run_underlying hut, hv', run_getObj_map h1, ← hl]
    · cases hst
  · rename_i u n1 n2 n3 n4 hu
    split at hst
    · rename_i n xs hc'
      obtain ⟨hv, _⟩ := h.arg hx hu
      have : ∃ e, td = .slice e := by
        cases td with
        | slice e => exact ⟨e, rfl⟩
        | str => rcases hv.str_shape with ⟨_, e⟩ | e | e <;> subst e <;> first | exact absurd rfl (n1 _) | simp [St.content] at hc'
        | arr n e => rcases hv.arr_shape with ⟨_, e⟩ | e | e <;> subst e <;> first | exact absurd rfl (n2 _) | simp [St.content] at hc'
        | map k e =>
          generalize a.eval x = av at hv
          cases hv with
          | cells hr hv => cases hr with
            | imm h => cases h <;> simp [St.content] at hc'
            | mref => exact absurd rfl (n4 _)
            | dead => simp [St.content] at hc'
          | undef => simp [St.content] at hc'
          | dead => simp [St.content] at hc'
        | _ => simp at htd
      obtain ⟨e, rfl⟩ := this
      obtain ⟨te, hut, _⟩ := chkTD.slice hc
      refine fin xs.length ?_ hst
      rcases h.content hv hc' with ⟨_, h1, rfl⟩ | ⟨_, ad, cap, h1, _⟩ <;> simp [Builtin.len_, ht, run_underlying hut, h1]
    · cases hst
  · cases hst

/-! ### Bytes and strings -/
theorem u8_cells {X : Nat → Prop} {cs : List Value} {p : PV} {n : Int} (h : RC w X (.int .u8) cs p) (hp : p = .int .u8 n) : cs = [.int .u8 n] := by
  subst hp
  cases h
  rfl
theorem bytesOf_map : ∀ {xs : List PV} {l : List UInt8}, bytesOf xs = some l → ∃ ns : List Int, xs = ns.map (PV.int .u8) ∧ l = ns.map fun n => UInt8.ofNat n.toNat
  | [], l, h => by
    simp only [bytesOf, Option.some.injEq] at h
    subst h
    exact ⟨[], rfl, rfl⟩
  | x :: xs, l, h => by
    unfold bytesOf at h
    split at h
    · rename_i heq; cases heq
    · rename_i n r heq
      injection heq with h1 h2
      subst h1 h2
      split at h
      · rename_i l' hl
        simp only [Option.some.injEq] at h
        subst h
        obtain ⟨ns, h1, h2⟩ := bytesOf_map hl
        exact ⟨n :: ns, by simp [h1], by simp [h2]⟩
      · cases h
    · cases h
theorem convStr_sound {x : Operand} {y : VA} {s t : TypeId} (h : Rel F st a w E) (ho : o.op = .convert s t x) (hs : chkTD P (.slice (.int .u8)) s = true) (ht : chkTD P .str t = true)
    (hx : argOk F.Γ x y (.slice (.int .u8)) = true) (hd : dOk F.Γ F.N o.dst .str = true)
    (hst : step C st o.dst (.convStr y) = some st') (hK : ∀ a' w' E', Rel F st' a' w' E' → K a' w') : o.wp P a w K Q := by
  simp only [step] at hst
  split at hst
  · rename_i u hu
    split at hst
    · rename_i n xs hc
      split at hst
      · rename_i l hl
        obtain ⟨hv, _⟩ := h.arg hx hu
        obtain ⟨ns, hns, hl'⟩ := bytesOf_map hl
        obtain ⟨te, hut, hte⟩ := chkTD.slice hs
        refine put_sound (v := .string ⟨l.toArray⟩) h hd hst ?_ svs_rv .str hK
        rcases h.content hv hc with ⟨_, h1, rfl⟩ | ⟨_, ad, cap, h1, h2, h3⟩
        · have : ns = [] := by cases ns with | nil => rfl | cons _ _ => simp at hns
          subst this
          subst hl'
          have hr := run_convert_bytes_nil (P := P) w s te hut (chkTD.int hte) 0 0 t (chkTD.str ht)
          simp only [execOp, ho, h1, Sem.run_bind, hr, Result.andThen_ok, Sem.run_pure]
          rfl
        · have hload : (loadCells ad xs.length).run P w = .ok (ns.map (Value.int .u8)).toArray w := by
            have := run_loadCells_list (P := P) (w := w) ad (ns.map (Value.int .u8)) (fun j v hj => by
              rw [List.getElem?_map] at hj
              cases hnj : ns[j]? with
              | none => rw [hnj] at hj; simp at hj
              | some m =>
                rw [hnj] at hj
                simp only [Option.map_some, Option.some.injEq] at hj
                subst hj
                obtain ⟨cs, k1, k2⟩ := h3 j (.int .u8 m) (by rw [hns, List.getElem?_map, hnj]; rfl)
                have k3 := u8_cells k2 rfl
                subst k3
                have := k1 0 _ rfl
                rw [add_add] at this
                simpa [TD.size] using this)
            simpa [hns] using this
          have hr := run_bytesToString (P := P) w ad xs.length cap ns hload
          rw [foldl_push_bytes] at hr
          have hr2 := run_convert_bytes_string (P := P) w s t te (some ad) xs.length cap hut (chkTD.int hte) (chkTD.str ht)
          rw [hr] at hr2
          have he : (ByteArray.empty.data ++ (ns.map fun n => UInt8.ofNat n.toNat).toArray) = (ns.map fun n => UInt8.ofNat n.toNat).toArray := by
            show (#[] : Array UInt8) ++ _ = _
            simp
          rw [he] at hr2
          simp only [execOp, ho, h1, Sem.run_bind, hr2, Result.andThen_ok, Sem.run_pure, hl']
      · cases hst
    · cases hst
  · cases hst
end Go.Vm
end
section
set_option linter.unusedSimpArgs false
set_option linter.unusedVariables false
namespace Go.Vm
variable {P : Program} {F : Fr} {w w' : World} {st st' : St} {a a' : Act} {E E' : Env} {K : Act → World → Prop} {Q : Exit → Act → World → Prop} {o : Oper} {C : Nat → List PV → Option (PV × List PV)}

mutual
theorem RC.one {X : Nat → Prop} : ∀ {td : TD} {cs : List Value} {p : PV}, RC w X td cs p → ∀ c ∈ cs, c.oneCell' = true
  | _, _, _, .bool b, c, hc => by simp only [List.mem_singleton] at hc; subst hc; rfl
  | _, _, _, .int k n, c, hc => by simp only [List.mem_singleton] at hc; subst hc; rfl
  | _, _, _, .str l, c, hc => by simp only [List.mem_singleton] at hc; subst hc; rfl
  | _, _, _, .struct h, c, hc => RCs.one h c hc
  | _, _, _, .arr hn h, c, hc => RCa.one h c hc
  | _, _, _, .slnil, c, hc => by simp only [List.mem_singleton] at hc; subst hc; rfl
  | _, _, _, .sl .., c, hc => by simp only [List.mem_singleton] at hc; subst hc; rfl
  | _, _, _, .mapnil, c, hc => by simp only [List.mem_singleton] at hc; subst hc; rfl
  | _, _, _, .map .., c, hc => by simp only [List.mem_singleton] at hc; subst hc; rfl
  | _, _, _, .fn f, c, hc => by simp only [List.mem_singleton] at hc; subst hc; rfl
  | _, _, _, .nilfn, c, hc => by simp only [List.mem_singleton] at hc; subst hc; rfl
  | _, _, _, .nilptr, c, hc => by simp only [List.mem_singleton] at hc; subst hc; rfl
theorem RCs.one {X : Nat → Prop} : ∀ {ts : List TD} {cs : List Value} {ps : List PV}, RCs w X ts cs ps → ∀ c ∈ cs, c.oneCell' = true
  | _, _, _, .nil, c, hc => by simp at hc
  | _, _, _, .cons h hs, c, hc => by
    rcases List.mem_append.1 hc with h1 | h1
    · exact RC.one h c h1
    · exact RCs.one hs c h1
theorem RCa.one {X : Nat → Prop} : ∀ {e : TD} {cs : List Value} {ps : List PV}, RCa w X e cs ps → ∀ c ∈ cs, c.oneCell' = true
  | _, _, _, .nil, c, hc => by simp at hc
  | _, _, _, .cons h hs, c, hc => by
    rcases List.mem_append.1 hc with h1 | h1
    · exact RC.one h c h1
    · exact RCa.one hs c h1
end
mutual
theorem RT.one : ∀ {td : TD} {cs : List Value} {p : PV}, RT w E td cs p → ∀ c ∈ cs, c.oneCell' = true
  | _, _, _, .imm h, c, hc => h.one c hc
  | _, _, _, .struct h, c, hc => RTs.one h c hc
  | _, _, _, .nil, c, hc => by simp only [List.mem_singleton] at hc; subst hc; rfl
  | _, _, _, .ref _ h1, c, hc => by simp only [List.mem_singleton] at hc; subst hc; exact h1
  | _, _, _, .sub .., c, hc => by simp only [List.mem_singleton] at hc; subst hc; rfl
  | _, _, _, .subnil .., c, hc => by simp only [List.mem_singleton] at hc; subst hc; rfl
  | _, _, _, .mref .., c, hc => by simp only [List.mem_singleton] at hc; subst hc; rfl
  | _, _, _, .ptr .., c, hc => by simp only [List.mem_singleton] at hc; subst hc; rfl
  | _, _, _, .eptr .., c, hc => by simp only [List.mem_singleton] at hc; subst hc; rfl
  | _, _, _, .rptr .., c, hc => by simp only [List.mem_singleton] at hc; subst hc; rfl
  | _, _, _, .dead hl h1, c, hc => h1 c hc
theorem RTs.one : ∀ {ts : List TD} {cs : List Value} {ps : List PV}, RTs w E ts cs ps → ∀ c ∈ cs, c.oneCell' = true
  | _, _, _, .nil, c, hc => by simp at hc
  | _, _, _, .cons h hs, c, hc => by
    rcases List.mem_append.1 hc with h1 | h1
    · exact RT.one h c h1
    · exact RTs.one hs c h1
end

theorem valOf_cells {td : TD} {cs : List Value} (h1 : ∀ c ∈ cs, c.oneCell' = true) (hl : cs.length = td.size) : (td.valOf cs).cells = cs.toArray := by
  unfold TD.valOf
  cases hg : td.isAgg with
  | true => rfl
  | false =>
    have h2 : td.size = 1 := by cases td <;> first | rfl | simp [TD.isAgg] at hg
    rw [h2] at hl
    obtain ⟨v, rfl⟩ := List.length_eq_one_iff.1 hl
    have := h1 v (by simp)
    cases v <;> first | rfl | simp [Value.oneCell'] at this

/-- A live value's cells. -/
theorem RV.rt {td : TD} {v : Value} {p : PV} (h : RV w E td v p) (hp : p.live = true) (ht : ∀ ts, td ≠ .tup ts) : ∃ cs, RT w E td cs p ∧ v = td.valOf cs ∧ v.cells = cs.toArray := by
  cases h with
  | cells h hv => exact ⟨_, h, hv, by rw [hv]; exact valOf_cells h.one h.length⟩
  | tup h => exact absurd rfl (ht _)
  | undef => simp [PV.live] at hp
  | dead => simp [PV.live] at hp
theorem chkTD.notTup {td : TD} {t : TypeId} (h : chkTD P td t = true) : ∀ ts, td ≠ .tup ts := by
  rintro ts rfl
  simp [chkTD] at h

/-- A box more. -/
theorem Rel.addBox (h : Rel F st a w E) {d : Nat} {p : PV} {td : TD} {ad : Addr} (hn : look d st.bx = none) (hb : E.bb d = some (td, ad)) (hp : BoxRep w E td ad p) (ho : Ok { st with bx := (d, p) :: st.bx } p)
    (hd : (∀ x, ¬ Holds st E x ad.block) ∧ (F.P0 ad.block ∨ F.w0.heap.size ≤ ad.block)) (hpb : ∀ x, F.PB d = some x → E.bb d = some x) :
    Rel F { st with bx := (d, p) :: st.bx } a w E := by
  have back : ∀ x b, Holds { st with bx := (d, p) :: st.bx } E x b → (x = .inr d ∧ b = ad.block) ∨ Holds st E x b := by
    intro x b hH
    cases hH with
    | row h1 h2 h3 => exact .inr (.row h1 h2 h3)
    | mp h1 h2 => exact .inr (.mp h1 h2)
    | box h1 h2 =>
      simp only [look] at h1
      split at h1
      · rename_i e
        subst e
        rw [hb] at h2
        injection h2 with h2
        injection h2 with _ h2
        subst h2
        exact .inl ⟨rfl, rfl⟩
      · exact .inr (.box h1 h2)
  have upb : ∀ s v, look s st.bx = some v → ∃ v', look s ((d, p) :: st.bx) = some v' := by
    intro s v hv
    simp only [look]
    split
    · exact ⟨_, rfl⟩
    · exact ⟨_, hv⟩
  have up : ∀ r, OkId st r → OkId { st with bx := (d, p) :: st.bx } r := fun r hr => hr.mono (fun s v hv => ⟨v, hv⟩) upb
  refine ⟨h.defers, h.size, h.slots, ?_, h.regs, ?_, ⟨?_, ?_, fun r g hg => up r (h.named.rg r g hg)⟩, h.since, ?_, h.outer, fun b x y hx hy => ?_⟩
  · intro b q hq
    simp only [look] at hq
    split at hq
    · rename_i e
      subst e
      injection hq with hq
      subst hq
      exact ⟨td, ad, hb, hp⟩
    · exact h.boxes b q hq
  · intro x y b hx hy
    rcases back _ _ hx with ⟨rfl, e1⟩ | e1 <;> rcases back _ _ hy with ⟨rfl, e2⟩ | e2
    · rfl
    · subst e1; exact absurd e2 (hd.1 y)
    · subst e2; exact absurd e1 (hd.1 x)
    · exact h.dist x y b e1 e2
  · intro s q hq
    have := h.named.sl s q hq
    exact ⟨fun r hr => up r (this.1 r hr), fun b hb => by obtain ⟨v, hv⟩ := this.2 b hb; exact upb b v hv⟩
  · intro s q hq
    simp only [look] at hq
    split at hq
    · injection hq with hq
      subst hq
      exact ho
    · have := h.named.bx s q hq
      exact ⟨fun r hr => up r (this.1 r hr), fun b hb => by obtain ⟨v, hv⟩ := this.2 b hb; exact upb b v hv⟩
  · intro x b hx
    rcases back _ _ hx with ⟨rfl, rfl⟩ | e
    · exact hd.2
    · exact h.fresh x b e
  · simp only [look] at hy
    split at hy
    · rename_i e; subst e; exact hpb _ hx
    · exact h.pbox _ _ _ hx hy

/-- A new block. -/
theorem alloc_size (w : World) (o : Obj) : w.heap.size ≤ (w.alloc o).heap.size := by
  show w.heap.size ≤ (w.heap.push o).size
  simp
theorem alloc_get_lt {o : Obj} {b : Nat} (hb : b < w.heap.size) : (w.alloc o).heap[b]? = w.heap[b]? := Go.RowKit.Below.heap_alloc w o b hb
theorem alloc_get_new {o : Obj} : (w.alloc o).heap[w.heap.size]? = some o := by
  show (w.heap.push o)[w.heap.size]? = _
  simp
theorem Since.alloc {P0 : Nat → Prop} {w0 : World} {o : Obj} (h : Since w0 w P0) : Since w0 (w.alloc o) P0 :=
  ⟨h.os, h.tape, h.output, Nat.le_trans h.size (alloc_size w o), fun b hP hb => (alloc_get_lt (Nat.lt_of_lt_of_le hb h.size)).trans (h.block b hP hb)⟩

theorem Rel.newBox (h : Rel F st a w E) {d : Nat} {td : TD} {t : TypeId} {p : PV} {cs : List Value} (hn : look d st.bx = none) (hN : d < F.N) (hΓ : F.Γ d = .ptr td) (hp : RT w E td cs p) (ho : Ok st p) (hnp : F.np ≤ d) :
    ∃ E', Rel F { st with sl := put d (.ptr d []) st.sl, bx := (d, p) :: st.bx } (a.put (some d) (.pointer (some ⟨w.heap.size, 0, none⟩))) (w.alloc (.cells cs.toArray t)) E' := by
  let X' : Nat → Prop := fun b => E.X b ∨ b = w.heap.size
  let E' : Env := { X := X', rb := E.rb, bb := fun q => if q = d then some (td, ⟨w.heap.size, 0, none⟩) else E.bb q }
  have hk : Keeps w (w.alloc (.cells cs.toArray t)) E.X E'.X := ⟨alloc_size _ _, fun b _ hb => alloc_get_lt hb, fun b hb hx => by rcases hx with hx | hx; exact hx; omega⟩
  have hbb : ∀ b x, look b st.bx = some x → E'.bb b = E.bb b := fun b x hx => by
    show (if b = d then _ else _) = _
    rw [if_neg (fun e => by subst e; rw [hn] at hx; cases hx)]
  have h1 : Rel F st a (w.alloc (.cells cs.toArray t)) E' := h.extend hk (fun x b hH => ⟨alloc_get_lt (h.held_lt hH), .inl (h.held_own hH)⟩) (fun _ _ => rfl) hbb h.since.alloc (fun b k1 k2 k3 => .inl (h.outer b k1 k2 k3))
  have hbd : E'.bb d = some (td, ⟨w.heap.size, 0, none⟩) := by show (if _ then _ else _) = _; rw [if_pos rfl]
  have hp' : RT (w.alloc (.cells cs.toArray t)) E' td cs p := hp.keeps hk ⟨fun _ _ => rfl, fun b hb => by obtain ⟨x, hx⟩ := ho.2 b hb; exact hbb b x hx⟩
  have h2 := h1.addBox (d := d) (p := p) hn hbd ⟨.inr rfl, rfl, cs.toArray, t, cs, alloc_get_new, fun j v hj => by simpa using hj, hp'⟩
    ⟨fun r hr => (ho.1 r hr).mono (fun s v hv => ⟨v, hv⟩) (fun s v hv => by simp only [look]; split; exact ⟨_, rfl⟩; exact ⟨v, hv⟩), fun b hb => by obtain ⟨x, hx⟩ := ho.2 b hb; simp only [look]; split; exact ⟨_, rfl⟩; exact ⟨x, hx⟩⟩
    ⟨fun x hx => by
      have hx' : ∀ b, Holds st E' x b → Holds st E x b := by
        intro b hx
        cases hx with
        | row k1 k2 k3 => exact .row k1 k2 k3
        | mp k1 k2 => exact .mp k1 k2
        | box k1 k2 => exact .box k1 ((hbb _ _ k1) ▸ k2)
      exact absurd (h.held_lt (hx' _ hx)) (by show ¬ w.heap.size < w.heap.size; omega), .inr h.since.size⟩
    (fun x hx => by rw [F.hnp d hnp] at hx; cases hx)
  exact ⟨E', h2.putS (d := d) (p := .ptr d []) hN (by rw [hΓ]; exact .cells (cs := [_]) (RT.ptr (path := []) hbd rfl) rfl)
    ⟨by simp [ids], fun b hb => by simp only [bxs, List.mem_singleton] at hb; subst hb; simp [look]⟩⟩

mutual
theorem zero_ids : ∀ td : TD, ids td.zero = [] ∧ bxs td.zero = []
  | .bool => ⟨rfl, rfl⟩
  | .int _ => ⟨rfl, rfl⟩
  | .str => ⟨rfl, rfl⟩
  | .slice _ => ⟨rfl, rfl⟩
  | .struct fs => by simpa [TD.zero, ids, bxs] using zeros_ids fs
  | .arr _ _ => ⟨rfl, rfl⟩
  | .ptr _ => ⟨rfl, rfl⟩
  | .map _ _ => ⟨rfl, rfl⟩
  | .func => ⟨rfl, rfl⟩
  | .tup _ => ⟨rfl, rfl⟩
theorem zeros_ids : ∀ fs : List TD, idss (TD.zeros fs) = [] ∧ bxss (TD.zeros fs) = []
  | [] => ⟨rfl, rfl⟩
  | t :: ts => by
    have a := zero_ids t
    have b := zeros_ids ts
    simp [TD.zeros, idss, bxss, a.1, a.2, b.1, b.2]
end
mutual
theorem zero_rt (w : World) (E : Env) : ∀ {td : TD} {t : TypeId}, chkTD P td t = true → RT w E td td.zcells td.zero
  | .bool, _, h => .imm (zero_imm w E.X h)
  | .int _, _, h => .imm (zero_imm w E.X h)
  | .str, _, h => .imm (zero_imm w E.X h)
  | .slice _, _, h => .nil
  | .struct fs, _, h => by
    obtain ⟨fields, _, hc⟩ := chkTD.struct h
    exact .struct (zeros_rt w E hc)
  | .arr n e, _, h => .imm (zero_imm w E.X h)
  | .ptr _, _, h => .imm (zero_imm w E.X h)
  | .map _ _, _, h => .imm (zero_imm w E.X h)
  | .func, _, h => .imm (zero_imm w E.X h)
  | .tup _, _, h => by simp [chkTD] at h
theorem zeros_rt (w : World) (E : Env) : ∀ {fs : List TD} {off : Nat} {fields : List Field}, chkFs P fs off fields = true → RTs w E fs (TD.zcellss fs) (TD.zeros fs)
  | [], _, _, _ => .nil
  | t :: ts, off, f :: fs, h => by
    simp only [chkFs, Bool.and_eq_true] at h
    exact .cons (zero_rt w E h.1.2) (zeros_rt w E h.2)
  | _ :: _, _, [], h => by simp [chkFs] at h
end

theorem alloc_sound {td : TD} {t : TypeId} (h : Rel F st a w E) (ho : o.op = .alloc t) (hnp : ∀ n, o.dst = some n → F.np ≤ n) (hc : chkTD P td t = true) (hd : dOk F.Γ F.N o.dst (.ptr td) = true)
    (hst : step C st o.dst (.alloc td) = some st') (hK : ∀ a' w' E', Rel F st' a' w' E' → K a' w') : o.wp P a w K Q := by
  obtain ⟨n, hn, hN, hΓ⟩ := dOk_spec hd
  simp only [step, hn, St.newBox] at hst
  split at hst
  · cases hst
  · split at hst
    · rename_i hl
      simp only [Option.some.injEq] at hst
      subst hst
      have hz := zero_rt w E hc
      have hok : Ok st td.zero := Ok.of_nil (zero_ids td).1 (zero_ids td).2
      obtain ⟨E', hr⟩ := h.newBox (t := t) hl hN hΓ hz hok (hnp _ hn)
      refine upon_value (w' := w.alloc (.cells td.zcells.toArray t)) ?_ (hK _ _ E' (by rw [hn]; exact hr))
      have hcells : (td.valOf td.zcells).cells = td.zcells.toArray := valOf_cells hz.one hz.length
      simp only [execOp, ho, Instr.alloc, Sem.run_bind, zeroValue_run hc, Result.andThen_ok, newVar, newRow, run_newObj, Sem.run_pure, hcells]
      rfl
    · cases hst
end Go.Vm
end
