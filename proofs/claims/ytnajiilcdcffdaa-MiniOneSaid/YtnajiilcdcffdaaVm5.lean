/- A virtual machine for loaded programs, and that the interpreter does what it does. No conditions beyond each theorem. One operation: what is looked at before the proof, and that it steps as the interpreter does. One operation that has been looked at steps as the interpreter does. Several operations, one after the other. At a region's end: what is kept gets new names. At a region's end: all slots, all boxes. At a region's end: the state that stays. At a region's end: the relation stands. Whole code. Whole functions, whole programs. Drawn orders: an operation reads alike in states that agree where it looks. Drawn orders: the operations that only read. -/
import Derived.Test.YtnajiilcdcffdaaVm4
import Derived.LoopN
import Derived.Scope
section
set_option linter.unusedSimpArgs false
set_option linter.unusedVariables false
namespace Go.Vm
variable {P : Program} {F : Fr} {w w' : World} {st st' : St} {a a' : Act} {E E' : Env} {K : Act → World → Prop} {Q : Exit → Act → World → Prop} {o : Oper} {C : Nat → List PV → Option (PV × List PV)}

/-- An operand's type, as far as one sees it. -/
def tyOf (Γ : Nat → TD) : Operand → Option TD
  | .tmp n => some (Γ n)
  | .const (.int k _) => some (.int k)
  | .const (.bool _) => some .bool
  | .const (.string _) => some .str
  | _ => none
def dTy (Γ : Nat → TD) (N : Nat) (d : Option Nat) : Option TD :=
  match d with
  | some d => if d < N then some (Γ d) else none
  | none => none
def newOk (np : Nat) (d : Option Nat) : Bool :=
  match d with
  | some d => decide (np ≤ d)
  | none => true
theorem newOk_spec {np : Nat} {d : Option Nat} (h : newOk np d = true) : ∀ n, d = some n → np ≤ n := by
  rintro n rfl
  simpa [newOk] using h
theorem tdEq_refl (td : TD) : tdEq td td = true := by
  have : ∀ td : TD, tdEq td td = true := by
    intro td
    induction td using TD.rec (motive_2 := fun l => tdEqs l l = true) <;> simp_all [tdEq, tdEqs]
  exact this td
theorem dTy_spec {Γ : Nat → TD} {N : Nat} {d : Option Nat} {td : TD} (h : dTy Γ N d = some td) : dOk Γ N d td = true := by
  unfold dTy at h
  split at h
  · split at h
    · rename_i hN
      injection h with h
      subst h
      simp [dOk, hN, tdEq_refl]
    · cases h
  · cases h

section
variable (P : Program) (Γ : Nat → TD) (N np : Nat) (o : Oper)

def okMove (y : VA) : Bool := match dTy Γ N o.dst with
  | some td => (match o.op with | .move x => argOk Γ x y td | .assign x => argOk Γ x y td | _ => false)
  | none => false
def okPick (c' x' z' : VA) : Bool := match dTy Γ N o.dst with
  | some td => (match o.op with | .pick c x z => argOk Γ c c' .bool && argOk Γ x x' td && argOk Γ z z' td | _ => false)
  | none => false
def okAlloc (td : TD) : Bool := match o.op with
  | .alloc t => chkTD P td t && dOk Γ N o.dst (.ptr td) && newOk np o.dst
  | _ => false
def okBox (td : TD) (y : VA) : Bool := match o.op with
  | .box t x => chkTD P td t && argOk Γ x y td && dOk Γ N o.dst (.ptr td) && newOk np o.dst
  | _ => false
def okBuild (td : TD) (ps : List (Nat × VA)) : Bool := match td with
  | .struct fs => (match o.op with
    | .build t parts => chkTD P (.struct fs) t && partsOk Γ (fun i => (TD.field fs i).map (·.1)) parts.toList ps && dOk Γ N o.dst (.struct fs)
    | _ => false)
  | .arr n e => (match o.op with
    | .build t parts => chkTD P (.arr n e) t && partsOk Γ (fun _ => some e) parts.toList ps && dOk Γ N o.dst (.arr n e)
    | _ => false)
  | _ => false
def okBuildSlice (e : TD) (len : Nat) (ps : List (Nat × VA)) : Bool := match o.op with
  | .buildSlice t len' parts => decide (len' = len) && chkTD P (.slice e) t && decide (0 < e.size) && decide (len * e.size ≤ 16777216) && partsOk Γ (fun _ => some e) parts.toList ps && dOk Γ N o.dst (.slice e)
  | _ => false
def okLoad (y : VA) : Bool := match dTy Γ N o.dst with
  | some td => (match o.op with | .load t x => chkTD P td t && argOk Γ x y (.ptr td) | _ => false)
  | none => false
def okStore (x' v' : VA) : Bool := match o.op with
  | .store t x v => (match tyOf Γ x with
    | some (.ptr td) => chkTD P td t && decide (0 < td.size) && argOk Γ x x' (.ptr td) && argOk Γ v v' td && decide (o.dst = none)
    | _ => false)
  | _ => false
def okNil (y : VA) : Bool := match dTy Γ N o.dst with
  | some td => (match o.op with | .nilCheck x => argOk Γ x y td | _ => false)
  | none => false
def okBin (op : BinOp) (y j : VA) : Bool := match o.op with
  | .binOp op' t x z _ => decide (op' = op) && (match (match tyOf Γ x with | some td => some td | none => tyOf Γ z) with
    | some (.int k) => if op = .shl ∨ op = .shr then argOk Γ x y (.int k) && idxOk Γ z j && dOk Γ N o.dst (.int k)
        else argOk Γ x y (.int k) && argOk Γ z j (.int k) && dOk Γ N o.dst (binTD op (.int k))
    | some .str => argOk Γ x y .str && argOk Γ z j .str && dOk Γ N o.dst (binTD op .str)
    | some .bool => decide (op = .eql ∨ op = .neq) && chkTD P .bool t && argOk Γ x y .bool && argOk Γ z j .bool && dOk Γ N o.dst .bool
    | some (.slice e) => decide (op = .eql ∨ op = .neq) && chkTD P (.slice e) t && argOk Γ x y (.slice e) && argOk Γ z j (.slice e) && dOk Γ N o.dst .bool
    | some td => decide (op = .eql ∨ op = .neq) && td.isAgg && chkTD P td t && chkEq P td t && decide (td.dep < 10000) && !P.eqGuardType P.depth t && argOk Γ x y td && argOk Γ z j td && dOk Γ N o.dst .bool
    | none => false)
  | _ => false
def okUn (op : UnOp) (y : VA) : Bool := match o.op with
  | .unOp op' t x => decide (op' = op) && (match op with
    | .not => argOk Γ x y .bool && dOk Γ N o.dst .bool
    | .neg => (match dTy Γ N o.dst with | some (.int k) => argOk Γ x y (.int k) | _ => false)
    | _ => false)
  | _ => false
def okConvInt (k : IntKind) (y : VA) : Bool := match o.op with
  | .convert s t x => (match tyOf Γ x with
    | some (.int j) => chkTD P (.int j) s && chkTD P (.int k) t && argOk Γ x y (.int j) && dOk Γ N o.dst (.int k)
    | _ => false)
  | _ => false
def okConvBytes (y : VA) : Bool := match o.op with
  | .convert s t x => chkTD P .str s && chkTD P (.slice (.int .u8)) t && argOk Γ x y .str && dOk Γ N o.dst (.slice (.int .u8))
  | _ => false
def okConvStr (y : VA) : Bool := match o.op with
  | .convert s t x => chkTD P (.slice (.int .u8)) s && chkTD P .str t && argOk Γ x y (.slice (.int .u8)) && dOk Γ N o.dst .str
  | _ => false
def okMakeSlice (e : TD) (bytes : Nat) (l c : VA) : Bool := match o.op with
  | .makeSlice t x y => (match tyOf Γ x, tyOf Γ y with
    | some (.int kl), some (.int kc) => (match P.underlying t with
      | some (.slice te) => (match P.info? te with
        | some i => decide (i.bytes = bytes) && chkTD P (.slice e) t && decide (0 < e.size) && argOk Γ x l (.int kl) && argOk Γ y c (.int kc) && dOk Γ N o.dst (.slice e)
        | none => false)
      | _ => false)
    | _, _ => false)
  | _ => false
def okSlice (y : VA) (lo' hi' : Option VA) : Bool := match o.op with
  | .slice t x lo hi none => (match tyOf Γ x with
    | some .str => chkTD P .str t && argOk Γ x y .str && optOk Γ lo lo' && optOk Γ hi hi' && dOk Γ N o.dst .str
    | some (.slice e) => chkTD P (.slice e) t && argOk Γ x y (.slice e) && optOk Γ lo lo' && optOk Γ hi hi' && dOk Γ N o.dst (.slice e)
    | _ => false)
  | _ => false
def okFieldAddr (y : VA) (f : Nat) : Bool := match o.op with
  | .fieldAddr t x f' => (match tyOf Γ x with
    | some (.ptr (.struct fs)) => (match TD.field fs f with
      | some (td, _) => decide (f' = f) && chkTD P (.struct fs) t && argOk Γ x y (.ptr (.struct fs)) && dOk Γ N o.dst (.ptr td)
      | none => false)
    | _ => false)
  | _ => false
def okField (y : VA) (f : Nat) : Bool := match o.op with
  | .field t x f' => (match tyOf Γ x with
    | some (.struct fs) => (match TD.field fs f with
      | some (td, _) => decide (f' = f) && chkTD P (.struct fs) t && argOk Γ x y (.struct fs) && dOk Γ N o.dst td
      | none => false)
    | _ => false)
  | _ => false
def okIndexAddr (y j : VA) : Bool := match o.op with
  | .indexAddr t x i => (match tyOf Γ x with
    | some (.slice e) => chkTD P (.slice e) t && argOk Γ x y (.slice e) && idxOk Γ i j && dOk Γ N o.dst (.ptr e)
    | some (.ptr (.arr m e)) => chkTD P (.arr m e) t && argOk Γ x y (.ptr (.arr m e)) && idxOk Γ i j && dOk Γ N o.dst (.ptr e)
    | _ => false)
  | _ => false
def okIndex (y j : VA) : Bool := match o.op with
  | .index t x i => (match tyOf Γ x with
    | some .str => chkTD P .str t && argOk Γ x y .str && idxOk Γ i j && dOk Γ N o.dst (.int .u8)
    | some (.arr m e) => chkTD P (.arr m e) t && argOk Γ x y (.arr m e) && idxOk Γ i j && dOk Γ N o.dst e
    | _ => false)
  | _ => false
def okExtract (y : VA) (i : Nat) : Bool := match o.op with
  | .extract x i' => (match tyOf Γ x with
    | some (.tup ts) => (match ts[i]? with
      | some td => decide (i' = i) && argOk Γ x y (.tup ts) && dOk Γ N o.dst td
      | none => false)
    | _ => false)
  | _ => false
def okMakeMap : Bool := match o.op with
  | .makeMap _ none => (match dTy Γ N o.dst with | some (.map _ _) => true | _ => false)
  | _ => false
def okLookup (e : TD) (x' y' : VA) (ok : Bool) : Bool := match o.op with
  | .lookup t x y ok' => (match P.underlying t with
    | some (.map tk te) => (match tyOf Γ x with
      | some (.map k _) => (ok' == ok) && chkTD P k tk && chkTD P e te && keyOk P k tk && argOk Γ x x' (.map k e) && argOk Γ y y' k && dOk Γ N o.dst (if ok then .tup [e, .bool] else e)
      | _ => false)
    | _ => false)
  | _ => false
def okUpd (t : TypeId) (x y z : Operand) (x' y' z' : VA) : Bool := match P.underlying t with
  | some (.map tk te) => (match tyOf Γ x with
    | some (.map k e) => chkTD P k tk && chkTD P e te && keyOk P k tk && argOk Γ x x' (.map k e) && argOk Γ y y' k && argOk Γ z z' e && decide (o.dst = none)
    | _ => false)
  | _ => false
def okMapUpdate (x' y' z' : VA) : Bool := match o.op with
  | .mapUpdate t x y z => okUpd P Γ o t x y z x' y' z'
  | .insert t x y z => okUpd P Γ o t x y z x' y' z'
  | _ => false
def okLen (y : VA) : Bool := match o.op with
  | .call ⟨.builtin .len, ⟨[x]⟩, ts⟩ => (match ts[0]?, tyOf Γ x with
    | some t, some td => (match td with | .str | .slice _ | .arr _ _ | .map _ _ => true | _ => false) && chkTD P td t && argOk Γ x y td && dOk Γ N o.dst (.int .i64)
    | _, _ => false)
  | _ => false
def okAppend (bytes : Nat) (x' y' : VA) : Bool := match o.op with
  | .call ⟨.builtin .append, ⟨[x, y]⟩, ⟨[t, u]⟩⟩ => (match P.underlying t, dTy Γ N o.dst with
    | some (.slice te), some (.slice e) => (match P.info? te with
      | some i => decide (i.bytes = bytes) && decide (0 < i.bytes) && chkTD P (.slice e) t && argOk Γ x x' (.slice e) &&
          ((argOk Γ y y' (.slice e) && chkTD P (.slice e) u) || (argOk Γ y y' .str && chkTD P .str u && tdEq e (.int .u8)))
      | none => false)
    | _, _ => false)
  | _ => false
def okMinmax (mx : Bool) (y j : VA) : Bool := match o.op with
  | .call ⟨.builtin .max, ⟨[x, z]⟩, _⟩ => mx && (match dTy Γ N o.dst with | some (.int k) => argOk Γ x y (.int k) && argOk Γ z j (.int k) | _ => false)
  | .call ⟨.builtin .min, ⟨[x, z]⟩, _⟩ => !mx && (match dTy Γ N o.dst with | some (.int k) => argOk Γ x y (.int k) && argOk Γ z j (.int k) | _ => false)
  | _ => false
def okCall (T : Nat → Option (List TD × TD)) (f : Nat) (ys : List VA) (res : TD) : Bool := match o.op with
  | .call ⟨.value (.func g), xs, _⟩ => decide (g = f) && (match P.funcs[f]? with
    | some fn => fn.body.isSome && !(fn.name == "runtime.NumGoroutine")
    | none => false) && (match T f with
    | some (ts, res') => tdEq res' res && argsOk Γ xs.toList ys ts
    | none => false) && (match o.dst with | some d => decide (d < N) && tdEq (Γ d) res | none => true)
  | _ => false

def opOk (T : Nat → Option (List TD × TD)) : VO → Bool
  | .move y => okMove Γ N o y
  | .pick c x z => okPick Γ N o c x z
  | .alloc td => okAlloc P Γ N np o td
  | .box td y => okBox P Γ N np o td y
  | .build td ps => okBuild P Γ N o td ps
  | .buildSlice e len ps => okBuildSlice P Γ N o e len ps
  | .load y => okLoad P Γ N o y
  | .store x v => okStore P Γ o x v
  | .nilCheck y => okNil Γ N o y
  | .bin op y j => okBin P Γ N o op y j
  | .un op y => okUn Γ N o op y
  | .convInt k y => okConvInt P Γ N o k y
  | .convBytes y => okConvBytes P Γ N o y
  | .convStr y => okConvStr P Γ N o y
  | .makeSlice e b l c => okMakeSlice P Γ N o e b l c
  | .slice y lo hi => okSlice P Γ N o y lo hi
  | .fieldAddr y f => okFieldAddr P Γ N o y f
  | .field y f => okField P Γ N o y f
  | .indexAddr y j => okIndexAddr P Γ N o y j
  | .index y j => okIndex P Γ N o y j
  | .extract y i => okExtract Γ N o y i
  | .makeMap => okMakeMap Γ N o
  | .lookup e x y ok => okLookup P Γ N o e x y ok
  | .mapUpdate x y z => okMapUpdate P Γ o x y z
  | .call f ys res => okCall P Γ N o T f ys res
  | .len y => okLen P Γ N o y
  | .append b x y => okAppend P Γ N o b x y
  | .minmax mx x y => okMinmax Γ N o mx x y
end
end Go.Vm
end
section
set_option linter.unusedSimpArgs false
set_option linter.unusedVariables false
namespace Go.Vm
variable {P : Program} {F : Fr} {w w' : World} {st st' : St} {a a' : Act} {E E' : Env} {K : Act → World → Prop} {Q : Exit → Act → World → Prop} {o : Oper} {C : Nat → List PV → Option (PV × List PV)}

theorem callFunc_enters {f : Nat} {fn : Func} (hf : P.funcs[f]? = some fn) (hb : fn.body.isSome = true) (hn : (fn.name == "runtime.NumGoroutine") = false) (args : Array Value) (w : World) : (callFunc f args).run P w = .ok (.enter f args) w := by
  have hb' : fn.body.isNone = false := by cases h : fn.body <;> simp_all
  simp only [callFunc, Sem.run_bind, run_program, Result.andThen_ok, hf, hn, Bool.false_eq_true, if_false, hb', Sem.run_pure]

section
variable (h : Rel F st a w E) (hK : ∀ a' w' E', Rel F st' a' w' E' → K a' w')
include h hK

theorem okMove_sound {y : VA} (hok : okMove F.Γ F.N o y = true) (hst : step C st o.dst (.move y) = some st') : o.wp P a w K Q := by
  simp only [step] at hst
  unfold okMove at hok
  split at hok
  · rename_i td hd
    split at hst
    · rename_i v hv
      split at hok
      · rename_i x ho
        exact move_sound h (.inl ho) hok (dTy_spec hd) hv hst hK
      · rename_i x ho
        exact move_sound h (.inr ho) hok (dTy_spec hd) hv hst hK
      · cases hok
    · cases hst
  · cases hok
theorem okPick_sound {c x z : VA} (hok : okPick F.Γ F.N o c x z = true) (hst : step C st o.dst (.pick c x z) = some st') : o.wp P a w K Q := by
  simp only [step] at hst
  unfold okPick at hok
  split at hok
  · rename_i td hd
    split at hok
    · rename_i c0 x0 z0 ho
      simp only [Bool.and_eq_true] at hok
      split at hst
      · rename_i hc
        split at hst
        · rename_i v hv
          exact pick_sound (b := true) h ho hok.1.1 hok.1.2 hok.2 (dTy_spec hd) hc (by simpa using hv) hst hK
        · cases hst
      · rename_i hc
        split at hst
        · rename_i v hv
          exact pick_sound (b := false) h ho hok.1.1 hok.1.2 hok.2 (dTy_spec hd) hc (by simpa using hv) hst hK
        · cases hst
      · cases hst
    · cases hok
  · cases hok
theorem okAlloc_sound {td : TD} (hok : okAlloc P F.Γ F.N F.np o td = true) (hst : step C st o.dst (.alloc td) = some st') : o.wp P a w K Q := by
  unfold okAlloc at hok
  split at hok
  · rename_i t ho
    simp only [Bool.and_eq_true] at hok
    exact alloc_sound h ho (newOk_spec hok.2) hok.1.1 hok.1.2 hst hK
  · cases hok
theorem okBox_sound {td : TD} {y : VA} (hok : okBox P F.Γ F.N F.np o td y = true) (hst : step C st o.dst (.box td y) = some st') : o.wp P a w K Q := by
  unfold okBox at hok
  split at hok
  · rename_i t x ho
    simp only [Bool.and_eq_true] at hok
    exact box_sound h ho (newOk_spec hok.2) hok.1.1.1 hok.1.1.2 hok.1.2 hst hK
  · cases hok
theorem okBuild_sound {td : TD} {ps : List (Nat × VA)} (hok : okBuild P F.Γ F.N o td ps = true) (hst : step C st o.dst (.build td ps) = some st') : o.wp P a w K Q := by
  unfold okBuild at hok
  split at hok
  · split at hok
    · rename_i t parts ho
      simp only [Bool.and_eq_true] at hok
      exact build_struct_sound h ho hok.1.1 hok.1.2 hok.2 hst hK
    · cases hok
  · split at hok
    · rename_i t parts ho
      simp only [Bool.and_eq_true] at hok
      exact build_arr_sound h ho hok.1.1 hok.1.2 hok.2 hst hK
    · cases hok
  · cases hok
theorem okBuildSlice_sound {e : TD} {len : Nat} {ps : List (Nat × VA)} (hok : okBuildSlice P F.Γ F.N o e len ps = true) (hst : step C st o.dst (.buildSlice e len ps) = some st') : o.wp P a w K Q := by
  unfold okBuildSlice at hok
  split at hok
  · rename_i t len' parts ho
    simp only [Bool.and_eq_true, decide_eq_true_eq] at hok
    obtain ⟨⟨⟨⟨⟨rfl, h1⟩, h2⟩, h3⟩, h4⟩, h5⟩ := hok
    exact buildSlice_sound h ho h1 h2 h3 h4 h5 hst hK
  · cases hok
theorem okLoad_sound {y : VA} (hok : okLoad P F.Γ F.N o y = true) (hst : step C st o.dst (.load y) = some st') : o.wp P a w K Q := by
  unfold okLoad at hok
  split at hok
  · rename_i td hd
    split at hok
    · rename_i t x ho
      simp only [Bool.and_eq_true] at hok
      exact load_sound h ho hok.1 hok.2 (dTy_spec hd) hst hK
    · cases hok
  · cases hok
theorem okStore_sound {x' v' : VA} (hok : okStore P F.Γ o x' v' = true) (hst : step C st o.dst (.store x' v') = some st') : o.wp P a w K Q := by
  unfold okStore at hok
  split at hok
  · rename_i t x v ho
    split at hok
    · rename_i td htd
      simp only [Bool.and_eq_true, decide_eq_true_eq] at hok
      obtain ⟨⟨⟨⟨h1, h2⟩, h3⟩, h4⟩, h5⟩ := hok
      exact store_sound h ho h1 h2 h3 h4 h5 hst hK
    · cases hok
  · cases hok
theorem okNil_sound {y : VA} (hok : okNil F.Γ F.N o y = true) (hst : step C st o.dst (.nilCheck y) = some st') : o.wp P a w K Q := by
  unfold okNil at hok
  split at hok
  · rename_i td hd
    split at hok
    · rename_i x ho
      exact nilCheck_sound h ho hok (dTy_spec hd) hst hK
    · cases hok
  · cases hok
theorem okBin_sound {op : BinOp} {y j : VA} (hok : okBin P F.Γ F.N o op y j = true) (hst : step C st o.dst (.bin op y j) = some st') : o.wp P a w K Q := by
  unfold okBin at hok
  split at hok
  · rename_i op' t x z t' ho
    simp only [Bool.and_eq_true, decide_eq_true_eq] at hok
    obtain ⟨rfl, hok⟩ := hok
    split at hok
    · rename_i k _
      split at hok
      · rename_i hs
        simp only [Bool.and_eq_true] at hok
        exact shift_sound h ho hs hok.1.1 hok.1.2 hok.2 hst hK
      · rename_i hs
        simp only [Bool.and_eq_true] at hok
        exact bin_int_sound h ho (not_or.1 hs) hok.1.1 hok.1.2 hok.2 hst hK
    · simp only [Bool.and_eq_true] at hok
      exact bin_str_sound h ho hok.1.1 hok.1.2 hok.2 hst hK
    · simp only [Bool.and_eq_true, decide_eq_true_eq] at hok
      obtain ⟨⟨⟨⟨h1, h2⟩, h3⟩, h4⟩, h5⟩ := hok
      exact bin_bool_sound h ho h2 h1 h3 h4 h5 hst hK
    · simp only [Bool.and_eq_true, decide_eq_true_eq] at hok
      obtain ⟨⟨⟨⟨h1, h2⟩, h3⟩, h4⟩, h5⟩ := hok
      exact bin_nil_sound h ho h2 h1 h3 h4 h5 hst hK
    · simp only [Bool.and_eq_true, decide_eq_true_eq, Bool.not_eq_true'] at hok
      obtain ⟨⟨⟨⟨⟨⟨⟨⟨h1, h2⟩, h3⟩, h4⟩, h5⟩, h6⟩, h7⟩, h8⟩, h9⟩ := hok
      exact bin_agg_sound h ho h3 h1 h2 h4 h5 h6 h7 h8 h9 hst hK
    · cases hok
  · cases hok
theorem okUn_sound {op : UnOp} {y : VA} (hok : okUn F.Γ F.N o op y = true) (hst : step C st o.dst (.un op y) = some st') : o.wp P a w K Q := by
  unfold okUn at hok
  split at hok
  · rename_i op' t x ho
    simp only [Bool.and_eq_true, decide_eq_true_eq] at hok
    obtain ⟨rfl, hok⟩ := hok
    split at hok
    · simp only [Bool.and_eq_true] at hok
      exact un_not_sound h ho hok.1 hok.2 hst hK
    · split at hok
      · rename_i k hd
        exact un_neg_sound h ho hok (dTy_spec hd) hst hK
      · cases hok
    · cases hok
  · cases hok
theorem okConvInt_sound {k : IntKind} {y : VA} (hok : okConvInt P F.Γ F.N o k y = true) (hst : step C st o.dst (.convInt k y) = some st') : o.wp P a w K Q := by
  unfold okConvInt at hok
  split at hok
  · rename_i s t x ho
    split at hok
    · rename_i j hj
      simp only [Bool.and_eq_true] at hok
      exact convInt_sound h ho hok.1.1.1 hok.1.1.2 hok.1.2 hok.2 hst hK
    · cases hok
  · cases hok
theorem okConvBytes_sound {y : VA} (hok : okConvBytes P F.Γ F.N o y = true) (hst : step C st o.dst (.convBytes y) = some st') : o.wp P a w K Q := by
  unfold okConvBytes at hok
  split at hok
  · rename_i s t x ho
    simp only [Bool.and_eq_true] at hok
    exact convBytes_sound h ho hok.1.1.1 hok.1.1.2 hok.1.2 hok.2 hst hK
  · cases hok
theorem okConvStr_sound {y : VA} (hok : okConvStr P F.Γ F.N o y = true) (hst : step C st o.dst (.convStr y) = some st') : o.wp P a w K Q := by
  unfold okConvStr at hok
  split at hok
  · rename_i s t x ho
    simp only [Bool.and_eq_true] at hok
    exact convStr_sound h ho hok.1.1.1 hok.1.1.2 hok.1.2 hok.2 hst hK
  · cases hok
theorem okMakeSlice_sound {e : TD} {b : Nat} {l c : VA} (hok : okMakeSlice P F.Γ F.N o e b l c = true) (hst : step C st o.dst (.makeSlice e b l c) = some st') : o.wp P a w K Q := by
  unfold okMakeSlice at hok
  split at hok
  · rename_i t x y ho
    split at hok
    · rename_i kl kc h1 h2
      split at hok
      · rename_i te hte
        split at hok
        · rename_i i hi
          simp only [Bool.and_eq_true, decide_eq_true_eq] at hok
          obtain ⟨⟨⟨⟨⟨rfl, g2⟩, g3⟩, g4⟩, g5⟩, g6⟩ := hok
          exact makeSlice_sound h ho g2 g3 hte hi g4 g5 g6 hst hK
        · cases hok
      · cases hok
    · cases hok
  · cases hok
theorem okSlice_sound {y : VA} {lo hi : Option VA} (hok : okSlice P F.Γ F.N o y lo hi = true) (hst : step C st o.dst (.slice y lo hi) = some st') : o.wp P a w K Q := by
  unfold okSlice at hok
  split at hok
  · rename_i t x l hh ho
    split at hok
    · simp only [Bool.and_eq_true] at hok
      exact slice_str_sound h ho hok.1.1.1.1 hok.1.1.1.2 hok.1.1.2 hok.1.2 hok.2 hst hK
    · simp only [Bool.and_eq_true] at hok
      exact slice_sound h ho hok.1.1.1.1 hok.1.1.1.2 hok.1.1.2 hok.1.2 hok.2 hst hK
    · cases hok
  · cases hok
theorem okFieldAddr_sound {y : VA} {f : Nat} (hok : okFieldAddr P F.Γ F.N o y f = true) (hst : step C st o.dst (.fieldAddr y f) = some st') : o.wp P a w K Q := by
  unfold okFieldAddr at hok
  split at hok
  · rename_i t x f' ho
    split at hok
    · split at hok
      · rename_i td off hf
        simp only [Bool.and_eq_true, decide_eq_true_eq] at hok
        obtain ⟨⟨⟨rfl, h1⟩, h2⟩, h3⟩ := hok
        exact fieldAddr_sound h ho h1 hf h2 h3 hst hK
      · cases hok
    · cases hok
  · cases hok
theorem okField_sound {y : VA} {f : Nat} (hok : okField P F.Γ F.N o y f = true) (hst : step C st o.dst (.field y f) = some st') : o.wp P a w K Q := by
  unfold okField at hok
  split at hok
  · rename_i t x f' ho
    split at hok
    · split at hok
      · rename_i td off hf
        simp only [Bool.and_eq_true, decide_eq_true_eq] at hok
        obtain ⟨⟨⟨rfl, h1⟩, h2⟩, h3⟩ := hok
        exact field_sound h ho h1 hf h2 h3 hst hK
      · cases hok
    · cases hok
  · cases hok
theorem okIndexAddr_sound {y j : VA} (hok : okIndexAddr P F.Γ F.N o y j = true) (hst : step C st o.dst (.indexAddr y j) = some st') : o.wp P a w K Q := by
  unfold okIndexAddr at hok
  split at hok
  · rename_i t x i ho
    split at hok
    · simp only [Bool.and_eq_true] at hok
      exact indexAddr_slice_sound h ho hok.1.1.1 hok.1.1.2 hok.1.2 hok.2 hst hK
    · simp only [Bool.and_eq_true] at hok
      exact indexAddr_array_sound h ho hok.1.1.1 hok.1.1.2 hok.1.2 hok.2 hst hK
    · cases hok
  · cases hok
theorem okIndex_sound {y j : VA} (hok : okIndex P F.Γ F.N o y j = true) (hst : step C st o.dst (.index y j) = some st') : o.wp P a w K Q := by
  unfold okIndex at hok
  split at hok
  · rename_i t x i ho
    split at hok
    · simp only [Bool.and_eq_true] at hok
      exact index_str_sound h ho hok.1.1.1 hok.1.1.2 hok.1.2 hok.2 hst hK
    · simp only [Bool.and_eq_true] at hok
      exact index_arr_sound h ho hok.1.1.1 hok.1.1.2 hok.1.2 hok.2 hst hK
    · cases hok
  · cases hok
theorem okExtract_sound {y : VA} {i : Nat} (hok : okExtract F.Γ F.N o y i = true) (hst : step C st o.dst (.extract y i) = some st') : o.wp P a w K Q := by
  unfold okExtract at hok
  split at hok
  · rename_i x i' ho
    split at hok
    · split at hok
      · rename_i td hi
        simp only [Bool.and_eq_true, decide_eq_true_eq] at hok
        obtain ⟨⟨rfl, h1⟩, h2⟩ := hok
        exact extract_sound h ho hi h1 h2 hst hK
      · cases hok
    · cases hok
  · cases hok
theorem okMakeMap_sound (hok : okMakeMap F.Γ F.N o = true) (hst : step C st o.dst .makeMap = some st') : o.wp P a w K Q := by
  unfold okMakeMap at hok
  split at hok
  · rename_i t ho
    split at hok
    · rename_i k e hd
      exact makeMap_sound h ho (dTy_spec hd) hst hK
    · cases hok
  · cases hok
theorem okLookup_sound {e : TD} {x' y' : VA} {ok : Bool} (hok : okLookup P F.Γ F.N o e x' y' ok = true) (hst : step C st o.dst (.lookup e x' y' ok) = some st') : o.wp P a w K Q := by
  unfold okLookup at hok
  split at hok
  · rename_i t x y ok' ho
    split at hok
    · rename_i tk te ht
      split at hok
      · rename_i k _ hk
        simp only [Bool.and_eq_true, beq_iff_eq] at hok
        obtain ⟨⟨⟨⟨⟨⟨rfl, h1⟩, h2⟩, h3⟩, h4⟩, h5⟩, h6⟩ := hok
        exact lookup_sound h ho ht h1 h2 h3 h4 h5 h6 hst hK
      · cases hok
    · cases hok
  · cases hok
theorem okMapUpdate_sound {x' y' z' : VA} (hok : okMapUpdate P F.Γ o x' y' z' = true) (hst : step C st o.dst (.mapUpdate x' y' z') = some st') : o.wp P a w K Q := by
  have upd : ∀ {t : TypeId} {x y z : Operand}, (o.op = .mapUpdate t x y z ∨ o.op = .insert t x y z) → okUpd P F.Γ o t x y z x' y' z' = true → o.wp P a w K Q := by
    intro t x y z ho hok
    unfold okUpd at hok
    split at hok
    · rename_i tk te ht
      split at hok
      · rename_i k e hk
        simp only [Bool.and_eq_true, decide_eq_true_eq] at hok
        obtain ⟨⟨⟨⟨⟨⟨h1, h2⟩, h3⟩, h4⟩, h5⟩, h6⟩, h7⟩ := hok
        exact mapUpdate_sound h ho ht h1 h2 h3 h4 h5 h6 h7 hst hK
      · cases hok
    · cases hok
  unfold okMapUpdate at hok
  split at hok
  · rename_i ho; exact upd (.inl ho) hok
  · rename_i ho; exact upd (.inr ho) hok
  · cases hok
theorem okLen_sound {y : VA} (hok : okLen P F.Γ F.N o y = true) (hst : step C st o.dst (.len y) = some st') : o.wp P a w K Q := by
  unfold okLen at hok
  split at hok
  · rename_i x ts ho
    split at hok
    · rename_i t td h1 h2
      simp only [Bool.and_eq_true] at hok
      exact len_sound h ho h1 hok.1.1.2 (by have h9 := hok.1.1.1; revert h9; cases td <;> (intro h9; first | rfl | exact h9)) hok.1.2 hok.2 hst hK
    · cases hok
  · cases hok
theorem okAppend_sound {b : Nat} {x' y' : VA} (hok : okAppend P F.Γ F.N o b x' y' = true) (hst : step C st o.dst (.append b x' y') = some st') : o.wp P a w K Q := by
  unfold okAppend at hok
  split at hok
  · rename_i x y t u ho
    split at hok
    · rename_i te e ht hd
      split at hok
      · rename_i i hi
        simp only [Bool.and_eq_true, decide_eq_true_eq, Bool.or_eq_true] at hok
        obtain ⟨⟨⟨⟨rfl, h1⟩, h2⟩, h3⟩, h4⟩ := hok
        refine append_sound (d := .bool) h ho h2 ht hi h1 h3 ?_ (dTy_spec hd) hst hK
        rcases h4 with h4 | h4
        · exact .inl h4
        · exact .inr ⟨h4.1.1, h4.1.2, tdEq_eq h4.2⟩
      · cases hok
    · cases hok
  · cases hok
theorem okMinmax_sound {mx : Bool} {y j : VA} (hok : okMinmax F.Γ F.N o mx y j = true) (hst : step C st o.dst (.minmax mx y j) = some st') : o.wp P a w K Q := by
  unfold okMinmax at hok
  split at hok
  · rename_i x z ts ho
    simp only [Bool.and_eq_true] at hok
    obtain ⟨rfl, hok⟩ := hok
    split at hok
    · rename_i k hd
      simp only [Bool.and_eq_true] at hok
      exact minmax_sound (mx := true) h ho hok.1 hok.2 (dTy_spec hd) hst hK
    · cases hok
  · rename_i x z ts ho
    simp only [Bool.and_eq_true, Bool.not_eq_true'] at hok
    obtain ⟨rfl, hok⟩ := hok
    split at hok
    · rename_i k hd
      simp only [Bool.and_eq_true] at hok
      exact minmax_sound (mx := false) h ho hok.1 hok.2 (dTy_spec hd) hst hK
    · cases hok
  · cases hok
theorem okCall_sound {T : Nat → Option (List TD × TD)} {f : Nat} {ys : List VA} {res : TD} (hS : Serves P T C) (hok : okCall P F.Γ F.N o T f ys res = true) (hst : step C st o.dst (.call f ys res) = some st') : o.wp P a w K Q := by
  unfold okCall at hok
  split at hok
  · rename_i g xs ats ho
    simp only [Bool.and_eq_true, decide_eq_true_eq] at hok
    obtain ⟨⟨⟨rfl, h1⟩, h2⟩, h3⟩ := hok
    split at h1
    · rename_i fn hf
      simp only [Bool.and_eq_true, Bool.not_eq_true'] at h1
      split at h2
      · rename_i ts res' hT
        simp only [Bool.and_eq_true] at h2
        obtain ⟨he, hargs⟩ := h2
        have he := tdEq_eq he
        subst he
        refine call_sound hS h ho (callFunc_enters hf h1.1 h1.2) hT hargs (fun d hd => ?_) hst hK
        rw [hd] at h3
        simp only [Bool.and_eq_true, decide_eq_true_eq] at h3
        exact ⟨h3.1, tdEq_eq h3.2⟩
      · cases h2
    · cases h1
  · cases hok

theorem opOk_sound {T : Nat → Option (List TD × TD)} {v : VO} (hS : Serves P T C) (hok : opOk P F.Γ F.N F.np o T v = true) (hst : step C st o.dst v = some st') : o.wp P a w K Q := by
  cases v with
  | move y => exact okMove_sound h hK hok hst
  | pick c x z => exact okPick_sound h hK hok hst
  | alloc td => exact okAlloc_sound h hK hok hst
  | box td y => exact okBox_sound h hK hok hst
  | build td ps => exact okBuild_sound h hK hok hst
  | buildSlice e len ps => exact okBuildSlice_sound h hK hok hst
  | load y => exact okLoad_sound h hK hok hst
  | store x v => exact okStore_sound h hK hok hst
  | nilCheck y => exact okNil_sound h hK hok hst
  | bin op y j => exact okBin_sound h hK hok hst
  | un op y => exact okUn_sound h hK hok hst
  | convInt k y => exact okConvInt_sound h hK hok hst
  | convBytes y => exact okConvBytes_sound h hK hok hst
  | convStr y => exact okConvStr_sound h hK hok hst
  | makeSlice e b l c => exact okMakeSlice_sound h hK hok hst
  | slice y lo hi => exact okSlice_sound h hK hok hst
  | fieldAddr y f => exact okFieldAddr_sound h hK hok hst
  | field y f => exact okField_sound h hK hok hst
  | indexAddr y j => exact okIndexAddr_sound h hK hok hst
  | index y j => exact okIndex_sound h hK hok hst
  | extract y i => exact okExtract_sound h hK hok hst
  | makeMap => exact okMakeMap_sound h hK hok hst
  | lookup e x y ok => exact okLookup_sound h hK hok hst
  | mapUpdate x y z => exact okMapUpdate_sound h hK hok hst
  | call f ys res => exact okCall_sound h hK hS hok hst
  | len y => exact okLen_sound h hK hok hst
  | append b x y => exact okAppend_sound h hK hok hst
  | minmax mx x y => exact okMinmax_sound h hK hok hst
end
end Go.Vm
end
section
set_option linter.unusedSimpArgs false
set_option linter.unusedVariables false
namespace Go.Vm
variable {P : Program} {F : Fr} {w w' : World} {st st' : St} {a a' : Act} {E E' : Env} {K : Act → World → Prop} {Q : Exit → Act → World → Prop} {o : Oper} {C : Nat → List PV → Option (PV × List PV)}

/-- The guard asks for what the operation with that number has left. -/
def guardOk (Γ : Nat → TD) (ops : Array Oper) (g : Option (Nat × Bool)) (v : Option (Nat × Bool)) : Bool :=
  match g, v with
  | none, none => true
  | some (j, b), some (s, c) => (b == c) && (match ops[j]? with | some o => (match o.dst with | some d => decide (d = s) && tdEq (Γ s) .bool | none => false) | none => false)
  | _, _ => false
theorem RV.isUndef {td : TD} {v : Value} (h : RV w E td v .undef) : v = Go.undef := by
  generalize hp : PV.undef = p at h
  cases h with
  | undef => rfl
  | cells hr hv =>
    subst hp
    cases hr with
    | imm hr => cases hr
  | tup => cases hp
  | dead => cases hp
theorem guard_run (h : Rel F st a w E) {ops : Array Oper} {o : Oper} {v : Option (Nat × Bool)} {b : Bool} (hg : guardOk F.Γ ops o.guard v = true) (hw : wantedV st v = some b) : Region.wanted o (yielded ops a.tmps) = b := by
  cases e : o.guard with
  | none =>
    rw [e] at hg
    cases v with
    | none =>
      simp only [wantedV, Option.some.injEq] at hw
      simp [Region.wanted, e, hw]
    | some _ => simp [guardOk] at hg
  | some jb =>
    obtain ⟨j, b1⟩ := jb
    rw [e] at hg
    cases v with
    | none => simp [guardOk] at hg
    | some sc =>
      obtain ⟨s, c⟩ := sc
      simp only [guardOk, Bool.and_eq_true, beq_iff_eq] at hg
      obtain ⟨rfl, hg⟩ := hg
      split at hg
      · rename_i oj hoj
        split at hg
        · rename_i d hd
          simp only [Bool.and_eq_true, decide_eq_true_eq] at hg
          obtain ⟨rfl, ht⟩ := hg
          simp only [wantedV] at hw
          split at hw
          · rename_i x hx
            injection hw with hw
            obtain ⟨mv, g1, g2⟩ := h.slots _ _ hx
            obtain ⟨g3, _⟩ := g2.bool
            subst g3
            simp [Region.wanted, e, yielded, hoj, hd, g1, ← hw]
          · rename_i hx
            injection hw with hw
            obtain ⟨mv, g1, g2⟩ := h.slots _ _ hx
            have := g2.isUndef
            subst this
            simp [Region.wanted, e, yielded, hoj, hd, g1, ← hw, Go.undef]
          · cases hw
        · cases hg
      · cases hg

def vopOk (P : Program) (T : Nat → Option (List TD × TD)) (Γ : Nat → TD) (N np : Nat) (ops : Array Oper) (o : Oper) (v : VOp) : Bool :=
  decide (o.dst = v.dst) && guardOk Γ ops o.guard v.guard && opOk P Γ N np o T v.op && (match o.dst with | some d => decide (d < N) | none => true)
def vopsOk (P : Program) (T : Nat → Option (List TD × TD)) (Γ : Nat → TD) (N np : Nat) (ops : Array Oper) : List Oper → List VOp → Bool
  | [], [] => true
  | o :: os, v :: vs => vopOk P T Γ N np ops o v && vopsOk P T Γ N np ops os vs
  | _, _ => false

/-- An operation that is left out. -/
theorem Rel.skipped (h : Rel F st a w E) {d : Nat} (hd : d < F.N) : Rel F { st with sl := put d .undef st.sl } (a.put (some d) Go.undef) w E :=
  h.putS hd .undef (Ok.of_nil rfl rfl)

theorem runOps_sound {T : Nat → Option (List TD × TD)} {ops : Array Oper} (hS : Serves P T C) : ∀ {os : List Oper} {vs : List VOp} {st st' : St} {a : Act} {w : World} {E : Env}, Rel F st a w E → vopsOk P T F.Γ F.N F.np ops os vs = true → runOps C vs st = some st' →
    (∀ a' w' E', Rel F st' a' w' E' → Q .normal a' w') → wpList P ops Q os a w
  | [], [], st, st', a, w, E, h, _, hr, hQ => by
    simp only [runOps, Option.some.injEq] at hr
    subst hr
    exact hQ _ _ _ h
  | o :: os, v :: vs, st, st', a, w, E, h, hok, hr, hQ => by
    simp only [vopsOk, vopOk, Bool.and_eq_true, decide_eq_true_eq] at hok
    obtain ⟨⟨⟨⟨hd, hg⟩, ho⟩, hN⟩, hrest⟩ := hok
    simp only [runOps] at hr
    split at hr
    · rename_i hw
      have hwant := guard_run h hg hw
      refine wpList_step fun K hK => ?_
      rw [if_pos hwant]
      split at hr
      · rename_i st1 hst
        rw [← hd] at hst
        exact opOk_sound h (fun a' w' E' h' => hK _ _ (runOps_sound hS h' hrest hr hQ)) hS ho hst
      · cases hr
    · rename_i hw
      have hwant := guard_run h hg hw
      refine wpList_step fun K hK => ?_
      rw [if_neg (by rw [hwant]; simp)]
      split at hr
      · rename_i d hd'
        rw [hd, hd']
        rw [hd, hd'] at hN
        exact hK _ _ (runOps_sound hS (h.skipped (by simpa using hN)) hrest hr hQ)
      · rename_i hd'
        rw [hd, hd']
        exact hK _ _ (runOps_sound hS h hrest hr hQ)
    · cases hr
  | [], _ :: _, _, _, _, _, _, _, hok, _, _ => by simp [vopsOk] at hok
  | _ :: _, [], _, _, _, _, _, _, hok, _, _ => by simp [vopsOk] at hok
end Go.Vm
end
section
set_option linter.unusedSimpArgs false
set_option linter.unusedVariables false
namespace Go.Vm
variable {P : Program} {F : Fr} {w w' : World} {st st' : St} {a a' : Act} {E E' : Env} {K : Act → World → Prop} {Q : Exit → Act → World → Prop} {o : Oper} {C : Nat → List PV → Option (PV × List PV)}

mutual
theorem RC.nm_same {X : Nat → Prop} (rg : List (RId × RegC)) (bs : List Nat) : ∀ {td : TD} {cs : List Value} {p : PV} (pl : RId) (n : Nm), RC w X td cs p → nmV rg bs pl n p = (p, n)
  | _, _, _, _, _, .bool b => rfl
  | _, _, _, _, _, .int k n => rfl
  | _, _, _, _, _, .str s => rfl
  | _, _, _, pl, n, .struct hs => by simp only [nmV, RCs.nm_same rg bs pl 0 n hs]
  | _, _, _, _, _, .arr _ _ => rfl
  | _, _, _, _, _, .slnil => rfl
  | _, _, _, _, _, .sl .. => rfl
  | _, _, _, _, _, .mapnil => rfl
  | _, _, _, _, _, .map .. => rfl
  | _, _, _, _, _, .fn f => rfl
  | _, _, _, _, _, .nilfn => rfl
  | _, _, _, _, _, .nilptr => rfl
theorem RCs.nm_same {X : Nat → Prop} (rg : List (RId × RegC)) (bs : List Nat) : ∀ {fs : List TD} {cs : List Value} {ps : List PV} (pl : RId) (i : Nat) (n : Nm), RCs w X fs cs ps → nmVs rg bs pl i n ps = (ps, n)
  | _, _, _, _, _, _, .nil => rfl
  | _, _, _, pl, i, n, .cons h hs => by simp only [nmVs, RC.nm_same rg bs (pl ++ [i]) n h, RCs.nm_same rg bs pl (i + 1) n hs]
end

/-- The old state and the new one, half made. -/
structure Link (F : Fr) (a : Act) (w : World) (st : St) (E : Env) (n : Nm) (new : St) (E' : Env) : Prop where
  rel : Rel F new a w E'
  rg : new.rg = n.rg
  X : E'.X = E.X
  bb : E'.bb = E.bb
  m : ∀ r q, lookR r n.m = some (some q) → E'.rb q = E.rb r ∧ OkId new q ∧ ∃ g, lookR q new.rg = some g
  held : ∀ x b, Holds new E' x b → (∃ r, (∃ y, lookR r n.m = some y) ∧ Holds st E (.inl r) b) ∨ ∃ k, Holds st E (.inr k) b ∧ x = .inr k

/-- A new region, made of an old one. -/
theorem Link.make {n : Nm} {new : St} (h : Rel F st a w E) (hl : Link F a w st E n new E') {pl : RId} {x : RB} {g : RegC} {m : List (RId × Option RId)} (hf : Free new (Under pl)) (hg : RegRep w (E'.setR pl x) pl g)
    (hm : ∀ r q, lookR r m = some (some q) → (q = pl ∧ E.rb r = some x) ∨ lookR r n.m = some (some q)) (hm' : ∀ r y, lookR r n.m = some y → ∃ y, lookR r m = some y)
    (hb : ∀ b, Holds { new with rg := (pl, g) :: new.rg } (E'.setR pl x) (.inl pl) b → ∃ r, lookR r n.m = none ∧ (∃ y, lookR r m = some y) ∧ Holds st E (.inl r) b) :
    Link F a w st E ⟨m, (pl, g) :: n.rg⟩ { new with rg := (pl, g) :: new.rg } (E'.setR pl x) := by
  have hpl : Under pl pl := ⟨[], by simp⟩
  have free : ∀ b, Holds { new with rg := (pl, g) :: new.rg } (E'.setR pl x) (.inl pl) b → (∀ y, ¬ Holds new E' y b) ∧ (F.P0 b ∨ F.w0.heap.size ≤ b) := by
    intro b hH
    obtain ⟨r, h1, _, h2⟩ := hb b hH
    refine ⟨fun y hy => ?_, h.fresh _ _ h2⟩
    rcases hl.held y b hy with ⟨r', ⟨y', h3⟩, h4⟩ | ⟨k, h4, _⟩
    · have := h.dist _ _ _ h2 h4
      injection this with this
      subst this
      rw [h1] at h3
      cases h3
    · have := h.dist _ _ _ h2 h4
      cases this
  have hi := Rel.imp1 (bl := []) hl.rel hf hpl hg
  -- the blocks are asked for as a list: here there is at most one
  have hrel : Rel F { new with rg := (pl, g) :: new.rg } a w (E'.setR pl x) := by
    by_cases hex : ∃ b, Holds { new with rg := (pl, g) :: new.rg } (E'.setR pl x) (.inl pl) b
    · obtain ⟨b, hb0⟩ := hex
      have hone : ∀ c, Holds { new with rg := (pl, g) :: new.rg } (E'.setR pl x) (.inl pl) c → c ∈ [b] := by
        intro c hc
        have same : ∀ {c d : Nat}, Holds { new with rg := (pl, g) :: new.rg } (E'.setR pl x) (.inl pl) c → Holds { new with rg := (pl, g) :: new.rg } (E'.setR pl x) (.inl pl) d → c = d := by
          intro c d hc hd
          cases hc with
          | row k1 k2 k3 =>
            cases hd with
            | row m1 m2 m3 =>
              rw [k3] at m3
              injection m3 with m3
              injection m3 with _ m3
              injection m3 with m3
              injection m3 with m3
              rw [m3]
            | mp m1 m2 => rw [k3] at m2; cases m2
          | mp k1 k2 =>
            cases hd with
            | row m1 m2 m3 => rw [k2] at m3; cases m3
            | mp m1 m2 => rw [k2] at m2; injection m2 with m2; injection m2
        simp [same hc hb0]
      exact (Rel.imp1 (bl := [b]) hl.rel hf hpl hg hone (fun c hc => by simp only [List.mem_singleton] at hc; subst hc; exact free _ hb0)).rel
    · exact (Rel.imp1 (bl := []) hl.rel hf hpl hg (fun c hc => (hex ⟨c, hc⟩).elim) (by simp)).rel
  have up : ∀ q, OkId new q → OkId { new with rg := (pl, g) :: new.rg } q := fun q hq => hq.mono (fun s v hv => ⟨v, hv⟩) (fun s v hv => ⟨v, hv⟩)
  have hrb : ∀ q, q ≠ pl → (E'.setR pl x).rb q = E'.rb q := fun q hq => if_neg hq
  have hrbp : (E'.setR pl x).rb pl = some x := if_pos rfl
  refine ⟨hrel, by simp [hl.rg], hl.X, hl.bb, fun r q hq => ?_, fun y b hy => ?_⟩
  · by_cases hqp : q = pl
    · subst hqp
      rcases hm r q hq with ⟨_, h1⟩ | h1
      · exact ⟨hrbp.trans h1.symm, up _ (hf.ok _ hpl), g, by simp [lookR]⟩
      · obtain ⟨h2, h3, g', h4⟩ := hl.m r q h1
        rw [hf.rg q hpl] at h4
        cases h4
    · rcases hm r q hq with ⟨h0, _⟩ | h1
      · exact absurd h0 hqp
      · obtain ⟨h2, h3, g', h4⟩ := hl.m r q h1
        exact ⟨(hrb q hqp).trans h2, up _ h3, g', by simp only [lookR]; rw [if_neg (fun e => hqp e.symm)]; exact h4⟩
  · have hy0 := hy
    have old : ∀ {y b}, Holds new E' y b → (∃ r, (∃ y, lookR r m = some y) ∧ Holds st E (.inl r) b) ∨ ∃ k, Holds st E (.inr k) b ∧ y = .inr k := by
      intro y b hy
      rcases hl.held y b hy with ⟨r, ⟨y', h3⟩, h4⟩ | h4
      · exact .inl ⟨r, hm' r y' h3, h4⟩
      · exact .inr h4
    cases hy with
    | row h1 h2 h3 =>
      simp only [lookR] at h1
      split at h1
      · rename_i e
        subst e
        obtain ⟨r, _, g2, g3⟩ := hb _ hy0
        exact .inl ⟨r, g2, g3⟩
      · rename_i e
        exact old (.row h1 h2 ((hrb _ (fun e' => e e'.symm)).symm.trans h3))
    | mp h1 h2 =>
      simp only [lookR] at h1
      split at h1
      · rename_i e
        subst e
        obtain ⟨r, _, g2, g3⟩ := hb _ hy0
        exact .inl ⟨r, g2, g3⟩
      · rename_i e
        exact old (.mp h1 ((hrb _ (fun e' => e e'.symm)).symm.trans h2))
    | box h1 h2 => exact old (.box h1 h2)

/-- What one value's renaming gives. -/
structure Nmd (F : Fr) (a : Act) (w : World) (st : St) (E : Env) (n : Nm) (new : St) (E' : Env) (n2 : Nm) (E2 : Env) (S : RId → Prop) : Prop where
  link : Link F a w st E n2 { new with rg := n2.rg } E2
  rb : ∀ q, ¬ S q → E2.rb q = E'.rb q
  keys : ∀ q, ¬ S q → lookR q n2.rg = lookR q new.rg

theorem Nmd.refl {n : Nm} {new : St} (hl : Link F a w st E n new E') (S : RId → Prop) : Nmd F a w st E n new E' n E' S := by
  have e : ({ new with rg := n.rg } : St) = new := by rw [← hl.rg]
  exact ⟨by rw [e]; exact hl, fun _ _ => rfl, fun q _ => by rw [hl.rg]⟩

/-- The boxes that stay are there. -/
def Boxed (bs : List Nat) (new : St) : Prop := ∀ b, bs.contains b = true → ∃ x, look b new.bx = some x

theorem Ok.ref' {new : St} {q : RId} (h : OkId new q) : Ok new (.ref q) := ⟨fun r hr => by simp only [ids, List.mem_singleton] at hr; rw [hr]; exact h, fun b hb => by simp [bxs] at hb⟩

theorem Link.made {n : Nm} {new : St} (h : Rel F st a w E) (hl : Link F a w st E n new E') {pl : RId} {x : RB} {g : RegC} {m : List (RId × Option RId)} (hf : Free new (Under pl)) (hg : RegRep w (E'.setR pl x) pl g)
    (hm : ∀ r q, lookR r m = some (some q) → (q = pl ∧ E.rb r = some x) ∨ lookR r n.m = some (some q)) (hm' : ∀ r y, lookR r n.m = some y → ∃ y, lookR r m = some y)
    (hb : ∀ b, Holds { new with rg := (pl, g) :: new.rg } (E'.setR pl x) (.inl pl) b → ∃ r, lookR r n.m = none ∧ (∃ y, lookR r m = some y) ∧ Holds st E (.inl r) b) :
    Nmd F a w st E n new E' ⟨m, (pl, g) :: n.rg⟩ (E'.setR pl x) (Under pl) := by
  have h1 := Link.make h hl hf hg hm hm' hb
  have e : ({ new with rg := (pl, g) :: n.rg } : St) = { new with rg := (pl, g) :: new.rg } := by rw [hl.rg]
  refine ⟨by rw [e]; exact h1, fun q hq => if_neg (fun e => hq (by rw [e]; exact ⟨[], by simp⟩)), fun q hq => ?_⟩
  simp only [lookR]
  rw [if_neg (fun e => hq (by rw [← e]; exact ⟨[], by simp⟩)), hl.rg]

theorem here {pl q : RId} {g : RegC} {l : List (RId × RegC)} (hq : q ∈ [pl]) : ∃ g', lookR q ((pl, g) :: l) = some g' := by
  simp only [List.mem_singleton] at hq
  subst hq
  exact ⟨g, by simp [lookR]⟩

mutual
theorem nmV_sound (h : Rel F st a w E) {bs : List Nat} : ∀ {td : TD} {cs : List Value} {p : PV} {n : Nm} {new : St} {E' : Env} (pl : RId), RT w E td cs p → Link F a w st E n new E' → Free new (Under pl) → Boxed bs new →
    ∃ E2, Nmd F a w st E n new E' (nmV st.rg bs pl n p).2 E2 (Under pl) ∧ RT w E2 td cs (nmV st.rg bs pl n p).1 ∧ Ok new (nmV st.rg bs pl n p).1 ∧ ∀ q ∈ ids (nmV st.rg bs pl n p).1, ∃ g, lookR q (nmV st.rg bs pl n p).2.rg = some g
  | td, cs, p, n, new, E', pl, .imm hr, hl, hf, hb => by
    rw [RC.nm_same st.rg bs pl n hr]
    exact ⟨E', Nmd.refl hl _, .imm (by rw [hl.X]; exact hr), hr.ok, fun q hq => by rw [hr.noIds.1] at hq; cases hq⟩
  | _, _, _, n, new, E', pl, .struct hs, hl, hf, hb => by
    obtain ⟨E2, h1, h2, h3, h4⟩ := nmVs_sound h pl 0 hs hl (hf.less fun q ⟨j, _, hq⟩ => hq.next) hb
    exact ⟨E2, ⟨h1.link, fun q hq => h1.rb q (fun ⟨j, _, hj⟩ => hq hj.next), fun q hq => h1.keys q (fun ⟨j, _, hj⟩ => hq hj.next)⟩, .struct h2, Ok.agg h3, h4⟩
  | _, _, _, n, new, E', pl, .nil (e := e), hl, hf, hb => by
    have hrb : (E'.setR pl (.row e (.slice none 0 0))).rb pl = some (.row e (.slice none 0 0)) := if_pos rfl
    refine ⟨E'.setR pl (.row e (.slice none 0 0)), Link.made (x := .row e (.slice none 0 0)) (g := .row ⟨true, false, []⟩) h hl hf (.inl ⟨rfl, rfl, e, hrb⟩) (fun r q hq => .inr hq) (fun r y hy => ⟨y, hy⟩) (fun b hH => ?_), .ref hrb rfl, Ok.ref' (hf.ok _ ⟨[], by simp⟩), fun q hq => here hq⟩
    cases hH with
    | row k1 k2 k3 => rw [hrb] at k3; cases k3
    | mp k1 k2 => rw [hrb] at k2; cases k2
  | _, _, _, n, new, E', pl, .ref (e := e) (r := r) (v := v) hr h1, hl, hf, hb => by
    have hdead : ∃ E2, Nmd F a w st E n new E' n E2 (Under pl) ∧ RT w E2 (.slice e) [v] .dead ∧ Ok new .dead ∧ ∀ q ∈ ids PV.dead, ∃ g, lookR q n.rg = some g := ⟨E', Nmd.refl hl _, .dead rfl (by simpa using h1), Ok.of_nil rfl rfl, by simp [ids]⟩
    simp only [nmV]
    split
    · rename_i q hq
      obtain ⟨g1, g2, g3⟩ := hl.m r q hq
      rw [hl.rg] at g3
      exact ⟨E', Nmd.refl hl _, .ref (g1.trans hr) h1, Ok.ref' g2, fun r' hr' => by simp only [ids, List.mem_singleton] at hr'; rw [hr']; exact g3⟩
    · exact hdead
    · rename_i hno
      split
      · rename_i g hg
        split
        · rename_i hfz
          have hc := (h.regs _ _ hg).imm (by simp [RegC.isFrozen, hfz]) hr
          exact ⟨E', Nmd.refl hl _, .imm (by rw [hl.X]; exact hc), hc.ok, fun q hq => by rw [hc.noIds.1] at hq; cases hq⟩
        · rename_i hfz
          have hfz' : g.frozen = false := by simpa using hfz
          have hrb : (E'.setR pl (.row e v)).rb pl = some (.row e v) := if_pos rfl
          refine ⟨E'.setR pl (.row e v), Link.made (x := .row e v) (g := .row g) h hl hf ?_ (fun r' q hq => ?_) (fun r' y hy => ?_) (fun b hH => ⟨r, hno, ⟨some pl, by simp [lookR]⟩, ?_⟩), .ref hrb h1, Ok.ref' (hf.ok _ ⟨[], by simp⟩), fun q hq => here hq⟩
          · rcases (h.regs _ _ hg).row hfz' hr with ⟨k1, k2, k3⟩ | ⟨k1, ad, cap, k2, k3⟩
            · exact .inl ⟨k1, k2, e, by rw [hrb, k3]⟩
            · exact .inr ⟨k1, e, ad, cap, by rw [hrb, k2], .inl ⟨hfz', by show RowRep w E'.X e ad cap g.xs; rw [hl.X]; exact k3⟩⟩
          · simp only [lookR] at hq
            split at hq
            · rename_i e1
              subst e1
              injection hq with hq
              injection hq with hq
              exact .inl ⟨hq.symm, hr⟩
            · exact .inr hq
          · simp only [lookR]
            split
            · exact ⟨_, rfl⟩
            · exact ⟨y, hy⟩
          · cases hH with
            | row k1 k2 k3 =>
              rw [hrb] at k3
              injection k3 with k3
              injection k3 with _ k3
              subst k3
              exact .row hg hfz' hr
            | mp k1 k2 => rw [hrb] at k2; cases k2
      · exact hdead
  | _, _, _, n, new, E', pl, .sub (e := e) (r := r) (a := ad) (a' := ad') (len := len) (cap := cap) (lo := lo) (hi := hi) (c := c) hr h1 h2 h3 h4 h5 h6, hl, hf, hb => by
    have hdead : ∃ E2, Nmd F a w st E n new E' n E2 (Under pl) ∧ RT w E2 (.slice e) [.slice (some ad') (hi - lo) c] .dead ∧ Ok new .dead ∧ ∀ q ∈ ids PV.dead, ∃ g, lookR q n.rg = some g := ⟨E', Nmd.refl hl _, .dead rfl (by simp [Value.oneCell']), Ok.of_nil rfl rfl, by simp [ids]⟩
    simp only [nmV]
    split
    · rename_i q hq
      obtain ⟨g1, g2, g3⟩ := hl.m r q hq
      rw [hl.rg] at g3
      exact ⟨E', Nmd.refl hl _, .sub (g1.trans hr) h1 h2 h3 h4 h5 h6, ⟨fun r' hr' => by simp only [ids, List.mem_singleton] at hr'; rw [hr']; exact g2, fun b hb => by simp [bxs] at hb⟩, fun r' hr' => by simp only [ids, List.mem_singleton] at hr'; rw [hr']; exact g3⟩
    · exact hdead
    · rename_i hno
      split
      · rename_i g hg
        split
        · rename_i hbd
          split
          · rename_i hfz
            have hc := ((h.regs _ _ hg).imm (by simp [RegC.isFrozen, hfz]) hr).part h1 hbd.2 h3 h5
            exact ⟨E', Nmd.refl hl _, .imm (by rw [hl.X]; exact hc), hc.ok, fun q hq => by rw [hc.noIds.1] at hq; cases hq⟩
          · rename_i hfz
            have hfz' : g.frozen = false := by simpa using hfz
            have hll : ((g.xs.drop lo).take (hi - lo)).length = hi - lo := by simp; omega
            rcases (h.regs _ _ hg).row hfz' hr with ⟨k1, k2, k3⟩ | ⟨k1, ad0, cap0, k2, k3⟩
            · cases k3
            · injection k2 with k2 k2' k2''
              injection k2 with k2
              subst k2 k2' k2''
              have hrow := k3.sub h1 hbd.2 h3 h4 h5 h6
              have hbk : ad'.block = ad.block := by obtain ⟨k, _, e1⟩ := h6; rw [e1, add_block]
              have hrb : (E'.setR pl (.row e (.slice (some ad') (hi - lo) c))).rb pl = some (.row e (.slice (some ad') (hi - lo) c)) := if_pos rfl
              refine ⟨E'.setR pl (.row e (.slice (some ad') (hi - lo) c)), Link.made (x := .row e (.slice (some ad') (hi - lo) c)) (g := .row { g with xs := (g.xs.drop lo).take (hi - lo) }) h hl hf ?_ (fun r' q hq => ?_) (fun r' y hy => ?_) (fun b hH => ⟨r, hno, ⟨none, by simp [lookR]⟩, ?_⟩), .ref hrb rfl, Ok.ref' (hf.ok _ ⟨[], by simp⟩), fun q hq => here hq⟩
              · exact .inr ⟨k1, e, ad', c, by rw [hrb, hll], .inl ⟨hfz', by show RowRep w E'.X e ad' c _; rw [hl.X]; exact hrow⟩⟩
              · simp only [lookR] at hq
                split at hq
                · cases hq
                · exact .inr hq
              · simp only [lookR]
                split
                · exact ⟨_, rfl⟩
                · exact ⟨y, hy⟩
              · cases hH with
                | row k1 k2 k3 =>
                  rw [hrb] at k3
                  injection k3 with k3
                  injection k3 with _ k3
                  injection k3 with k3
                  injection k3 with k3
                  subst k3
                  rw [hbk]
                  exact .row hg hfz' hr
                | mp k1 k2 => rw [hrb] at k2; cases k2
        · exact hdead
      · exact hdead
  | _, _, _, n, new, E', pl, .subnil (e := e) (r := r) hr, hl, hf, hb => by
    have hdead : ∃ E2, Nmd F a w st E n new E' n E2 (Under pl) ∧ RT w E2 (.slice e) [.slice none 0 0] .dead ∧ Ok new .dead ∧ ∀ q ∈ ids PV.dead, ∃ g, lookR q n.rg = some g := ⟨E', Nmd.refl hl _, .dead rfl (by simp [Value.oneCell']), Ok.of_nil rfl rfl, by simp [ids]⟩
    simp only [nmV]
    split
    · rename_i q hq
      obtain ⟨g1, g2, g3⟩ := hl.m r q hq
      rw [hl.rg] at g3
      exact ⟨E', Nmd.refl hl _, .subnil (g1.trans hr), ⟨fun r' hr' => by simp only [ids, List.mem_singleton] at hr'; rw [hr']; exact g2, fun b hb => by simp [bxs] at hb⟩, fun r' hr' => by simp only [ids, List.mem_singleton] at hr'; rw [hr']; exact g3⟩
    · exact hdead
    · rename_i hno
      split
      · rename_i g hg
        have hx : g.isNil = true ∧ g.xs = [] := by
          rcases (h.regs _ _ hg).slice hr with ⟨k1, k2, k3⟩ | ⟨k1, ad, cap, k2, _⟩
          · exact ⟨k1, k3⟩
          · cases k2
        split
        · rename_i hbd
          split
          · rename_i hfz
            exact ⟨E', Nmd.refl hl _, .imm (by rw [hx.1, hx.2]; simpa using RC.slnil), Ok.of_nil rfl rfl, by simp [ids]⟩
          · rename_i hfz
            have hrb : (E'.setR pl (.row e (.slice none 0 0))).rb pl = some (.row e (.slice none 0 0)) := if_pos rfl
            refine ⟨E'.setR pl (.row e (.slice none 0 0)), Link.made (x := .row e (.slice none 0 0)) (g := .row { g with xs := (g.xs.drop 0).take (0 - 0) }) h hl hf (.inl ⟨hx.1, by simp, e, hrb⟩) (fun r' q hq => ?_) (fun r' y hy => ?_) (fun b hH => ?_), .ref hrb rfl, Ok.ref' (hf.ok _ ⟨[], by simp⟩), fun q hq => here hq⟩
            · simp only [lookR] at hq
              split at hq
              · cases hq
              · exact .inr hq
            · simp only [lookR]
              split
              · exact ⟨_, rfl⟩
              · exact ⟨y, hy⟩
            · cases hH with
              | row k1 k2 k3 => rw [hrb] at k3; cases k3
              | mp k1 k2 => rw [hrb] at k2; cases k2
        · exact hdead
      · exact hdead
  | _, _, _, n, new, E', pl, .mref (k := k) (e := e) (r := r) (b := b) hr, hl, hf, hb => by
    have hdead : ∃ E2, Nmd F a w st E n new E' n E2 (Under pl) ∧ RT w E2 (.map k e) [.map (some b)] .dead ∧ Ok new .dead ∧ ∀ q ∈ ids PV.dead, ∃ g, lookR q n.rg = some g := ⟨E', Nmd.refl hl _, .dead rfl (by simp [Value.oneCell']), Ok.of_nil rfl rfl, by simp [ids]⟩
    simp only [nmV]
    split
    · rename_i q hq
      obtain ⟨g1, g2, g3⟩ := hl.m r q hq
      rw [hl.rg] at g3
      exact ⟨E', Nmd.refl hl _, .mref (g1.trans hr), ⟨fun r' hr' => by simp only [ids, List.mem_singleton] at hr'; rw [hr']; exact g2, fun b hb => by simp [bxs] at hb⟩, fun r' hr' => by simp only [ids, List.mem_singleton] at hr'; rw [hr']; exact g3⟩
    · exact hdead
    · rename_i hno
      split
      · rename_i fz es hg
        split
        · rename_i hfz
          have hc := (h.regs _ _ hg).immMap hfz hr
          exact ⟨E', Nmd.refl hl _, .imm (by rw [hl.X]; exact hc), hc.ok, fun q hq => by rw [hc.noIds.1] at hq; cases hq⟩
        · rename_i hfz
          have hfz' : fz = false := by simpa using hfz
          subst hfz'
          have hrb : (E'.setR pl (.mp k e b)).rb pl = some (.mp k e b) := if_pos rfl
          have hH0 : Holds st E (.inl r) b := .mp hg hr
          obtain ⟨ms, clock, k1, k2⟩ := (h.regs _ _ hg).map hr
          refine ⟨E'.setR pl (.mp k e b), Link.made (x := .mp k e b) (g := .mp false es) h hl hf ⟨k, e, b, hrb, .inl ⟨rfl, by show E'.X b; rw [hl.X]; exact h.held_own hH0, ms, clock, k1, by show RCm w E'.X k e ms.toList es; rw [hl.X]; exact k2⟩⟩ (fun r' q hq => ?_) (fun r' y hy => ?_) (fun c hH => ⟨r, hno, ⟨some pl, by simp [lookR]⟩, ?_⟩), .mref hrb,
            ⟨fun r' hr' => by simp only [ids, List.mem_singleton] at hr'; rw [hr']; exact hf.ok _ ⟨[], by simp⟩, fun b hb => by simp [bxs] at hb⟩, fun q hq => here hq⟩
          · simp only [lookR] at hq
            split at hq
            · rename_i e1
              subst e1
              injection hq with hq
              injection hq with hq
              exact .inl ⟨hq.symm, hr⟩
            · exact .inr hq
          · simp only [lookR]
            split
            · exact ⟨_, rfl⟩
            · exact ⟨y, hy⟩
          · cases hH with
            | row k1 k2 k3 => rw [hrb] at k3; cases k3
            | mp k1 k2 => rw [hrb] at k2; injection k2 with k2; injection k2 with _ _ k2; subst k2; exact hH0
      · exact hdead
  | _, _, _, n, new, E', pl, .ptr (td := td) (td0 := td0) (b := b) (off := off) (a := ad) (path := path) hbb hp, hl, hf, hb => by
    simp only [nmV]
    split
    · rename_i hc
      exact ⟨E', Nmd.refl hl _, .ptr (by rw [hl.bb]; exact hbb) hp, ⟨fun r hr => by simp [ids] at hr, fun b' hb' => by simp only [bxs, List.mem_singleton] at hb'; subst hb'; exact hb _ hc⟩, by simp [ids]⟩
    · exact ⟨E', Nmd.refl hl _, .dead rfl (by simp [Value.oneCell']), Ok.of_nil rfl rfl, by simp [ids]⟩
  | _, _, _, n, new, E', pl, .eptr .., hl, hf, hb => ⟨E', Nmd.refl hl _, .dead rfl (by simp [Value.oneCell']), Ok.of_nil rfl rfl, fun q hq => (List.not_mem_nil hq).elim⟩
  | _, _, _, n, new, E', pl, .rptr hX hc hr, hl, hf, hb => ⟨E', Nmd.refl hl _, .rptr (by rw [hl.X]; exact hX) hc (by rw [hl.X]; exact hr), Ok.of_nil rfl rfl, fun q hq => (List.not_mem_nil hq).elim⟩
  | _, _, _, n, new, E', pl, .dead h1 h2, hl, hf, hb => ⟨E', Nmd.refl hl _, .dead h1 h2, Ok.of_nil rfl rfl, fun q hq => (List.not_mem_nil hq).elim⟩
theorem nmVs_sound (h : Rel F st a w E) {bs : List Nat} : ∀ {fs : List TD} {cs : List Value} {ps : List PV} {n : Nm} {new : St} {E' : Env} (pl : RId) (i : Nat), RTs w E fs cs ps → Link F a w st E n new E' → Free new (fun q => ∃ j, i ≤ j ∧ Under (pl ++ [j]) q) → Boxed bs new →
    ∃ E2, Nmd F a w st E n new E' (nmVs st.rg bs pl i n ps).2 E2 (fun q => ∃ j, i ≤ j ∧ Under (pl ++ [j]) q) ∧ RTs w E2 fs cs (nmVs st.rg bs pl i n ps).1 ∧ (∀ q ∈ (nmVs st.rg bs pl i n ps).1, Ok new q) ∧ ∀ q ∈ idss (nmVs st.rg bs pl i n ps).1, ∃ g, lookR q (nmVs st.rg bs pl i n ps).2.rg = some g
  | _, _, _, n, new, E', pl, i, .nil, hl, hf, hb => ⟨E', Nmd.refl hl _, .nil, by simp [nmVs], by simp [nmVs, idss]⟩
  | _, _, _, n, new, E', pl, i, .cons (p := p) (ps := ps) hc hs, hl, hf, hb => by
    obtain ⟨E2, h1, h2, h3, h4⟩ := nmV_sound h (bs := bs) (pl ++ [i]) hc hl (hf.less fun q hq => ⟨i, Nat.le_refl _, hq⟩) hb
    have hf2 : Free { new with rg := (nmV st.rg bs (pl ++ [i]) n p).2.rg } (fun q => ∃ j, i + 1 ≤ j ∧ Under (pl ++ [j]) q) := by
      refine ⟨fun q ⟨j, hj, hq⟩ => ?_, fun s p' hp r hr ⟨j, hj, hq⟩ => hf.sl s p' hp r hr ⟨j, by omega, hq⟩, fun s p' hp r hr ⟨j, hj, hq⟩ => hf.bx s p' hp r hr ⟨j, by omega, hq⟩, fun q ⟨j, hj, hq⟩ => ?_⟩
      · show lookR q (nmV st.rg bs (pl ++ [i]) n p).2.rg = none
        rw [h1.keys q (fun hu => by have := hu.apart hq; omega)]
        exact hf.rg q ⟨j, by omega, hq⟩
      · exact (hf.ok q ⟨j, by omega, hq⟩).mono (fun s v hv => ⟨v, hv⟩) (fun s v hv => ⟨v, hv⟩)
    obtain ⟨E3, k1, k2, k3, k4⟩ := nmVs_sound h (bs := bs) pl (i + 1) hs h1.link hf2 hb
    have hk : Keeps w w E2.X E3.X := by rw [h1.link.X, k1.link.X]; exact ⟨Nat.le_refl _, fun _ _ _ => rfl, fun _ _ hx => hx⟩
    have back : ∀ q, OkId new q → OkId new q := fun q hq => hq
    have far : ∀ q, (∃ g, lookR q (nmV st.rg bs (pl ++ [i]) n p).2.rg = some g) → ¬ ∃ j, i + 1 ≤ j ∧ Under (pl ++ [j]) q := fun q ⟨g, hg⟩ hu => by
      have := hf2.rg q hu
      simp only at this
      rw [hg] at this
      cases this
    refine ⟨E3, ⟨k1.link, fun q hq => ?_, fun q hq => ?_⟩, ?_, fun q hq => ?_, fun q hq => ?_⟩
    · rw [k1.rb q (fun ⟨j, hj, hu⟩ => hq ⟨j, by omega, hu⟩), h1.rb q (fun hu => hq ⟨i, Nat.le_refl _, hu⟩)]
    · have e1 := k1.keys q (fun ⟨j, hj, hu⟩ => hq ⟨j, by omega, hu⟩)
      have e2 := h1.keys q (fun hu => hq ⟨i, Nat.le_refl _, hu⟩)
      exact e1.trans e2
    · simp only [nmVs]
      exact .cons (h2.keeps hk ⟨fun r hr => k1.rb r (far r (h4 r hr)), fun b _ => by rw [k1.link.bb, h1.link.bb]⟩) k2
    · simp only [nmVs, List.mem_cons] at hq
      rcases hq with rfl | hq
      · exact h3
      · exact k3 q hq
    · simp only [nmVs, idss, List.mem_append] at hq
      rcases hq with hq | hq
      · obtain ⟨g, hg⟩ := h4 q hq
        exact ⟨g, by rw [← hg]; exact k1.keys q (far q ⟨g, hg⟩)⟩
      · exact k4 q hq
end
end Go.Vm
end
section
set_option linter.unusedSimpArgs false
set_option linter.unusedVariables false
namespace Go.Vm
variable {P : Program} {F : Fr} {w w' : World} {st st' : St} {a a' : Act} {E E' : Env} {K : Act → World → Prop} {Q : Exit → Act → World → Prop} {o : Oper} {C : Nat → List PV → Option (PV × List PV)}

theorem nmRVs_sound (h : Rel F st a w E) {bs : List Nat} : ∀ {ts : List TD} {vs : List Value} {ps : List PV} {n : Nm} {new : St} {E' : Env} (pl : RId) (i : Nat), (∀ (j : Nat) t v p, ts[j]? = some t → vs[j]? = some v → ps[j]? = some p → (∃ cs, RT w E t cs p ∧ v = t.valOf cs) ∨ (v = Go.undef ∧ p = .undef) ∨ p = .dead) → ts.length = ps.length → vs.length = ps.length →
    Link F a w st E n new E' → Free new (fun q => ∃ j, i ≤ j ∧ Under (pl ++ [j]) q) → Boxed bs new →
    ∃ E2, Nmd F a w st E n new E' (nmVs st.rg bs pl i n ps).2 E2 (fun q => ∃ j, i ≤ j ∧ Under (pl ++ [j]) q) ∧ RVs w E2 ts vs (nmVs st.rg bs pl i n ps).1 ∧ (∀ q ∈ (nmVs st.rg bs pl i n ps).1, Ok new q) ∧ ∀ q ∈ idss (nmVs st.rg bs pl i n ps).1, ∃ g, lookR q (nmVs st.rg bs pl i n ps).2.rg = some g
  | [], [], [], n, new, E', pl, i, _, _, _, hl, hf, hb => ⟨E', Nmd.refl hl _, .nil, by simp [nmVs], by simp [nmVs, idss]⟩
  | t :: ts, v :: vs, p :: ps, n, new, E', pl, i, hv, h1, h2, hl, hf, hb => by
    have head : ∃ E2, Nmd F a w st E n new E' (nmV st.rg bs (pl ++ [i]) n p).2 E2 (Under (pl ++ [i])) ∧ RV w E2 t v (nmV st.rg bs (pl ++ [i]) n p).1 ∧ Ok new (nmV st.rg bs (pl ++ [i]) n p).1 ∧ ∀ q ∈ ids (nmV st.rg bs (pl ++ [i]) n p).1, ∃ g, lookR q (nmV st.rg bs (pl ++ [i]) n p).2.rg = some g := by
      rcases hv 0 t v p rfl rfl rfl with ⟨cs, k1, k2⟩ | ⟨rfl, rfl⟩ | rfl
      · obtain ⟨E2, m1, m2, m3, m4⟩ := nmV_sound h (bs := bs) (pl ++ [i]) k1 hl (hf.less fun q hq => ⟨i, Nat.le_refl _, hq⟩) hb
        exact ⟨E2, m1, .cells m2 k2, m3, m4⟩
      · exact ⟨E', Nmd.refl hl _, .undef, Ok.of_nil rfl rfl, fun q hq => (List.not_mem_nil hq).elim⟩
      · exact ⟨E', Nmd.refl hl _, .dead, Ok.of_nil rfl rfl, fun q hq => (List.not_mem_nil hq).elim⟩
    obtain ⟨E2, h1', h2', h3, h4⟩ := head
    have hf2 : Free { new with rg := (nmV st.rg bs (pl ++ [i]) n p).2.rg } (fun q => ∃ j, i + 1 ≤ j ∧ Under (pl ++ [j]) q) := by
      refine ⟨fun q ⟨j, hj, hq⟩ => ?_, fun s p' hp r hr ⟨j, hj, hq⟩ => hf.sl s p' hp r hr ⟨j, by omega, hq⟩, fun s p' hp r hr ⟨j, hj, hq⟩ => hf.bx s p' hp r hr ⟨j, by omega, hq⟩, fun q ⟨j, hj, hq⟩ => ?_⟩
      · show lookR q (nmV st.rg bs (pl ++ [i]) n p).2.rg = none
        rw [h1'.keys q (fun hu => by have := hu.apart hq; omega)]
        exact hf.rg q ⟨j, by omega, hq⟩
      · exact (hf.ok q ⟨j, by omega, hq⟩).mono (fun s v hv => ⟨v, hv⟩) (fun s v hv => ⟨v, hv⟩)
    obtain ⟨E3, k1, k2, k3, k4⟩ := nmRVs_sound h (bs := bs) (vs := vs) (ts := ts) (ps := ps) pl (i + 1) (fun j t v p a b c => hv (j + 1) t v p (by simpa using a) (by simpa using b) (by simpa using c)) (by simpa using h1) (by simpa using h2) h1'.link hf2 hb
    have hk : Keeps w w E2.X E3.X := by rw [h1'.link.X, k1.link.X]; exact ⟨Nat.le_refl _, fun _ _ _ => rfl, fun _ _ hx => hx⟩
    have far : ∀ q, (∃ g, lookR q (nmV st.rg bs (pl ++ [i]) n p).2.rg = some g) → ¬ ∃ j, i + 1 ≤ j ∧ Under (pl ++ [j]) q := fun q ⟨g, hg⟩ hu => by
      have := hf2.rg q hu
      simp only at this
      rw [hg] at this
      cases this
    refine ⟨E3, ⟨k1.link, fun q hq => ?_, fun q hq => ?_⟩, ?_, fun q hq => ?_, fun q hq => ?_⟩
    · rw [k1.rb q (fun ⟨j, hj, hu⟩ => hq ⟨j, by omega, hu⟩), h1'.rb q (fun hu => hq ⟨i, Nat.le_refl _, hu⟩)]
    · have e1 := k1.keys q (fun ⟨j, hj, hu⟩ => hq ⟨j, by omega, hu⟩)
      have e2 := h1'.keys q (fun hu => hq ⟨i, Nat.le_refl _, hu⟩)
      exact e1.trans e2
    · simp only [nmVs]
      exact .cons (h2'.keeps hk ⟨fun r hr => k1.rb r (far r (h4 r hr)), fun b _ => by rw [k1.link.bb, h1'.link.bb]⟩) k2
    · simp only [nmVs, List.mem_cons] at hq
      rcases hq with rfl | hq
      · exact h3
      · exact k3 q hq
    · simp only [nmVs, idss, List.mem_append] at hq
      rcases hq with hq | hq
      · obtain ⟨g, hg⟩ := h4 q hq
        exact ⟨g, by rw [← hg]; exact k1.keys q (far q ⟨g, hg⟩)⟩
      · exact k4 q hq
  | [], _ :: _, [], _, _, _, _, _, _, _, h2, _, _, _ => by simp at h2
  | [], _, _ :: _, _, _, _, _, _, _, h1, _, _, _, _ => by simp at h1
  | _ :: _, _, [], _, _, _, _, _, _, h1, _, _, _, _ => by simp at h1
  | _ :: _, [], _ :: _, _, _, _, _, _, _, _, h2, _, _, _ => by simp at h2

/-- No results among results: only then may a tuple's parts be renamed. -/
theorem RVs.parts : ∀ {ts : List TD} {vs : List Value} {ps : List PV}, RVs w E ts vs ps → ts.length = ps.length ∧ vs.length = ps.length
  | _, _, _, .nil => ⟨rfl, rfl⟩
  | _, _, _, .cons h hs => by
    obtain ⟨h1, h2⟩ := hs.parts
    exact ⟨by simp [h1], by simp [h2]⟩

/-- Types of slots: no tuple in a tuple. -/
def simpleT : TD → Bool
  | .tup ts => ts.all notTup
  | _ => true

theorem RV.each {td : TD} {v : Value} {p : PV} (h : RV w E td v p) (hn : notTup td = true) : (∃ cs, RT w E td cs p ∧ v = td.valOf cs) ∨ (v = Go.undef ∧ p = .undef) ∨ p = .dead := by
  cases h with
  | cells h hv => exact .inl ⟨_, h, hv⟩
  | tup _ => simp [notTup] at hn
  | undef => exact .inr (.inl ⟨rfl, rfl⟩)
  | dead => exact .inr (.inr rfl)
theorem RVs.each : ∀ {ts : List TD} {vs : List Value} {ps : List PV}, RVs w E ts vs ps → ts.all notTup = true → ∀ (j : Nat) t v p, ts[j]? = some t → vs[j]? = some v → ps[j]? = some p → (∃ cs, RT w E t cs p ∧ v = t.valOf cs) ∨ (v = Go.undef ∧ p = .undef) ∨ p = .dead
  | _, _, _, .nil, _, j, t, v, p, h, _, _ => by simp at h
  | _, _, _, .cons h hs, hn, j, t, v, p, h1, h2, h3 => by
    simp only [List.all_cons, Bool.and_eq_true] at hn
    cases j with
    | zero =>
      simp only [List.getElem?_cons_zero, Option.some.injEq] at h1 h2 h3
      subst h1 h2 h3
      exact h.each hn.1
    | succ j => exact hs.each hn.2 j t v p (by simpa using h1) (by simpa using h2) (by simpa using h3)

theorem nmRV_sound (h : Rel F st a w E) {bs : List Nat} {td : TD} {v : Value} {p : PV} {n : Nm} {new : St} {E' : Env} (pl : RId) (hs : simpleT td = true) (hv : RV w E td v p) (hl : Link F a w st E n new E') (hf : Free new (Under pl)) (hb : Boxed bs new) :
    ∃ E2, Nmd F a w st E n new E' (nmV st.rg bs pl n p).2 E2 (Under pl) ∧ RV w E2 td v (nmV st.rg bs pl n p).1 ∧ Ok new (nmV st.rg bs pl n p).1 ∧ ∀ q ∈ ids (nmV st.rg bs pl n p).1, ∃ g, lookR q (nmV st.rg bs pl n p).2.rg = some g := by
  cases hv with
  | cells hr hv =>
    obtain ⟨E2, h1, h2, h3, h4⟩ := nmV_sound h (bs := bs) pl hr hl hf hb
    exact ⟨E2, h1, .cells h2 hv, h3, h4⟩
  | tup hvs =>
    obtain ⟨l1, l2⟩ := hvs.parts
    obtain ⟨E2, h1, h2, h3, h4⟩ := nmRVs_sound h (bs := bs) pl 0 (hvs.each hs) l1 l2 hl (hf.less fun q ⟨j, _, hq⟩ => hq.next) hb
    exact ⟨E2, ⟨h1.link, fun q hq => h1.rb q (fun ⟨j, _, hj⟩ => hq hj.next), fun q hq => h1.keys q (fun ⟨j, _, hj⟩ => hq hj.next)⟩, .tup h2, Ok.agg h3, h4⟩
  | undef => exact ⟨E', Nmd.refl hl _, .undef, Ok.of_nil rfl rfl, fun q hq => (List.not_mem_nil hq).elim⟩
  | dead => exact ⟨E', Nmd.refl hl _, .dead, Ok.of_nil rfl rfl, fun q hq => (List.not_mem_nil hq).elim⟩
end Go.Vm
end
section
set_option linter.unusedSimpArgs false
set_option linter.unusedVariables false
namespace Go.Vm
variable {P : Program} {F : Fr} {w w' : World} {st st' : St} {a a' : Act} {E E' : Env} {K : Act → World → Prop} {Q : Exit → Act → World → Prop} {o : Oper} {C : Nat → List PV → Option (PV × List PV)}

theorem Link.of_rel {n : Nm} {new new' : St} (hl : Link F a w st E n new E') (hr : Rel F new' a w E') (hrg : new'.rg = n.rg) (hok : ∀ q, OkId new q → OkId new' q) (hk : ∀ q, lookR q new'.rg = lookR q new.rg) (hh : ∀ x b, Holds new' E' x b → Holds new E' x b) : Link F a w st E n new' E' :=
  ⟨hr, hrg, hl.X, hl.bb, fun r q h => by obtain ⟨h1, h2, h3⟩ := hl.m r q h; exact ⟨h1, hok q h2, by rw [hk]; exact h3⟩, fun x b hx => hl.held x b (hh x b hx)⟩

/-- Keys of a list, each once. -/
def Keyed (s : List (Nat × PV)) : Prop := (s.map (·.1)).Nodup

theorem look_mem {α : Type} : ∀ {l : List (Nat × α)} {k : Nat} {v : α}, look k l = some v → k ∈ l.map (·.1)
  | [], _, _, h => by simp [look] at h
  | (j, u) :: r, k, v, h => by
    simp only [look] at h
    split at h
    · rename_i e; simp [e]
    · simp [look_mem h]

theorem nmL_keys (rg : List (RId × RegC)) (bs : List Nat) (tag : Nat) : ∀ (s : List (Nat × PV)) (n : Nm), (nmL rg bs tag n s).1.map (·.1) = s.map (·.1)
  | [], n => rfl
  | (k, v) :: r, n => by simp only [nmL, List.map_cons, nmL_keys rg bs tag r]

theorem look_append {α : Type} (k : Nat) : ∀ l m : List (Nat × α), look k (l ++ m) = (match look k l with | some v => some v | none => look k m)
  | [], m => by simp [look]
  | (j, u) :: r, m => by
    by_cases h : j = k
    · simp [look, h]
    · simp only [List.cons_append, look, if_neg h, look_append k r m]
theorem look_none {α : Type} {l : List (Nat × α)} {k : Nat} (h : k ∉ l.map (·.1)) : look k l = none := by
  cases e : look k l with
  | none => rfl
  | some v => exact absurd (look_mem e) h

/-- Whatever slots and boxes lead to is there. -/
structure Alive (new : St) : Prop where
  sl : ∀ s p, look s new.sl = some p → ∀ q ∈ ids p, ∃ g, lookR q new.rg = some g
  bx : ∀ s p, look s new.bx = some p → ∀ q ∈ ids p, ∃ g, lookR q new.rg = some g
theorem Nmd.kept {n n2 : Nm} {new : St} {E2 : Env} {S : RId → Prop} (h : Nmd F a w st E n new E' n2 E2 S) (hf : Free new S) {q : RId} (hq : ∃ g, lookR q new.rg = some g) : ∃ g, lookR q n2.rg = some g := by
  obtain ⟨g, hg⟩ := hq
  exact ⟨g, by rw [h.keys q (fun hS => by rw [hf.rg q hS] at hg; cases hg)]; exact hg⟩

/-- Slots, one after the other. -/
theorem nmL_slots (h : Rel F st a w E) (hsimple : ∀ k, k < F.N → simpleT (F.Γ k) = true) {bs : List Nat} : ∀ {s : List (Nat × PV)} {n : Nm} {new : St} {E' : Env}, Keyed s → (∀ k v, (k, v) ∈ s → look k st.sl = some v) → (∀ k v, (k, v) ∈ s → look k new.sl = none) →
    Link F a w st E n new E' → Boxed bs new → Alive new → ∃ E2, Link F a w st E (nmL st.rg bs 0 n s).2 ⟨(nmL st.rg bs 0 n s).1 ++ new.sl, new.bx, (nmL st.rg bs 0 n s).2.rg⟩ E2 ∧ Alive ⟨(nmL st.rg bs 0 n s).1 ++ new.sl, new.bx, (nmL st.rg bs 0 n s).2.rg⟩ ∧
      ∀ q, (∀ k, ¬ Under [0, k] q) → lookR q (nmL st.rg bs 0 n s).2.rg = lookR q new.rg
  | [], n, new, E', _, _, _, hl, _, hal => by
    have e : (⟨(nmL st.rg bs 0 n []).1 ++ new.sl, new.bx, (nmL st.rg bs 0 n []).2.rg⟩ : St) = new := by
      simp only [nmL, List.nil_append, ← hl.rg]
    rw [e]
    exact ⟨E', hl, hal, fun q _ => by simp only [nmL, hl.rg]⟩
  | (k, p) :: s, n, new, E', hk, hs, hnew, hl, hb, hal => by
    simp only [Keyed, List.map_cons, List.nodup_cons] at hk
    have hlk := hnew k p (by simp)
    obtain ⟨v, g1, g2⟩ := h.slots k p (hs k p (by simp))
    have hN : k < F.N := by rw [← h.size]; exact (Array.getElem?_eq_some_iff.1 g1).1
    have hnok : ∀ q, Under [0, k] q → ¬ OkId new q := by
      rintro q ⟨s, rfl⟩
      exact hl.rel.notOk hlk s
    -- the slot is there, its value is not yet
    have r1 := hl.rel.setS (d := k) (v := v) (p := .dead) hN g1 .dead (Ok.of_nil rfl rfl)
    have up : ∀ p' q, OkId new q → OkId { new with sl := put k p' new.sl } q := fun p' q hq => hq.put
    have l1 : Link F a w st E n { new with sl := put k .dead new.sl } E' := hl.of_rel r1 hl.rg (up _) (fun _ => rfl) (fun x b hx => by
      cases hx with
      | row h1 h2 h3 => exact .row h1 h2 h3
      | mp h1 h2 => exact .mp h1 h2
      | box h1 h2 => exact .box h1 h2)
    have hfr : Free { new with sl := put k .dead new.sl } (Under [0, k]) := by
      refine ⟨fun q hq => ?_, fun s' p' hp r hr' hS => ?_, fun s' p' hp r hr' hS => hnok r hS ((hl.rel.named.bx s' p' hp).1 r hr'), fun q hq => ?_⟩
      · cases e : lookR q new.rg with
        | none => rfl
        | some g => exact absurd (hl.rel.named.rg q g e) (hnok q hq)
      · simp only [look_put] at hp
        split at hp
        · injection hp with hp; subst hp; simp [ids] at hr'
        · exact hnok r hS ((hl.rel.named.sl s' p' hp).1 r hr')
      · obtain ⟨s', rfl⟩ := hq
        exact .inl ⟨k, s', .dead, rfl, by simp [look_put]⟩
    obtain ⟨E2, m1, m2, m3, m4⟩ := nmRV_sound h (bs := bs) [0, k] (hsimple k hN) g2 l1 hfr hb
    -- now its value
    have okp : ∀ q, OkId { new with sl := put k .dead new.sl } q → OkId { sl := put k (nmV st.rg bs [0, k] n p).1 (put k .dead new.sl), bx := new.bx, rg := (nmV st.rg bs [0, k] n p).2.rg } q := fun q hq => hq.mono (fun s v hv => by
      by_cases e : k = s
      · exact ⟨(nmV st.rg bs [0, k] n p).1, by simp only [look_put, if_pos e]⟩
      · simp only [look_put, if_neg e] at hv ⊢
        exact ⟨v, hv⟩) (fun s v hv => ⟨v, hv⟩)
    have r2 := m1.link.rel.setS (d := k) (v := v) (p := (nmV st.rg bs [0, k] n p).1) hN g1 m2 ⟨fun q hq => okp q (m3.1 q hq), fun b hb' => m3.2 b hb'⟩
    have l2 : Link F a w st E (nmV st.rg bs [0, k] n p).2 { sl := put k (nmV st.rg bs [0, k] n p).1 (put k .dead new.sl), bx := new.bx, rg := (nmV st.rg bs [0, k] n p).2.rg } E2 := m1.link.of_rel r2 rfl (fun q hq => okp q (hq.mono (fun s v hv => ⟨v, hv⟩) (fun s v hv => ⟨v, hv⟩))) (fun _ => rfl) (fun x b hx => by
      cases hx with
      | row h1 h2 h3 => exact .row h1 h2 h3
      | mp h1 h2 => exact .mp h1 h2
      | box h1 h2 => exact .box h1 h2)
    obtain ⟨E3, l3, al3, ky3⟩ := nmL_slots h hsimple (bs := bs) (s := s) hk.2 (fun k' v' hm => hs k' v' (by simp [hm])) (fun k' v' hm => by
      have hne : k ≠ k' := fun e => hk.1 (by rw [e]; exact List.mem_map.2 ⟨(k', v'), hm, rfl⟩)
      simp only [look_put, if_neg hne]
      exact hnew k' v' (by simp [hm])) l2 hb ⟨fun s' p' hp q hq => by
        simp only [look_put] at hp
        by_cases e : k = s'
        · simp only [if_pos e, Option.some.injEq] at hp
          subst hp
          exact m4 q hq
        · simp only [if_neg e] at hp
          exact m1.kept hfr (hal.sl s' p' hp q hq), fun s' p' hp q hq => m1.kept hfr (hal.bx s' p' hp q hq)⟩
    have hnk : look k (nmL st.rg bs 0 (nmV st.rg bs [0, k] n p).2 s).1 = none := look_none (by rw [nmL_keys]; exact hk.1)
    have hsame : Same ⟨(nmL st.rg bs 0 (nmV st.rg bs [0, k] n p).2 s).1 ++ put k (nmV st.rg bs [0, k] n p).1 (put k .dead new.sl), new.bx, (nmL st.rg bs 0 (nmV st.rg bs [0, k] n p).2 s).2.rg⟩
        ⟨(nmL st.rg bs 0 n ((k, p) :: s)).1 ++ new.sl, new.bx, (nmL st.rg bs 0 n ((k, p) :: s)).2.rg⟩ := by
      refine ⟨fun j => ?_, fun j => rfl, fun j => rfl⟩
      simp only [nmL, List.cons_append, look, look_append, look_put]
      by_cases hj : k = j
      · subst hj
        simp [hnk]
      · simp [hj]
    refine ⟨E3, l3.of_rel (l3.rel.same hsame) rfl (fun q hq => hq.same hsame) (fun q => hsame.rg q) (fun x b hx => hx.same hsame.symm), ⟨fun s' p' hp q hq => ?_, fun s' p' hp q hq => ?_⟩, fun q hq => ?_⟩
    · exact al3.sl s' p' (by rw [← hsame.sl]; exact hp) q hq
    · exact al3.bx s' p' hp q hq
    · have e1 := ky3 q hq
      have e2 := m1.keys q (hq k)
      exact e1.trans e2

/-- Boxes, one after the other. -/
theorem nmL_boxes (h : Rel F st a w E) {bs : List Nat} : ∀ {s : List (Nat × PV)} {n : Nm} {new : St} {E' : Env}, Keyed s → (∀ k v, (k, v) ∈ s → look k st.bx = some v) → (∀ k v, (k, v) ∈ s → look k new.bx = some .dead) →
    Link F a w st E n new E' → Boxed bs new → Alive new → (∀ k v, (k, v) ∈ s → ∀ q, Under [1, k] q → lookR q new.rg = none) → ∃ E2, Link F a w st E (nmL st.rg bs 1 n s).2 ⟨new.sl, (nmL st.rg bs 1 n s).1 ++ new.bx, (nmL st.rg bs 1 n s).2.rg⟩ E2
  | [], n, new, E', _, _, _, hl, _, hal, _ => by
    have e : (⟨new.sl, (nmL st.rg bs 1 n []).1 ++ new.bx, (nmL st.rg bs 1 n []).2.rg⟩ : St) = new := by
      simp only [nmL, List.nil_append, ← hl.rg]
    rw [e]
    exact ⟨E', hl⟩
  | (k, p) :: s, n, new, E', hk, hs, hnew, hl, hb, hal, hno => by
    simp only [Keyed, List.map_cons, List.nodup_cons] at hk
    have hlk := hnew k p (by simp)
    obtain ⟨td, ad, g1, g2, g3, cur, et, cs, g4, g5, g6⟩ := h.boxes k p (hs k p (by simp))
    have hfr : Free new (Under [1, k]) := by
      refine ⟨fun q hq => hno k p (by simp) q hq, fun s' p' hp r hr hS => ?_, fun s' p' hp r hr hS => ?_, fun q hq => ?_⟩
      · obtain ⟨g, hg⟩ := hal.sl s' p' hp r hr
        rw [hno k p (by simp) r hS] at hg
        cases hg
      · obtain ⟨g, hg⟩ := hal.bx s' p' hp r hr
        rw [hno k p (by simp) r hS] at hg
        cases hg
      · obtain ⟨s', rfl⟩ := hq
        exact .inr ⟨k, s', .dead, rfl, hlk⟩
    obtain ⟨E2, m1, m2, m3, m4⟩ := nmV_sound h (bs := bs) [1, k] g6 hl hfr hb
    have okp : ∀ q, OkId new q → OkId { sl := new.sl, bx := put k (nmV st.rg bs [1, k] n p).1 new.bx, rg := (nmV st.rg bs [1, k] n p).2.rg } q := fun q hq => hq.mono (fun s v hv => ⟨v, hv⟩) (fun s v hv => by
      by_cases e : k = s
      · exact ⟨(nmV st.rg bs [1, k] n p).1, by simp only [look_put, if_pos e]⟩
      · simp only [look_put, if_neg e]
        exact ⟨v, hv⟩)
    have r2 := m1.link.rel.setB (b := k) (q := .dead) (p := (nmV st.rg bs [1, k] n p).1) (td := td) (ad := ad) hlk (by rw [m1.link.bb]; exact g1) ⟨by rw [m1.link.X]; exact g2, g3, cur, et, cs, g4, g5, m2⟩
      ⟨fun q hq => (m3.1 q hq).mono (fun s v hv => ⟨v, hv⟩) (fun s v hv => ⟨v, hv⟩), m3.2⟩
    have l2 : Link F a w st E (nmV st.rg bs [1, k] n p).2 { sl := new.sl, bx := put k (nmV st.rg bs [1, k] n p).1 new.bx, rg := (nmV st.rg bs [1, k] n p).2.rg } E2 := m1.link.of_rel r2 rfl (fun q hq => okp q (hq.mono (fun s v hv => ⟨v, hv⟩) (fun s v hv => ⟨v, hv⟩))) (fun _ => rfl) (fun x b hx => by
      cases hx with
      | row h1 h2 h3 => exact .row h1 h2 h3
      | mp h1 h2 => exact .mp h1 h2
      | box h1 h2 =>
        simp only [look_put] at h1
        split at h1
        · rename_i e; subst e; exact .box hlk h2
        · exact .box h1 h2)
    obtain ⟨E3, l3⟩ := nmL_boxes h (bs := bs) (s := s) hk.2 (fun k' v' hm => hs k' v' (by simp [hm])) (fun k' v' hm => by
      have hne : k ≠ k' := fun e => hk.1 (by rw [e]; exact List.mem_map.2 ⟨(k', v'), hm, rfl⟩)
      simp only [look_put, if_neg hne]
      exact hnew k' v' (by simp [hm])) l2 (fun b hb' => by
        obtain ⟨x, hx⟩ := hb b hb'
        simp only [look_put]
        split
        · exact ⟨_, rfl⟩
        · exact ⟨x, hx⟩) ⟨fun s' p' hp q hq => m1.kept hfr (hal.sl s' p' hp q hq), fun s' p' hp q hq => by
        simp only [look_put] at hp
        by_cases e : k = s'
        · simp only [if_pos e, Option.some.injEq] at hp
          subst hp
          exact m4 q hq
        · simp only [if_neg e] at hp
          exact m1.kept hfr (hal.bx s' p' hp q hq)⟩ (fun k' v' hm q hq => by
        have hne : k ≠ k' := fun e => hk.1 (by rw [e]; exact List.mem_map.2 ⟨(k', v'), hm, rfl⟩)
        have := m1.keys q (fun hu => hne (Under.apart (base := [1]) hu hq))
        exact this.trans (hno k' v' (by simp [hm]) q hq))
    have hnk : look k (nmL st.rg bs 1 (nmV st.rg bs [1, k] n p).2 s).1 = none := look_none (by rw [nmL_keys]; exact hk.1)
    have hsame : Same ⟨new.sl, (nmL st.rg bs 1 (nmV st.rg bs [1, k] n p).2 s).1 ++ put k (nmV st.rg bs [1, k] n p).1 new.bx, (nmL st.rg bs 1 (nmV st.rg bs [1, k] n p).2 s).2.rg⟩
        ⟨new.sl, (nmL st.rg bs 1 n ((k, p) :: s)).1 ++ new.bx, (nmL st.rg bs 1 n ((k, p) :: s)).2.rg⟩ := by
      refine ⟨fun j => rfl, fun j => ?_, fun j => rfl⟩
      simp only [nmL, List.cons_append, look, look_append, look_put]
      by_cases hj : k = j
      · subst hj
        simp [hnk]
      · simp [hj]
    exact ⟨E3, l3.of_rel (l3.rel.same hsame) rfl (fun q hq => hq.same hsame) (fun q => hsame.rg q) (fun x b hx => hx.same hsame.symm)⟩
end Go.Vm
end
section
set_option linter.unusedSimpArgs false
set_option linter.unusedVariables false
namespace Go.Vm
variable {P : Program} {F : Fr} {w w' : World} {st st' : St} {a a' : Act} {E E' : Env} {K : Act → World → Prop} {Q : Exit → Act → World → Prop} {o : Oper} {C : Nat → List PV → Option (PV × List PV)}

theorem pickL_mem {l : List (Nat × PV)} : ∀ {K : List Nat} {k : Nat} {v : PV}, (k, v) ∈ pickL l K → look k l = some v ∧ k ∈ K
  | [], _, _, h => by simp [pickL] at h
  | j :: K, k, v, h => by
    simp only [pickL] at h
    split at h
    · rename_i u hu
      rcases List.mem_cons.1 h with h | h
      · injection h with h1 h2; subst h1 h2; exact ⟨hu, by simp⟩
      · obtain ⟨h1, h2⟩ := pickL_mem h; exact ⟨h1, by simp [h2]⟩
    · obtain ⟨h1, h2⟩ := pickL_mem h; exact ⟨h1, by simp [h2]⟩
theorem pickL_keyed {l : List (Nat × PV)} : ∀ {K : List Nat}, K.Nodup → Keyed (pickL l K)
  | [], _ => List.nodup_nil
  | j :: K, h => by
    obtain ⟨h1, h2⟩ := List.nodup_cons.1 h
    simp only [pickL]
    split
    · refine List.nodup_cons.2 ⟨fun hm => ?_, pickL_keyed h2⟩
      obtain ⟨⟨k, v⟩, hm', e⟩ := List.mem_map.1 hm
      simp only at e
      have := (pickL_mem hm').2
      rw [e] at this
      exact h1 this
    · exact pickL_keyed h2
def deadB (b : List (Nat × PV)) : List (Nat × PV) := b.map fun x => (x.1, .dead)
theorem look_deadB : ∀ {b : List (Nat × PV)} {k : Nat}, (k ∈ b.map (·.1) → look k (deadB b) = some .dead) ∧ (∀ p, look k (deadB b) = some p → p = .dead ∧ k ∈ b.map (·.1))
  | [], k => ⟨by simp, fun p h => by simp [deadB, look] at h⟩
  | (j, v) :: b, k => by
    obtain ⟨h1, h2⟩ := look_deadB (b := b) (k := k)
    refine ⟨fun hm => ?_, fun p h => ?_⟩
    · simp only [deadB, List.map_cons, look]
      split
      · rfl
      · rename_i hne
        simp only [List.map_cons, List.mem_cons] at hm
        rcases hm with hm | hm
        · exact absurd hm.symm hne
        · exact h1 hm
    · simp only [deadB, List.map_cons, look] at h
      split at h
      · rename_i e; injection h with h; exact ⟨h.symm, by simp [e]⟩
      · obtain ⟨g1, g2⟩ := h2 p h; exact ⟨g1, by simp only [List.map_cons, List.mem_cons]; exact .inr g2⟩
theorem keysL_eq : ∀ b : List (Nat × PV), keysL b = b.map (·.1)
  | [] => rfl
  | (k, v) :: r => by simp only [keysL, List.map_cons, keysL_eq r]

theorem norm_sound (h : Rel F st a w E) (hsimple : ∀ k, k < F.N → simpleT (F.Γ k) = true) {K : List Nat} (hK : K.Nodup) : ∃ E', Rel F (norm K st) a w E' := by
  let s := pickL st.sl K
  let b := pickL st.bx K
  let bs := keysL b
  -- the boxes, empty
  have hbk : ∀ k p, look k (deadB b) = some p → p = .dead ∧ ∃ v, look k st.bx = some v := by
    intro k p hp
    obtain ⟨h1, h2⟩ := (look_deadB (b := b) (k := k)).2 p hp
    obtain ⟨⟨k', v⟩, hm, e⟩ := List.mem_map.1 h2
    simp only at e
    subst e
    exact ⟨h1, v, (pickL_mem hm).1⟩
  let E0 : Env := { X := E.X, rb := fun _ => none, bb := E.bb }
  have back0 : ∀ x c, Holds ⟨[], deadB b, []⟩ E0 x c → ∃ k, Holds st E (.inr k) c ∧ x = .inr k := by
    intro x c hx
    cases hx with
    | row h1 => simp [lookR] at h1
    | mp h1 => simp [lookR] at h1
    | box h1 h2 =>
      obtain ⟨_, v, hv⟩ := hbk _ _ h1
      exact ⟨_, .box hv h2, rfl⟩
  have r0 : Rel F ⟨[], deadB b, []⟩ a w E0 := by
    refine ⟨h.defers, h.size, by simp [look], fun k p hp => ?_, by simp [lookR], fun x y c hx hy => ?_, ⟨by simp [look], fun k p hp => ?_, by simp [lookR]⟩, h.since, fun x c hx => ?_, h.outer, fun k x y hx hy => ?_⟩
    · obtain ⟨rfl, v, hv⟩ := hbk k p hp
      obtain ⟨td, ad, g1, g2, g3, cur, et, cs, g4, g5, g6⟩ := h.boxes k v hv
      exact ⟨td, ad, g1, g2, g3, cur, et, cs, g4, g5, .dead g6.length g6.one⟩
    · obtain ⟨k, h1, rfl⟩ := back0 x c hx
      obtain ⟨j, h2, rfl⟩ := back0 y c hy
      exact h.dist _ _ _ h1 h2
    · obtain ⟨rfl, _⟩ := hbk k p hp
      exact ⟨by simp [ids], by simp [bxs]⟩
    · obtain ⟨k, h1, rfl⟩ := back0 x c hx
      exact h.fresh _ _ h1
    · obtain ⟨_, v, hv⟩ := hbk k y hy
      exact h.pbox k x v hx hv
  have l0 : Link F a w st E ⟨[], []⟩ ⟨[], deadB b, []⟩ E0 := ⟨r0, rfl, rfl, rfl, by simp [lookR], fun x c hx => .inr (back0 x c hx)⟩
  have boxed : ∀ sl rg, Boxed bs ⟨sl, deadB b, rg⟩ := fun sl rg k hk => ⟨.dead, (look_deadB (b := b) (k := k)).1 (by
    have := List.contains_iff_mem.1 hk
    rw [← keysL_eq]; exact this)⟩
  obtain ⟨E1, l1, al1, ky1⟩ := nmL_slots h hsimple (bs := bs) (s := s) (pickL_keyed hK) (fun k v hm => (pickL_mem hm).1) (fun k v _ => rfl) l0 (boxed _ _) ⟨by simp [look], fun s' p' hp q hq => by
    obtain ⟨rfl, _⟩ := hbk s' p' hp; simp [ids] at hq⟩
  obtain ⟨E2, l2⟩ := nmL_boxes h (bs := bs) (s := b) (pickL_keyed hK) (fun k v hm => (pickL_mem hm).1) (fun k v hm => (look_deadB (b := b) (k := k)).1 (List.mem_map.2 ⟨(k, v), hm, rfl⟩)) l1 (boxed _ _) al1 (fun k v hm q hq => by
    have := ky1 q (fun j hu => by
      obtain ⟨x, rfl⟩ := hq
      obtain ⟨y, hy⟩ := hu
      simp at hy)
    exact this.trans rfl)
  refine ⟨E2, l2.rel.same ⟨fun k => ?_, fun k => ?_, fun k => rfl⟩⟩
  · show look k (norm K st).sl = look k (_ ++ [])
    rw [List.append_nil]
    rfl
  · show look k (norm K st).bx = look k (_ ++ deadB b)
    rw [look_append]
    have hn : (norm K st).bx = (nmL st.rg bs 1 (nmL st.rg bs 0 ⟨[], []⟩ s).2 b).1 := rfl
    rw [hn]
    cases e : look k (nmL st.rg bs 1 (nmL st.rg bs 0 ⟨[], []⟩ s).2 b).1 with
    | some v => rfl
    | none =>
      cases e2 : look k (deadB b) with
      | none => rfl
      | some p =>
        obtain ⟨_, hm⟩ := (look_deadB (b := b) (k := k)).2 p e2
        rw [← nmL_keys st.rg bs 1 b (nmL st.rg bs 0 ⟨[], []⟩ s).2] at hm
        have : ∀ {l : List (Nat × PV)}, k ∈ l.map (·.1) → ∃ v, look k l = some v := by
          intro l
          induction l with
          | nil => simp
          | cons x l ih =>
            intro hm
            simp only [look]
            split
            · exact ⟨_, rfl⟩
            · rename_i hne
              simp only [List.map_cons, List.mem_cons] at hm
              rcases hm with hm | hm
              · exact absurd hm.symm hne
              · exact ih hm
        obtain ⟨v, hv⟩ := this hm
        rw [e] at hv
        cases hv
end Go.Vm
end
section
set_option linter.unusedSimpArgs false
set_option linter.unusedVariables false
namespace Go.Vm
variable {P : Program} {F : Fr} {w w' : World} {st st' : St} {a a' : Act} {E E' : Env} {K : Act → World → Prop} {Q : Exit → Act → World → Prop} {o : Oper} {C : Nat → List PV → Option (PV × List PV)}

def exitOf : Ex → Exit
  | .normal => .normal
  | .exit id => .exit id
  | .ret => .ret

/-- Regions whose order is drawn: what is looked at there (DrawB), and that it is enough (see the text on drawn orders). -/
structure Drawn (P : Program) (T : Nat → Option (List TD × TD)) where
  ok : (Nat → TD) → Nat → Nat → Array Oper → List VOp → Bool
  sound : ∀ {C : Nat → List PV → Option (PV × List PV)} {F : Fr} {st st' : St} {a : Act} {w : World} {E : Env} {Q : Exit → Act → World → Prop} {id : Nat} {ops : Array Oper} {vops : List VOp}, Serves P T C → Rel F st a w E → ok F.Γ F.N F.np ops vops = true → runOps C vops st = some st' →
    (∀ a' w' E', Rel F st' a' w' E' → Q .normal a' w') → (Code.region id ops true).wp P Q a w

def codeOk (P : Program) (T : Nat → Option (List TD × TD)) (D : (Nat → TD) → Nat → Nat → Array Oper → List VOp → Bool) (Γ : Nat → TD) (N np : Nat) : Code → VCode → Bool
  | .skip, .skip => true
  | .region _ ops d, .region d' vops K => (d == d') && nodupN K && (if d then D Γ N np ops vops else vopsOk P T Γ N np ops ops.toList vops)
  | .seq a b, .seq a' b' => codeOk P T D Γ N np a a' && codeOk P T D Γ N np b b'
  | .cond c a b, .cond c' a' b' => argOk Γ c c' .bool && codeOk P T D Γ N np a a' && codeOk P T D Γ N np b b'
  | .block id c, .block id' c' => decide (id = id') && codeOk P T D Γ N np c c'
  | .loop c, .loop K c' => nodupN K && codeOk P T D Γ N np c c'
  | .exit id, .exit id' => decide (id = id')
  | .ret, .ret => true
  | .scope c, v => codeOk P T D Γ N np c v
  | .label _, .skip => true
  | _, _ => false

theorem loop_sound {c : Code} {f : St → Option (Ex × St)} (hf : ∀ {st st' : St} {ex : Ex} {a : Act} {w : World} {E : Env} {Q : Exit → Act → World → Prop}, Rel F st a w E → f st = some (ex, st') → (∀ a' w' E', Rel F st' a' w' E' → Q (exitOf ex) a' w') → c.wp P Q a w) :
    ∀ (m : Nat) {st st' : St} {ex : Ex} {a : Act} {w : World} {E : Env}, Rel F st a w E → loopN m f st = some (ex, st') → (∀ a' w' E', Rel F st' a' w' E' → Q (exitOf ex) a' w') → ex ≠ .normal ∧ Code.rounds P c Q m a w
  | 0, st, st', ex, a, w, E, h, hl, hQ => by simp [loopN] at hl
  | m + 1, st, st', ex, a, w, E, h, hl, hQ => by
    simp only [loopN] at hl
    split at hl
    · rename_i st1 hst
      -- a round, and the rest
      have hne : ex ≠ .normal := by
        have : ∀ (m : Nat) {st : St}, loopN m f st = some (ex, st') → ex ≠ .normal := by
          intro m
          induction m with
          | zero => intro st h; simp [loopN] at h
          | succ m ih =>
            intro st h
            simp only [loopN] at h
            split at h
            · exact ih h
            · rename_i hn
              intro e
              subst e
              exact hn _ h
        exact this m hl
      refine ⟨hne, ?_⟩
      rw [rounds_succ]
      refine hf h hst (fun a' w' E' h' => ?_)
      exact (loop_sound hf m h' hl hQ).2
    · rename_i hn
      have hne : ex ≠ .normal := by
        intro e
        subst e
        exact hn _ hl
      refine ⟨hne, ?_⟩
      rw [rounds_succ]
      refine hf h hl (fun a' w' E' h' => ?_)
      have := hQ a' w' E' h'
      cases ex with
      | normal => exact absurd rfl hne
      | exit id => exact this
      | ret => exact this

theorem exec_sound {T : Nat → Option (List TD × TD)} (D : Drawn P T) (hS : Serves P T C) (hsimple : ∀ k, k < F.N → simpleT (F.Γ k) = true) {n : Nat} : ∀ {c : Code} {v : VCode} {st st' : St} {ex : Ex} {a : Act} {w : World} {E : Env} {Q : Exit → Act → World → Prop}, Rel F st a w E → codeOk P T D.ok F.Γ F.N F.np c v = true → exec C n v st = some (ex, st') →
    (∀ a' w' E', Rel F st' a' w' E' → Q (exitOf ex) a' w') → c.wp P Q a w := by
  intro c
  induction c with
  | skip =>
    intro v st st' ex a w E Q h hok he hQ
    cases v <;> simp only [codeOk, Bool.false_eq_true] at hok
    simp only [exec, Option.some.injEq, Prod.mk.injEq] at he
    obtain ⟨rfl, rfl⟩ := he
    exact wp_skip (hQ _ _ _ h)
  | region id ops d =>
    intro v st st' ex a w E Q h hok he hQ
    cases v <;> simp only [codeOk, Bool.false_eq_true] at hok
    rename_i d' vops K
    simp only [Bool.and_eq_true, beq_iff_eq] at hok
    obtain ⟨⟨rfl, hK⟩, hok⟩ := hok
    simp only [exec] at he
    split at he
    · rename_i st1 hst
      simp only [Option.some.injEq, Prod.mk.injEq] at he
      obtain ⟨rfl, rfl⟩ := he
      have hQ' : ∀ a' w' E', Rel F st1 a' w' E' → Q .normal a' w' := fun a' w' E' h' => by
        obtain ⟨E2, h2⟩ := norm_sound h' hsimple (nodupN_spec hK)
        exact hQ _ _ _ h2
      cases d with
      | true =>
        simp only [if_true] at hok
        exact D.sound hS h hok hst hQ'
      | false =>
        simp only [Bool.false_eq_true, if_false] at hok
        exact wp_region_list (runOps_sound hS h hok hst hQ')
    · cases he
  | seq x y ihx ihy =>
    intro v st st' ex a w E Q h hok he hQ
    cases v <;> simp only [codeOk, Bool.false_eq_true] at hok
    rename_i x' y'
    simp only [Bool.and_eq_true] at hok
    simp only [exec] at he
    split at he
    · rename_i st1 hst
      exact wp_seq (ihx h hok.1 hst (fun a' w' E' h' => ihy h' hok.2 he hQ))
    · rename_i hn
      refine wp_seq (ihx h hok.1 he (fun a' w' E' h' => ?_))
      have := hQ a' w' E' h'
      cases ex with
      | normal => exact absurd he (hn _)
      | exit id => exact this
      | ret => exact this
  | cond c x y ihx ihy =>
    intro v st st' ex a w E Q h hok he hQ
    cases v <;> simp only [codeOk, Bool.false_eq_true] at hok
    rename_i c' x' y'
    simp only [Bool.and_eq_true] at hok
    simp only [exec] at he
    split at he
    · rename_i hc
      exact wp_cond_true (h.arg hok.1.1 hc).1.bool.1 (ihx h hok.1.2 he hQ)
    · rename_i hc
      exact wp_cond_false (h.arg hok.1.1 hc).1.bool.1 (ihy h hok.2 he hQ)
    · cases he
  | block id c ih =>
    intro v st st' ex a w E Q h hok he hQ
    cases v <;> simp only [codeOk, Bool.false_eq_true] at hok
    rename_i id' c'
    simp only [Bool.and_eq_true, decide_eq_true_eq] at hok
    obtain ⟨rfl, hok⟩ := hok
    simp only [exec] at he
    split at he
    · rename_i j st1 hst
      refine wp_block (ih h hok hst (fun a' w' E' h' => ?_))
      simp only [exitOf, Exit.inBlock]
      split at he
      · rename_i e
        simp only [Option.some.injEq, Prod.mk.injEq] at he
        obtain ⟨rfl, rfl⟩ := he
        rw [if_pos e]
        exact hQ _ _ _ h'
      · rename_i e
        simp only [Option.some.injEq, Prod.mk.injEq] at he
        obtain ⟨rfl, rfl⟩ := he
        rw [if_neg e]
        exact hQ _ _ _ h'
    · rename_i hn
      refine wp_block (ih h hok he (fun a' w' E' h' => ?_))
      have := hQ a' w' E' h'
      cases ex with
      | normal => exact this
      | exit id => exact absurd he (hn _ _)
      | ret => exact this
  | loop c ih =>
    intro v st st' ex a w E Q h hok he hQ
    cases v <;> simp only [codeOk, Bool.false_eq_true] at hok
    rename_i K c'
    simp only [Bool.and_eq_true] at hok
    simp only [exec] at he
    exact wp_loop_rounds n (loop_sound (f := fun s => exec C n c' (norm K s)) (fun h he hQ => by
      obtain ⟨E2, h2⟩ := norm_sound h hsimple (nodupN_spec hok.1)
      exact ih h2 hok.2 he hQ) n h he hQ).2
  | exit id =>
    intro v st st' ex a w E Q h hok he hQ
    cases v <;> simp only [codeOk, Bool.false_eq_true] at hok
    simp only [decide_eq_true_eq] at hok
    subst hok
    simp only [exec, Option.some.injEq, Prod.mk.injEq] at he
    obtain ⟨rfl, rfl⟩ := he
    exact wp_exit (hQ _ _ _ h)
  | ret =>
    intro v st st' ex a w E Q h hok he hQ
    cases v <;> simp only [codeOk, Bool.false_eq_true] at hok
    simp only [exec, Option.some.injEq, Prod.mk.injEq] at he
    obtain ⟨rfl, rfl⟩ := he
    exact wp_ret (hQ _ _ _ h)
  | scope c ih =>
    intro v st st' ex a w E Q h hok he hQ
    have hok' : codeOk P T D.ok F.Γ F.N F.np c v = true := by cases v <;> simpa only [codeOk] using hok
    refine wp_scope_straight (ih h hok' he (fun a' w' E' h' => ?_))
    have := hQ a' w' E' h'
    cases ex <;> exact this
  | label l =>
    intro v st st' ex a w E Q h hok he hQ
    cases v <;> simp only [codeOk, Bool.false_eq_true] at hok
    simp only [exec, Option.some.injEq, Prod.mk.injEq] at he
    obtain ⟨rfl, rfl⟩ := he
    exact wp_label (hQ _ _ _ h)
  | _ =>
    intro v st st' ex a w E Q h hok he hQ
    cases v <;> simp [codeOk] at hok
end Go.Vm
end
section
set_option linter.unusedSimpArgs false
set_option linter.unusedVariables false
namespace Go.Vm
variable {P : Program} {w w' : World} {st st' : St} {a a' : Act} {E E' : Env} {K : Act → World → Prop} {Q : Exit → Act → World → Prop} {o : Oper} {C : Nat → List PV → Option (PV × List PV)}

def slotTy (vf : VF) (k : Nat) : TD := vf.tys.getD k .bool
def pre : List TD → List TD → Bool
  | [], _ => true
  | t :: ts, u :: us => tdEq t u && pre ts us
  | _, _ => false
theorem pre_get : ∀ {ts us : List TD}, pre ts us = true → ∀ (j : Nat) t, ts[j]? = some t → us[j]? = some t
  | [], _, _, j, t, h => by simp at h
  | t :: ts, u :: us, hp, j, t', h => by
    simp only [pre, Bool.and_eq_true] at hp
    cases j with
    | zero => simp only [List.getElem?_cons_zero, Option.some.injEq] at h ⊢; rw [← tdEq_eq hp.1, h]
    | succ j => simp only [List.getElem?_cons_succ] at h ⊢; exact pre_get hp.2 j t' h
  | _ :: _, [], hp, _, _, _ => by simp [pre] at hp

def fnOk (P : Program) (T : Nat → Option (List TD × TD)) (D : (Nat → TD) → Nat → Nat → Array Oper → List VOp → Bool) (f : Nat) (vf : VF) : Bool :=
  match P.funcs[f]? with
  | some fn => (match fn.body with
    | some c => decide (fn.ntmps = vf.ntmps) && decide (vf.params.length ≤ vf.ntmps) && pre vf.params vf.tys && vf.tys.all simpleT && tdEq vf.ret (retOf vf.results) &&
        resOk P (slotTy vf) fn.results.toList vf.res vf.results && codeOk P T D (slotTy vf) vf.ntmps vf.params.length c vf.body
    | none => false)
  | none => false

structure ProgOk (P : Program) (T : Nat → Option (List TD × TD)) (D : Drawn P T) (prog : Nat → Option VFn) : Prop where
  code : ∀ f x, T f = some x → ∃ vf, prog f = some (.code vf) ∧ x = (vf.params, vf.ret) ∧ fnOk P T D.ok f vf = true

theorem ArgsR.lengths {X : Nat → Prop} : ∀ {ts : List TD} {vs : List Value} {ps : List PV} {hb : List Nat}, ArgsR w X ts vs ps hb → vs.length = ts.length ∧ ps.length = ts.length
  | _, _, _, _, .nil => ⟨rfl, rfl⟩
  | _, _, _, _, .cons h hs => by
    obtain ⟨h1, h2⟩ := hs.lengths
    exact ⟨by simp [h1], by simp [h2]⟩

def boxOf (ts : List TD) (vs : List Value) (ps : List PV) (j : Nat) : Option (TD × Addr) :=
  match ts[j]?, vs[j]?, ps[j]? with
  | some (.ptr td), some (.pointer (some ad)), some (.inout _) => some (td, ad)
  | _, _, _ => none

theorem boxOf_none {ts : List TD} {vs : List Value} {ps : List PV} {d : Nat} (h : ts.length ≤ d) : boxOf ts vs ps d = none := by
  unfold boxOf
  rw [List.getElem?_eq_none h]

theorem callF_sound {T : Nat → Option (List TD × TD)} (D : Drawn P T) {prog : Nat → Option VFn} (hp : ProgOk P T D prog) : ∀ n, Serves P T (callF prog n)
  | 0 => by
    intro f params ret ps r outs vs w X hb hT hC
    simp [callF] at hC
  | n + 1 => by
    have ih := callF_sound D hp n
    intro f params ret ps r outs vs w X hb hT hC hA hn
    obtain ⟨vf, hpf, hx, hok⟩ := hp.code f _ hT
    injection hx with hx1 hx2
    subst hx1 hx2
    unfold fnOk at hok
    split at hok
    · rename_i fn hfn
      split at hok
      · rename_i c hc
        simp only [Bool.and_eq_true, decide_eq_true_eq] at hok
        obtain ⟨⟨⟨⟨⟨⟨k1, k2⟩, k3⟩, k4⟩, k5⟩, k6⟩, k7⟩ := hok
        obtain ⟨lv, lp⟩ := hA.lengths
        let F : Fr := { Γ := slotTy vf, N := vf.ntmps, w0 := w, P0 := fun b => b ∈ hb, X0 := X, np := vf.params.length, PB := boxOf vf.params vs ps, hnp := fun d hd => boxOf_none hd }
        have hsimple : ∀ k, k < F.N → simpleT (F.Γ k) = true := by
          intro k _
          show simpleT (vf.tys.getD k .bool) = true
          rw [List.getD_eq_getElem?_getD]
          cases e : vf.tys[k]? with
          | none => rfl
          | some t => exact List.all_eq_true.1 k4 t (List.mem_of_getElem? e)
        simp only [callF, hpf] at hC
        have key : ∀ ex st, exec (callF prog n) n vf.body (enterA 0 ps) = some (ex, st) → finish vf ps st = some (r, outs) → (ex = .ret ∨ ex = .normal) → Calls P f vs.toArray w (fun e w' => ∃ v X' bl ol, e = .returned v ∧ Since w w' (fun b => b ∈ hb) ∧ Keeps w w' X X' ∧ (∀ b, X b → b < w.heap.size → b ∉ hb → X' b) ∧ ROV w' X' vf.ret v r bl ∧ OutsR w' X' vf.params vs ps outs ol ∧ (bl ++ ol).Nodup ∧
            ∀ b ∈ bl ++ ol, b ∈ hb ∨ w.heap.size ≤ b) := by
          intro ex st hex hfin hexit
          refine calls_of_wp hfn hc ?_
          have hsz : (vs.toArray ++ Array.replicate (fn.ntmps - vs.toArray.size) undef).size = F.N := by
            show _ = vf.ntmps
            simp only [Array.size_append, List.size_toArray, Array.size_replicate]
            omega
          obtain ⟨E, e1, e2, _, _⟩ := ArgsR.enter (F := F) (a := { tmps := vs.toArray ++ Array.replicate (fn.ntmps - vs.toArray.size) undef, defers := [] }) (i := 0) rfl hsz rfl rfl hA hn (fun b hb => hb)
            (fun j v hj => by
              have hlt := (List.getElem?_eq_some_iff.1 hj).1
              simp only [Nat.zero_add]
              rw [Array.getElem?_append_left (by simpa using hlt)]
              simpa using hj)
            (fun j t hj => by
              simp only [Nat.zero_add]
              show vf.tys.getD j .bool = t
              rw [List.getD_eq_getElem?_getD, pre_get k3 j t hj]
              rfl)
            (by simpa using k2)
            (fun j td ad y h1 h2 h3 => by
              simp only [Nat.zero_add]
              show boxOf vf.params vs ps j = _
              unfold boxOf
              rw [h1, h2, h3])
            (fun j x hx => by
              simp only [Nat.zero_add] at hx
              have hx : boxOf vf.params vs ps j = some x := hx
              unfold boxOf at hx
              split at hx
              · rename_i h3; exact ⟨_, h3⟩
              · cases hx)
          have post : ∀ a' w' E', Rel F st a' w' E' → bodyPost P fn (fun e w' => ∃ v X' bl ol, e = .returned v ∧ Since w w' (fun b => b ∈ hb) ∧ Keeps w w' X X' ∧ (∀ b, X b → b < w.heap.size → b ∉ hb → X' b) ∧ ROV w' X' vf.ret v r bl ∧ OutsR w' X' vf.params vs ps outs ol ∧ (bl ++ ol).Nodup ∧
              ∀ b ∈ bl ++ ol, b ∈ hb ∨ w.heap.size ≤ b) (exitOf ex) a' w' := by
            intro a' w' E' h'
            obtain ⟨v, g1, X', bl, ol, g2⟩ := leave h' rfl rfl rfl hA (fun j td ad y h1 h2 h3 => by
              show boxOf vf.params vs ps j = _
              unfold boxOf
              rw [h1, h2, h3]) hfin k6 (tdEq_eq k5)
            rcases hexit with rfl | rfl
            · exact ⟨h'.defers, v, g1, v, X', bl, ol, rfl, g2⟩
            · exact ⟨h'.defers, v, g1, v, X', bl, ol, rfl, g2⟩
          exact exec_sound D ih hsimple e2 k7 hex post
        split at hC
        · rename_i st hex
          exact key .ret st hex hC (.inl rfl)
        · rename_i st hex
          exact key .normal st hex hC (.inr rfl)
        · cases hC
      · cases hok
    · cases hok
end Go.Vm
end
section
set_option linter.unusedSimpArgs false
set_option linter.unusedVariables false
namespace Go.Vm
variable {P : Program} {F : Fr} {w w' : World} {st st' : St} {a a' : Act} {E E' : Env} {K : Act → World → Prop} {Q : Exit → Act → World → Prop} {o : Oper} {C : Nat → List PV → Option (PV × List PV)}

/-- The same region, frozen or not. -/
def RegC.alike : RegC → RegC → Prop
  | .row g, .row g' => g'.isNil = g.isNil ∧ g'.xs = g.xs
  | .mp _ es, .mp _ es' => es' = es
  | _, _ => False

/-- Which names are known. -/
structure Kn where
  n : RId → Prop
  b : Nat → Prop
def Kno (B : Kn) (v : PV) : Prop := (∀ r ∈ ids v, B.n r) ∧ (∀ b ∈ bxs v, B.b b)
theorem Kno.of_nil {B : Kn} {p : PV} (h1 : ids p = []) (h2 : bxs p = []) : Kno B p := ⟨fun r hr => (by rw [h1] at hr; cases hr), fun b hb => (by rw [h2] at hb; cases hb)⟩

/-- What is read in s is read in t too: the slots 'us', regions and boxes known to B. -/
structure Le (B : Kn) (us : List Nat) (s t : St) : Prop where
  sl : ∀ u ∈ us, ∀ v, look u s.sl = some v → look u t.sl = some v ∧ Kno B v
  rg : ∀ r, B.n r → ∀ g, lookR r s.rg = some g → ∃ g', lookR r t.rg = some g' ∧ g.alike g'
  bx : ∀ b, B.b b → ∀ x, look b s.bx = some x → look b t.bx = some x ∧ Kno B x

def VA.uses : VA → List Nat
  | .s n => [n]
  | .c _ => []
def usesL : List VA → List Nat
  | [] => []
  | x :: r => x.uses ++ usesL r
def usesP : List (Nat × VA) → List Nat
  | [] => []
  | (_, x) :: r => x.uses ++ usesP r
def usesO : Option VA → List Nat
  | none => []
  | some x => x.uses

variable {B : Kn} {s t : St} {us : List Nat}

theorem eval_le (h : Le B us s t) {x : VA} (hx : ∀ u ∈ x.uses, u ∈ us) {v : PV} (hv : x.eval s = some v) : x.eval t = some v := by
  cases x with
  | s n => exact (h.sl n (hx n (by simp [VA.uses])) v hv).1
  | c p => exact hv
theorem eval_ok (h : Le B us s t) {n : Nat} (hx : n ∈ us) {v : PV} (hv : (VA.s n).eval s = some v) : Kno B v := (h.sl n hx v hv).2

theorem content_le (h : Le B us s t) {p : PV} (hp : Kno B p) {c : Bool × List PV} (hc : s.content p = some c) : t.content p = some c := by
  cases p <;> simp only [St.content] at hc ⊢ <;> first | exact hc | skip
  case ref r =>
    split at hc
    · rename_i g hg
      obtain ⟨g', h1, h2⟩ := h.rg r (hp.1 r (by simp [ids])) _ hg
      rw [h1]
      cases g' with
      | row g' => simp only [RegC.alike] at h2; simp only [h2.1, h2.2]; exact hc
      | mp _ _ => exact h2.elim
    · cases hc
  case sub r lo hi =>
    split at hc
    · rename_i g hg
      obtain ⟨g', h1, h2⟩ := h.rg r (hp.1 r (by simp [ids])) _ hg
      rw [h1]
      cases g' with
      | row g' => simp only [RegC.alike] at h2; simp only [h2.1, h2.2]; exact hc
      | mp _ _ => exact h2.elim
    · cases hc
theorem entries_le (h : Le B us s t) {p : PV} (hp : Kno B p) {c : List (PV × PV)} (hc : s.entries p = some c) : t.entries p = some c := by
  cases p <;> simp only [St.entries] at hc ⊢ <;> first | exact hc | skip
  case mref r =>
    split at hc
    · rename_i fz es hg
      obtain ⟨g', h1, h2⟩ := h.rg r (hp.1 r (by simp [ids])) _ hg
      rw [h1]
      cases g' with
      | row g' => exact h2.elim
      | mp fz' es' => simp only [RegC.alike] at h2; subst h2; exact hc
    · cases hc

mutual
theorem imm_le (h : Le B us s t) : ∀ {p : PV}, (∀ r ∈ ids p, B.n r) → ∀ {c : PV × List RId}, s.imm p = some c → t.imm p = some c
  | .bool _, _, c, hc | .int _ _, _, c, hc | .str _, _, c, hc | .arr _, _, c, hc | .nil, _, c, hc | .sl _ _, _, c, hc | .nilp, _, c, hc | .map _, _, c, hc | .fn _, _, c, hc => by simpa only [St.imm] using hc
  | .own _ _, _, c, hc | .omap _, _, c, hc | .ptr _ _, _, c, hc | .eptr _ _ _, _, c, hc | .rptr _, _, c, hc | .inout _, _, c, hc | .undef, _, c, hc | .dead, _, c, hc => by simp only [St.imm] at hc; cases hc
  | .agg fs, hp, c, hc => by
    simp only [St.imm] at hc ⊢
    split at hc
    · rename_i gs l hg
      rw [imms_le h (fun r hr => hp r (by simpa only [ids] using hr)) hg]
      exact hc
    · cases hc
  | .ref r, hp, c, hc => by
    simp only [St.imm] at hc ⊢
    split at hc
    · rename_i g hg
      obtain ⟨g', h1, h2⟩ := h.rg r (hp r (by simp [ids])) _ hg
      rw [h1]
      cases g' with
      | row g' => simp only [RegC.alike] at h2; simp only [h2.1, h2.2]; exact hc
      | mp _ _ => exact h2.elim
    · cases hc
  | .sub r lo hi, hp, c, hc => by
    simp only [St.imm] at hc ⊢
    split at hc
    · rename_i g hg
      obtain ⟨g', h1, h2⟩ := h.rg r (hp r (by simp [ids])) _ hg
      rw [h1]
      cases g' with
      | row g' => simp only [RegC.alike] at h2; simp only [h2.1, h2.2]; exact hc
      | mp _ _ => exact h2.elim
    · cases hc
  | .mref r, hp, c, hc => by
    simp only [St.imm] at hc ⊢
    split at hc
    · rename_i fz es hg
      obtain ⟨g', h1, h2⟩ := h.rg r (hp r (by simp [ids])) _ hg
      rw [h1]
      cases g' with
      | row g' => exact h2.elim
      | mp fz' es' => simp only [RegC.alike] at h2; subst h2; exact hc
    · cases hc
theorem imms_le (h : Le B us s t) : ∀ {ps : List PV}, (∀ r ∈ idss ps, B.n r) → ∀ {c : List PV × List RId}, s.imms ps = some c → t.imms ps = some c
  | [], _, c, hc => by simpa only [St.imms] using hc
  | p :: ps, hp, c, hc => by
    simp only [St.imms] at hc ⊢
    split at hc
    · rename_i y l hy
      rw [imm_le h (fun r hr => hp r (by simp [idss, hr])) hy]
      split at hc
      · rename_i ys m hys
        rw [imms_le h (fun r hr => hp r (by simp [idss, hr])) hys]
        exact hc
      · cases hc
    · cases hc
end

/-- Constants lead to nothing. -/
def VA.closed : VA → Bool
  | .s _ => true
  | .c v => (ids v).isEmpty && (bxs v).isEmpty
theorem eval_known (h : Le B us s t) {x : VA} (hx : ∀ u ∈ x.uses, u ∈ us) (hc : x.closed = true) {v : PV} (hv : x.eval s = some v) : x.eval t = some v ∧ Kno B v := by
  cases x with
  | s n => exact h.sl n (hx n (by simp [VA.uses])) v hv
  | c p =>
    simp only [VA.closed, Bool.and_eq_true, List.isEmpty_iff] at hc
    simp only [VA.eval, Option.some.injEq] at hv
    subst hv
    exact ⟨rfl, Kno.of_nil hc.1 hc.2⟩
end Go.Vm
end
section
set_option linter.unusedSimpArgs false
set_option linter.unusedVariables false
namespace Go.Vm
variable {P : Program} {F : Fr} {w w' : World} {st st' : St} {a a' : Act} {E E' : Env} {K : Act → World → Prop} {Q : Exit → Act → World → Prop} {o : Oper} {C : Nat → List PV → Option (PV × List PV)}
variable {B : Kn} {s s' t : St} {us : List Nat} {d : Option Nat}

/-- It only reads, and gives the same value in both states. -/
def ReadsAlike (C : Nat → List PV → Option (PV × List PV)) (s s' t : St) (d : Option Nat) (op : VO) : Prop := ∃ v, s.putS d v = some s' ∧ step C t d op = t.putS d v

theorem ra_move {x : VA} (h : Le B us s t) (hx : ∀ u ∈ x.uses, u ∈ us) (hst : step C s d (.move x) = some s') : ReadsAlike C s s' t d (.move x) := by
  simp only [step] at hst
  split at hst
  · rename_i v hv
    exact ⟨v, hst, by simp only [step, eval_le h hx hv]⟩
  · cases hst
theorem ra_pick {c x z : VA} (h : Le B us s t) (h1 : ∀ u ∈ c.uses, u ∈ us) (h2 : ∀ u ∈ x.uses, u ∈ us) (h3 : ∀ u ∈ z.uses, u ∈ us) (hst : step C s d (.pick c x z) = some s') : ReadsAlike C s s' t d (.pick c x z) := by
  simp only [step] at hst
  split at hst
  · rename_i hc
    split at hst
    · rename_i v hv
      exact ⟨v, hst, by simp only [step, eval_le h h1 hc, eval_le h h2 hv]⟩
    · cases hst
  · rename_i hc
    split at hst
    · rename_i v hv
      exact ⟨v, hst, by simp only [step, eval_le h h1 hc, eval_le h h3 hv]⟩
    · cases hst
  · cases hst
theorem ra_load {x : VA} (h : Le B us s t) (hx : ∀ u ∈ x.uses, u ∈ us) (hcl : x.closed = true) (hst : step C s d (.load x) = some s') : ReadsAlike C s s' t d (.load x) := by
  simp only [step] at hst
  split at hst
  · rename_i b p hv
    obtain ⟨e1, hok⟩ := eval_known h hx hcl hv
    split at hst
    · rename_i v hb
      split at hst
      · rename_i u hu
        have := (h.bx b (hok.2 b (by simp [bxs])) v hb).1
        exact ⟨u, hst, by simp only [step, e1, this, hu]⟩
      · cases hst
    · cases hst
  · rename_i r i p hv
    obtain ⟨e1, hok⟩ := eval_known h hx hcl hv
    split at hst
    · rename_i g hg
      split at hst
      · rename_i v hi
        split at hst
        · rename_i u hu
          obtain ⟨g', h1, h2⟩ := h.rg r (hok.1 r (by simp [ids])) _ hg
          cases g' with
          | row g' =>
            simp only [RegC.alike] at h2
            exact ⟨u, hst, by simp only [step, e1, h1, h2.2, hi, hu]⟩
          | mp _ _ => exact h2.elim
        · cases hst
      · cases hst
    · cases hst
  · rename_i v hv
    exact ⟨v, hst, by simp only [step, eval_le h hx hv]⟩
  · cases hst
theorem ra_nilCheck {x : VA} (h : Le B us s t) (hx : ∀ u ∈ x.uses, u ∈ us) (hst : step C s d (.nilCheck x) = some s') : ReadsAlike C s s' t d (.nilCheck x) := by
  simp only [step] at hst
  split at hst
  · rename_i hv; exact ⟨_, hst, by simp only [step, eval_le h hx hv]⟩
  · rename_i hv; exact ⟨_, hst, by simp only [step, eval_le h hx hv]⟩
  · rename_i hv; exact ⟨_, hst, by simp only [step, eval_le h hx hv]⟩
  · cases hst
theorem binOpS_le (h : Le B us s t) {op : BinOp} {x y r : PV} (hx : Kno B x) (hst : binOpS s op x y = some r) : binOpS t op x y = some r := by
  unfold binOpS at hst ⊢
  split at hst
  · rename_i r0
    split at hst
    · rename_i g hg
      obtain ⟨g', h1, h2⟩ := h.rg r0 (hx.1 r0 (by simp [ids])) _ hg
      cases g' with
      | row g' => simp only [RegC.alike] at h2; simp only [h1, h2.1]; exact hst
      | mp _ _ => exact h2.elim
    · cases hst
  · rename_i r0 lo hi
    split at hst
    · rename_i g hg
      obtain ⟨g', h1, h2⟩ := h.rg r0 (hx.1 r0 (by simp [ids])) _ hg
      cases g' with
      | row g' => simp only [RegC.alike] at h2; simp only [h1, h2.1]; exact hst
      | mp _ _ => exact h2.elim
    · cases hst
  · exact hst
theorem ra_bin {op : BinOp} {x y : VA} (h : Le B us s t) (hx : ∀ u ∈ x.uses, u ∈ us) (hy : ∀ u ∈ y.uses, u ∈ us) (hcl : x.closed = true) (hst : step C s d (.bin op x y) = some s') : ReadsAlike C s s' t d (.bin op x y) := by
  simp only [step] at hst
  split at hst
  · rename_i u v hu hv
    obtain ⟨e1, hok⟩ := eval_known h hx hcl hu
    split at hst
    · rename_i r hr
      exact ⟨r, hst, by simp only [step, e1, eval_le h hy hv, binOpS_le h hok hr]⟩
    · cases hst
  · cases hst
theorem ra_un {op : UnOp} {x : VA} (h : Le B us s t) (hx : ∀ u ∈ x.uses, u ∈ us) (hst : step C s d (.un op x) = some s') : ReadsAlike C s s' t d (.un op x) := by
  simp only [step] at hst
  split at hst
  · rename_i u hu
    split at hst
    · rename_i r hr
      exact ⟨r, hst, by simp only [step, eval_le h hx hu, hr]⟩
    · cases hst
  · cases hst
theorem ra_convInt {k : IntKind} {x : VA} (h : Le B us s t) (hx : ∀ u ∈ x.uses, u ∈ us) (hst : step C s d (.convInt k x) = some s') : ReadsAlike C s s' t d (.convInt k x) := by
  simp only [step] at hst
  split at hst
  · rename_i hv; exact ⟨_, hst, by simp only [step, eval_le h hx hv]⟩
  · cases hst
theorem ra_convBytes {x : VA} (h : Le B us s t) (hx : ∀ u ∈ x.uses, u ∈ us) (hst : step C s d (.convBytes x) = some s') : ReadsAlike C s s' t d (.convBytes x) := by
  simp only [step] at hst
  split at hst
  · rename_i hv; exact ⟨_, hst, by simp only [step, eval_le h hx hv]⟩
  · cases hst
theorem ra_convStr {x : VA} (h : Le B us s t) (hx : ∀ u ∈ x.uses, u ∈ us) (hcl : x.closed = true) (hst : step C s d (.convStr x) = some s') : ReadsAlike C s s' t d (.convStr x) := by
  simp only [step] at hst
  split at hst
  · rename_i u hu
    obtain ⟨e1, hok⟩ := eval_known h hx hcl hu
    split at hst
    · rename_i n xs hc
      split at hst
      · rename_i l hl
        exact ⟨_, hst, by simp only [step, e1, content_le h hok hc, hl]⟩
      · cases hst
    · cases hst
  · cases hst
end Go.Vm
end
