/- Of the claim for One: the walk of the law and the plain facts behind it. No conditions. Order. Trim. Classes that lead alike become one. Of. What texts lead to: the steps of Of keep it. What Of makes is the one machine of its texts. Alike machines; the page's example; arguments. Arguments; the machine with one state doubled. -/
import Derived.Test.YtnajiilcdcffdaaOneOwn3
import Derived.Test.YtnajiilcdcffdaaVm6
section
set_option linter.unusedSimpArgs false
set_option linter.unusedVariables false
set_option maxHeartbeats 4000000
namespace Go.Vm.Ytnajiilcdcffdaa
open Go.Vm
def z256 : List Nat := List.replicate 256 0
theorem zerosDFA : TD.zeros [.arr 256 (.int .u8), .slice (.slice (.int .i64)), .slice (.int .i64)] = [PV.arr (U8s z256), .nil, .nil] := by
  simp only [TD.zeros, TD.zero, TD.izero, U8s, z256, List.map_replicate]; rfl
theorem zDFA : tDFA.zero = PV.agg [.arr (U8s z256), .nil, .nil] := by
  rw [tDFA, TD.zero, zerosDFA]
theorem buildDFA (C : CF) (st : St) (d : Nat) (ps : List (Nat × VA)) : step C st (some d) (.build tDFA ps) = (match evalParts st ps with
    | some l => (match fill [.arr (U8s z256), .nil, .nil] l with | some r => some { st with sl := put d (.agg r) st.sl } | none => none)
    | none => none) := by
  simp only [step, tDFA, zerosDFA, St.putS]
  rfl
theorem OInv.short {n K : Nat} {src : Nat → Nat → Int} {L : List Nat} {num : List Int} {rs : List Rw} {row : List Int} (h : OInv n K src L num rs row) : L.length ≤ n := by
  have := sub_le (l := L) (L := List.range n) h.nd (fun x hx => by
    obtain ⟨i, hi, e⟩ := mem_nN hx
    exact List.mem_range.2 (e ▸ h.lt i hi))
  simpa using this
theorem order {c : List Nat} {nx : List Rw} {mk : List Int} (hc : Cls c) (h : RightP c nx mk) (b1 b2 : Bool) :
    Gives code 28 [Dfa c b1 nx b2 mk] (fun r => ∃ f1 f2 rs ms L, r = .agg [.arr (U8s c), .own f1 (Rs rs), .own f2 (Ns ms)] ∧ OrdOf nx.length (cnt c) (fun s k => nI (nR nx s).2 k) L rs ∧
      ms.length = L.length ∧ (∀ i, i < L.length → nI ms i = nI mk (nN L i)) ∧ (∀ i, i < rs.length → (nR rs i).1 = false) ∧ f2 = false) := by
  refine gives_of rfl ?_
  have h1 := h.n1
  have h2 := h.n2
  have h3 := h.mkl
  have hcnt := hc.cnt_le
  unfold Dfa
  simp (maxSteps := 2000000) (disch := omega) only [vm, ↓reduceIte, Nat.reduceEqDiff, decide_eq_true, decide_eq_false, if_pos, if_neg, U8s_get, Us_get, Ns_get, Rs_get, Bs_get, wrap64, wrap8, Int.cast_ofNat_Int, Int.reduceLT, Int.reduceLE, Int.reduceToNat, reduceCtorEq, Bool.not_true, Bool.not_false, gt_iff_lt, ge_iff_le, maxBytes, List.reduceReplicate, Nat.reduceAdd, Nat.reduceBEq, List.cons.injEq, and_false, false_and, and_true, true_and, and_self, v28, maxBytes, Ns_replicate, zDFA, ↓buildDFA]
  refine W_iter (fun i (l : List Int) => ⟨[(1, .ptr 1 []), (2, .ptr 2 []), (3, .ref [0, 3]), (16, .int .i64 nx.length), (17, .int .i64 i)], [(1, .agg [.arr (U8s c), .sl b1 (Rs nx), .sl b2 (Ns mk)]), (2, .agg [.arr (U8s z256), .ref [1, 2, 1], .ref [1, 2, 2]])], [([1, 2, 2], .row ⟨true, false, []⟩), ([1, 2, 1], .row ⟨true, false, []⟩), ([0, 3], .row ⟨false, false, Ns l⟩)]⟩) nx.length
    (fun i l => l.length = nx.length ∧ ∀ k, k < i → nI l k = -1) 0 (List.replicate nx.length 0) ?_ ⟨by simp, fun k hk => by omega⟩ (by omega) ?_ ?_
  · simp (maxSteps := 2000000) (disch := omega) only [vm, ↓reduceIte, Nat.reduceEqDiff, decide_eq_true, decide_eq_false, if_pos, if_neg, U8s_get, Us_get, Ns_get, Rs_get, Bs_get, wrap64, wrap8, Int.cast_ofNat_Int, Int.reduceLT, Int.reduceLE, Int.reduceToNat, reduceCtorEq, Bool.not_true, Bool.not_false, gt_iff_lt, ge_iff_le, maxBytes, List.reduceReplicate, Nat.reduceAdd, Nat.reduceBEq, List.cons.injEq, and_false, false_and, and_true, true_and, and_self, List.length_replicate]
  · rintro l ⟨g1, g2⟩
    simp (maxSteps := 2000000) (disch := omega) only [vm, ↓reduceIte, Nat.reduceEqDiff, decide_eq_true, decide_eq_false, if_pos, if_neg, U8s_get, Us_get, Ns_get, Rs_get, Bs_get, wrap64, wrap8, Int.cast_ofNat_Int, Int.reduceLT, Int.reduceLE, Int.reduceToNat, reduceCtorEq, Bool.not_true, Bool.not_false, gt_iff_lt, ge_iff_le, maxBytes, List.reduceReplicate, Nat.reduceAdd, Nat.reduceBEq, List.cons.injEq, and_false, false_and, and_true, true_and, and_self, zDFA, ↓buildDFA]
    refine W_while (fun (a : List Int × List Nat × List Rw × List Int × Bool × Bool) => ⟨[(1, .ptr 1 []), (2, .ptr 2 []), (3, .ref [0, 3]), (5, .ptr 5 []), (6, .ref [0, 6]), (7, .int .i64 a.2.2.1.length)], [(1, .agg [.arr (U8s c), .sl b1 (Rs nx), .sl b2 (Ns mk)]), (2, .agg [.arr (U8s z256), .ref [1, 2, 1], .ref [1, 2, 2]]), (5, .agg [.arr (U8s c), .ref [1, 5, 1], .ref [1, 5, 2]])],
      [([1, 5, 2], .row ⟨a.2.2.2.2.2, false, Ns a.2.2.2.1⟩), ([1, 5, 1], .row ⟨a.2.2.2.2.1, false, Rs a.2.2.1⟩), ([1, 2, 2], .row ⟨true, false, []⟩), ([1, 2, 1], .row ⟨true, false, []⟩), ([0, 6], .row ⟨false, false, Us a.2.1⟩), ([0, 3], .row ⟨false, false, Ns a.1⟩)]⟩)
      (fun a => OInv nx.length (cnt c) (fun s k => nI (nR nx s).2 k) a.2.1 a.1 a.2.2.1 [] ∧ a.2.2.2.1.length = a.2.2.1.length ∧ (∀ i, i < a.2.2.1.length → nI a.2.2.2.1 i = nI mk (nN a.2.1 i)) ∧ (∀ i, i < a.2.2.1.length → (nR a.2.2.1 i).1 = false) ∧ (a.2.2.2.2.2 = true → a.2.2.1 = []))
      (fun a => nx.length - a.2.2.1.length) (l.set 0 0, [0], [], [], true, true) ?_ ⟨OInv.start (by omega) g1 g2, rfl, fun i hi => by simp at hi, fun i hi => by simp at hi, fun _ => rfl⟩ ?_
    · rfl
    rintro ⟨num, L, rs, ms, f1, f2⟩ ⟨hI, q1, q2, q3, q4⟩
    simp only at hI q1 q2 q3 q4 ⊢
    have hLn := OInv.short hI
    have hle := hI.le
    by_cases he : L.length ≤ rs.length
    · simp (maxSteps := 2000000) (disch := omega) only [vm, ↓reduceIte, Nat.reduceEqDiff, decide_eq_true, decide_eq_false, if_pos, if_neg, U8s_get, Us_get, Ns_get, Rs_get, Bs_get, wrap64, wrap8, Int.cast_ofNat_Int, Int.reduceLT, Int.reduceLE, Int.reduceToNat, reduceCtorEq, Bool.not_true, Bool.not_false, gt_iff_lt, ge_iff_le, maxBytes, List.reduceReplicate, Nat.reduceAdd, Nat.reduceBEq, List.cons.injEq, and_false, false_and, and_true, true_and, and_self]
      have hfin := hI.fin he fun s k hs hk => by have hr := h.row s hs; exact (hr.to k (by rw [hr.len]; exact hk)).1
      exact ⟨f1, f2, rs, ms, L, rfl, hfin, by have := hfin.len; omega, fun i hi => q2 i (by have := hfin.len; omega), q3, by
        cases f2 with
        | false => rfl
        | true => have := q4 rfl; have := hfin.ord.pos; simp_all⟩
    · have hlt : rs.length < L.length := by omega
      have hsn := hI.lt _ hlt
      have hrow := h.row _ hsn
      have hrl := hrow.len
      simp (maxSteps := 2000000) (disch := omega) only [vm, ↓reduceIte, Nat.reduceEqDiff, decide_eq_true, decide_eq_false, if_pos, if_neg, U8s_get, Us_get, Ns_get, Rs_get, Bs_get, wrap64, wrap8, Int.cast_ofNat_Int, Int.reduceLT, Int.reduceLE, Int.reduceToNat, reduceCtorEq, Bool.not_true, Bool.not_false, gt_iff_lt, ge_iff_le, maxBytes, List.reduceReplicate, Nat.reduceAdd, Nat.reduceBEq, List.cons.injEq, and_false, false_and, and_true, true_and, and_self, maxBytes]
      refine W_iter (fun k (a : List Int × List Nat × List Int) => ⟨[(1, .ptr 1 []), (2, .ptr 2 []), (3, .ref [0, 3]), (5, .ptr 5 []), (6, .ref [0, 6]), (7, .int .i64 rs.length), (8, .ref [0, 8]), (58, .sl (nR nx (nN L rs.length)).1 (Ns (nR nx (nN L rs.length)).2)), (59, .int .i64 (cnt c)), (60, .int .i64 k)], [(1, .agg [.arr (U8s c), .sl b1 (Rs nx), .sl b2 (Ns mk)]), (2, .agg [.arr (U8s z256), .ref [1, 2, 1], .ref [1, 2, 2]]), (5, .agg [.arr (U8s c), .ref [1, 5, 1], .ref [1, 5, 2]])],
        [([1, 5, 2], .row ⟨f2, false, Ns ms⟩), ([1, 5, 1], .row ⟨f1, false, Rs rs⟩), ([1, 2, 2], .row ⟨true, false, []⟩), ([1, 2, 1], .row ⟨true, false, []⟩), ([0, 8], .row ⟨false, false, Ns a.2.2⟩), ([0, 6], .row ⟨false, false, Us a.2.1⟩), ([0, 3], .row ⟨false, false, Ns a.1⟩)]⟩) (cnt c)
        (fun k a => OInv nx.length (cnt c) (fun s k => nI (nR nx s).2 k) a.2.1 a.1 rs a.2.2 ∧ a.2.2.length = k ∧ (∃ L2, a.2.1 = L ++ L2)) 0 (num, L, []) ?_ ⟨hI, rfl, [], by simp⟩ (by omega) ?_ ?_
      · simp (maxSteps := 2000000) (disch := omega) only [vm, ↓reduceIte, Nat.reduceEqDiff, decide_eq_true, decide_eq_false, if_pos, if_neg, U8s_get, Us_get, Ns_get, Rs_get, Bs_get, wrap64, wrap8, Int.cast_ofNat_Int, Int.reduceLT, Int.reduceLE, Int.reduceToNat, reduceCtorEq, Bool.not_true, Bool.not_false, gt_iff_lt, ge_iff_le, maxBytes, List.reduceReplicate, Nat.reduceAdd, Nat.reduceBEq, List.cons.injEq, and_false, false_and, and_true, true_and, and_self, hrl]
        rfl
      · rintro ⟨num', L', row⟩ ⟨hJ, p1, L2, p2⟩
        simp only at hJ p1 p2 ⊢
        have hL'n := OInv.short hJ
        have hlt' : rs.length < L'.length := by rw [p2]; simp; omega
        have hsn' := hJ.lt _ hlt'
        simp (maxSteps := 2000000) (disch := omega) only [vm, ↓reduceIte, Nat.reduceEqDiff, decide_eq_true, decide_eq_false, if_pos, if_neg, U8s_get, Us_get, Ns_get, Rs_get, Bs_get, wrap64, wrap8, Int.cast_ofNat_Int, Int.reduceLT, Int.reduceLE, Int.reduceToNat, reduceCtorEq, Bool.not_true, Bool.not_false, gt_iff_lt, ge_iff_le, maxBytes, List.reduceReplicate, Nat.reduceAdd, Nat.reduceBEq, List.cons.injEq, and_false, false_and, and_true, true_and, and_self]
        refine ⟨(num', L', rs ++ [(false, row)], ms ++ [nI mk (nN L' rs.length)], false, false), by simp, ⟨hJ.next hlt' p1 false, by simp [q1], fun i hi => ?_, fun i hi => ?_, (fun e => by cases e)⟩, by simp only [List.length_append, List.length_cons, List.length_nil]; omega⟩
        · simp only [List.length_append, List.length_cons, List.length_nil] at hi
          simp only
          by_cases e : i = rs.length
          · subst e; rw [nI_app, if_neg (by omega), q1, Nat.sub_self, nI_one]
          · rw [nI_app, if_pos (by omega), q2 i (by omega), p2, nN_app, if_pos (by omega)]
        · simp only [List.length_append, List.length_cons, List.length_nil] at hi
          simp only
          rw [nR_app]
          split
          · rename_i e; exact q3 i e
          · have : i - rs.length = 0 := by omega
            rw [this, nR_one]
      · rintro k ⟨num', L', row⟩ hk ⟨hJ, p1, L2, p2⟩
        simp only at hJ p1 p2 ⊢
        have hL'n := OInv.short hJ
        have hlt' : rs.length < L'.length := by rw [p2]; simp; omega
        have eL : nN L' rs.length = nN L rs.length := by rw [p2, nN_app, if_pos (by omega)]
        have hto := hrow.to k (by omega)
        have hnl := hJ.nlen
        by_cases hneg : nI (nR nx (nN L rs.length)).2 k < 0
        · have hput := hJ.put hlt' (by omega) (x := nI (nR nx (nN L rs.length)).2 k) (.inl (by simp only [eL, p1]; exact ⟨hneg, trivial⟩))
          simp (maxSteps := 2000000) (disch := omega) only [vm, ↓reduceIte, Nat.reduceEqDiff, decide_eq_true, decide_eq_false, if_pos, if_neg, U8s_get, Us_get, Ns_get, Rs_get, Bs_get, wrap64, wrap8, Int.cast_ofNat_Int, Int.reduceLT, Int.reduceLE, Int.reduceToNat, reduceCtorEq, Bool.not_true, Bool.not_false, gt_iff_lt, ge_iff_le, maxBytes, List.reduceReplicate, Nat.reduceAdd, Nat.reduceBEq, List.cons.injEq, and_false, false_and, and_true, true_and, and_self]
          exact ⟨(num', L', row ++ [nI (nR nx (nN L rs.length)).2 k]), by simp, hput, by simp [p1], L2, p2⟩
        · obtain ⟨s, es⟩ : ∃ s : Nat, nI (nR nx (nN L rs.length)).2 k = s := ⟨(nI (nR nx (nN L rs.length)).2 k).toNat, by omega⟩
          have hs : s < nx.length := by omega
          rcases hJ.num s hs with g | g
          · have hmeet := hJ.meet hlt' (by omega) hs (by simp only [eL, p1]; exact es) g.1
            have hset : nI (num'.set s (L'.length : Int)) s = (L'.length : Int) := by rw [nI_set (by omega), if_pos rfl]
            have hsl : (num'.set s (L'.length : Int)).length = nx.length := by simpa using hnl
            simp (maxSteps := 2000000) (disch := omega) only [vm, ↓reduceIte, Nat.reduceEqDiff, decide_eq_true, decide_eq_false, if_pos, if_neg, U8s_get, Us_get, Ns_get, Rs_get, Bs_get, wrap64, wrap8, Int.cast_ofNat_Int, Int.reduceLT, Int.reduceLE, Int.reduceToNat, reduceCtorEq, Bool.not_true, Bool.not_false, gt_iff_lt, ge_iff_le, maxBytes, List.reduceReplicate, Nat.reduceAdd, Nat.reduceBEq, List.cons.injEq, and_false, false_and, and_true, true_and, and_self, es, g.1, hset]
            exact ⟨(num'.set s L'.length, L' ++ [s], row ++ [(L'.length : Int)]), by simp, hmeet, by simp [p1], L2 ++ [s], by rw [p2]; simp⟩
          · have hput := hJ.put hlt' (by omega) (x := nI num' s) (.inr (by simp only [eL, p1, es]; exact ⟨by omega, g.1, by simpa using g.2⟩))
            simp (maxSteps := 2000000) (disch := omega) only [vm, ↓reduceIte, Nat.reduceEqDiff, decide_eq_true, decide_eq_false, if_pos, if_neg, U8s_get, Us_get, Ns_get, Rs_get, Bs_get, wrap64, wrap8, Int.cast_ofNat_Int, Int.reduceLT, Int.reduceLE, Int.reduceToNat, reduceCtorEq, Bool.not_true, Bool.not_false, gt_iff_lt, ge_iff_le, maxBytes, List.reduceReplicate, Nat.reduceAdd, Nat.reduceBEq, List.cons.injEq, and_false, false_and, and_true, true_and, and_self, es]
            exact ⟨(num', L', row ++ [nI num' s]), by simp, hput, by simp [p1], L2, p2⟩
  · rintro i l hi ⟨g1, g2⟩
    simp (maxSteps := 2000000) (disch := omega) only [vm, ↓reduceIte, Nat.reduceEqDiff, decide_eq_true, decide_eq_false, if_pos, if_neg, U8s_get, Us_get, Ns_get, Rs_get, Bs_get, wrap64, wrap8, Int.cast_ofNat_Int, Int.reduceLT, Int.reduceLE, Int.reduceToNat, reduceCtorEq, Bool.not_true, Bool.not_false, gt_iff_lt, ge_iff_le, maxBytes, List.reduceReplicate, Nat.reduceAdd, Nat.reduceBEq, List.cons.injEq, and_false, false_and, and_true, true_and, and_self]
    refine ⟨l.set i (-1), by simp, by simpa using g1, fun k hk => ?_⟩
    rw [nI_set (by omega)]
    by_cases e : i = k
    · rw [if_pos e]
    · rw [if_neg e]; exact g2 k (by omega)
end Go.Vm.Ytnajiilcdcffdaa
end
section
set_option linter.unusedSimpArgs false
set_option linter.unusedVariables false
set_option maxHeartbeats 4000000
namespace Go.Vm.Ytnajiilcdcffdaa
open Go.Vm
/-- What is nil is empty. -/
def FlagP (nx : List Rw) : Prop := ∀ i, (nR nx i).1 = true → (nR nx i).2 = []
def trimTo (al : List Bool) (t : Int) : Int := if 0 ≤ t ∧ nB al t.toNat = false then -1 else t
theorem trim {c : List Nat} {nx : List Rw} {mk : List Int} (hc : Cls c) (h : RightP c nx mk) (hf : FlagP nx) {b2 : Bool} (hb2 : b2 = true → mk = []) (b1 : Bool) :
    Gives code 29 [Dfa c b1 nx b2 mk] (fun r => ∃ f1 rs al, r = .agg [.arr (U8s c), .own f1 (Rs rs), .own b2 (Ns mk)] ∧ rs.length = nx.length ∧ (∀ i, i < nx.length → (nB al i = true ↔ AliveP nx mk i)) ∧
      ∀ i, i < nx.length → (nR rs i).1 = (nR nx i).1 ∧ (nR rs i).2.length = (nR nx i).2.length ∧ ∀ k, k < (nR nx i).2.length → nI (nR rs i).2 k = trimTo al (nI (nR nx i).2 k)) := by
  refine gives_of rfl ?_
  have h1 := h.n1
  have h2 := h.n2
  have h3 := h.mkl
  have hcnt := hc.cnt_le
  obtain ⟨_, o1, hA, al, rfl, hal, hal2⟩ := alive hc h b1 b2
  obtain ⟨_, o2, hM, rfl⟩ := clone hb2 (by omega)
  unfold Dfa at hA ⊢
  simp (maxSteps := 2000000) (disch := omega) only [vm, ↓reduceIte, Nat.reduceEqDiff, decide_eq_true, decide_eq_false, if_pos, if_neg, U8s_get, Us_get, Ns_get, Rs_get, Bs_get, wrap64, wrap8, Int.cast_ofNat_Int, Int.reduceLT, Int.reduceLE, Int.reduceToNat, reduceCtorEq, Bool.not_true, Bool.not_false, gt_iff_lt, ge_iff_le, maxBytes, List.reduceReplicate, Nat.reduceAdd, Nat.reduceBEq, List.cons.injEq, and_false, false_and, and_true, true_and, and_self, v29, hA, hM, zDFA, ↓buildDFA]
  refine W_iter (fun i (a : List Rw × Bool) => ⟨[(2, .ptr 2 []), (3, .ref [0, 3]), (4, .ptr 4 []), (19, .sl b1 (Rs nx)), (20, .int .i64 nx.length), (21, .int .i64 i)], [(2, .agg [.arr (U8s z256), .ref [1, 2, 1], .ref [1, 2, 2]]), (4, .agg [.arr (U8s c), .ref [1, 4, 1], .ref [1, 4, 2]])],
    [([1, 4, 2], .row ⟨b2, false, Ns mk⟩), ([1, 4, 1], .row ⟨a.2, false, Rs a.1⟩), ([1, 2, 2], .row ⟨true, false, []⟩), ([1, 2, 1], .row ⟨true, false, []⟩), ([0, 3], .row ⟨false, false, Bs al⟩)]⟩) nx.length
    (fun i a => a.1.length = i ∧ ∀ k, k < i → (nR a.1 k).1 = (nR nx k).1 ∧ (nR a.1 k).2.length = (nR nx k).2.length ∧ ∀ j, j < (nR nx k).2.length → nI (nR a.1 k).2 j = trimTo al (nI (nR nx k).2 j)) 0 ([], true) ?_ ⟨rfl, fun k hk => by omega⟩ (by omega) ?_ ?_
  · rfl
  · rintro ⟨rs, f⟩ ⟨g1, g2⟩
    simp only at g1 g2 ⊢
    simp (maxSteps := 2000000) (disch := omega) only [vm, ↓reduceIte, Nat.reduceEqDiff, decide_eq_true, decide_eq_false, if_pos, if_neg, U8s_get, Us_get, Ns_get, Rs_get, Bs_get, wrap64, wrap8, Int.cast_ofNat_Int, Int.reduceLT, Int.reduceLE, Int.reduceToNat, reduceCtorEq, Bool.not_true, Bool.not_false, gt_iff_lt, ge_iff_le, maxBytes, List.reduceReplicate, Nat.reduceAdd, Nat.reduceBEq, List.cons.injEq, and_false, false_and, and_true, true_and, and_self]
    exact ⟨f, rs, al, rfl, g1, hal2, g2⟩
  · rintro i ⟨rs, f⟩ hi ⟨g1, g2⟩
    simp only at g1 g2 ⊢
    have hrow := h.row i hi
    have hrl := hrow.len
    obtain ⟨_, o3, hR, rfl⟩ := clone (hf i) (by omega)
    simp (maxSteps := 2000000) (disch := omega) only [vm, ↓reduceIte, Nat.reduceEqDiff, decide_eq_true, decide_eq_false, if_pos, if_neg, U8s_get, Us_get, Ns_get, Rs_get, Bs_get, wrap64, wrap8, Int.cast_ofNat_Int, Int.reduceLT, Int.reduceLE, Int.reduceToNat, reduceCtorEq, Bool.not_true, Bool.not_false, gt_iff_lt, ge_iff_le, maxBytes, List.reduceReplicate, Nat.reduceAdd, Nat.reduceBEq, List.cons.injEq, and_false, false_and, and_true, true_and, and_self, hR]
    refine W_iter (fun k (row : List Int) => ⟨[(2, .ptr 2 []), (3, .ref [0, 3]), (4, .ptr 4 []), (7, .ref [0, 7]), (19, .sl b1 (Rs nx)), (20, .int .i64 nx.length), (21, .int .i64 i), (27, .ref [0, 7]), (28, .int .i64 (nR nx i).2.length), (29, .int .i64 k)], [(2, .agg [.arr (U8s z256), .ref [1, 2, 1], .ref [1, 2, 2]]), (4, .agg [.arr (U8s c), .ref [1, 4, 1], .ref [1, 4, 2]])],
      [([1, 4, 2], .row ⟨b2, false, Ns mk⟩), ([1, 4, 1], .row ⟨f, false, Rs rs⟩), ([1, 2, 2], .row ⟨true, false, []⟩), ([1, 2, 1], .row ⟨true, false, []⟩), ([0, 7], .row ⟨(nR nx i).1, false, Ns row⟩), ([0, 3], .row ⟨false, false, Bs al⟩)]⟩) (nR nx i).2.length
      (fun k row => row.length = (nR nx i).2.length ∧ ∀ j, j < (nR nx i).2.length → nI row j = if j < k then trimTo al (nI (nR nx i).2 j) else nI (nR nx i).2 j) 0 (nR nx i).2 ?_ ⟨rfl, fun j hj => by rw [if_neg (by omega)]⟩ (by omega) ?_ ?_
    · rfl
    · rintro row ⟨p1, p2⟩
      simp (maxSteps := 2000000) (disch := omega) only [vm, ↓reduceIte, Nat.reduceEqDiff, decide_eq_true, decide_eq_false, if_pos, if_neg, U8s_get, Us_get, Ns_get, Rs_get, Bs_get, wrap64, wrap8, Int.cast_ofNat_Int, Int.reduceLT, Int.reduceLE, Int.reduceToNat, reduceCtorEq, Bool.not_true, Bool.not_false, gt_iff_lt, ge_iff_le, maxBytes, List.reduceReplicate, Nat.reduceAdd, Nat.reduceBEq, List.cons.injEq, and_false, false_and, and_true, true_and, and_self]
      refine ⟨(rs ++ [((nR nx i).1, row)], false), by simp, by simp [g1], fun k hk => ?_⟩
      simp only
      by_cases e : k = i
      · subst e
        rw [nR_app, if_neg (by omega), g1, Nat.sub_self, nR_one]
        exact ⟨rfl, p1, fun j hj => by rw [p2 j hj, if_pos hj]⟩
      · rw [nR_app, if_pos (by omega)]
        exact g2 k (by omega)
    · rintro k row hk ⟨p1, p2⟩
      have hto := hrow.to k hk
      have hget : nI row k = nI (nR nx i).2 k := by rw [p2 k hk, if_neg (by omega)]
      have fin : ∀ row' : List Int, row'.length = (nR nx i).2.length → (∀ j, j < (nR nx i).2.length → nI row' j = if j = k then trimTo al (nI (nR nx i).2 k) else nI row j) →
          row'.length = (nR nx i).2.length ∧ ∀ j, j < (nR nx i).2.length → nI row' j = if j < k + 1 then trimTo al (nI (nR nx i).2 j) else nI (nR nx i).2 j := by
        intro row' hl hv
        refine ⟨hl, fun j hj => ?_⟩
        rw [hv j hj]
        by_cases e : j = k
        · subst e; rw [if_pos rfl, if_pos (by omega)]
        · rw [if_neg e, p2 j hj]
          by_cases e2 : j < k
          · rw [if_pos e2, if_pos (by omega)]
          · rw [if_neg e2, if_neg (by omega)]
      by_cases hneg : nI (nR nx i).2 k < 0
      · simp (maxSteps := 2000000) (disch := omega) only [vm, ↓reduceIte, Nat.reduceEqDiff, decide_eq_true, decide_eq_false, if_pos, if_neg, U8s_get, Us_get, Ns_get, Rs_get, Bs_get, wrap64, wrap8, Int.cast_ofNat_Int, Int.reduceLT, Int.reduceLE, Int.reduceToNat, reduceCtorEq, Bool.not_true, Bool.not_false, gt_iff_lt, ge_iff_le, maxBytes, List.reduceReplicate, Nat.reduceAdd, Nat.reduceBEq, List.cons.injEq, and_false, false_and, and_true, true_and, and_self, hget]
        refine ⟨row, by simp, fin row p1 fun j hj => ?_⟩
        by_cases e : j = k
        · subst e; rw [if_pos rfl, hget]; unfold trimTo; rw [if_neg (by omega)]
        · rw [if_neg e]
      · obtain ⟨s, es⟩ : ∃ s : Nat, nI (nR nx i).2 k = s := ⟨(nI (nR nx i).2 k).toNat, by omega⟩
        have hs : s < nx.length := by omega
        cases hb : nB al s with
        | true =>
          simp (maxSteps := 2000000) (disch := omega) only [vm, ↓reduceIte, Nat.reduceEqDiff, decide_eq_true, decide_eq_false, if_pos, if_neg, U8s_get, Us_get, Ns_get, Rs_get, Bs_get, wrap64, wrap8, Int.cast_ofNat_Int, Int.reduceLT, Int.reduceLE, Int.reduceToNat, reduceCtorEq, Bool.not_true, Bool.not_false, gt_iff_lt, ge_iff_le, maxBytes, List.reduceReplicate, Nat.reduceAdd, Nat.reduceBEq, List.cons.injEq, and_false, false_and, and_true, true_and, and_self, hget, es, hb]
          refine ⟨row, by simp, fin row p1 fun j hj => ?_⟩
          by_cases e : j = k
          · subst e; rw [if_pos rfl, hget, es]; unfold trimTo; rw [if_neg (by rw [toNat_cast, hb]; simp)]
          · rw [if_neg e]
        | false =>
          simp (maxSteps := 2000000) (disch := omega) only [vm, ↓reduceIte, Nat.reduceEqDiff, decide_eq_true, decide_eq_false, if_pos, if_neg, U8s_get, Us_get, Ns_get, Rs_get, Bs_get, wrap64, wrap8, Int.cast_ofNat_Int, Int.reduceLT, Int.reduceLE, Int.reduceToNat, reduceCtorEq, Bool.not_true, Bool.not_false, gt_iff_lt, ge_iff_le, maxBytes, List.reduceReplicate, Nat.reduceAdd, Nat.reduceBEq, List.cons.injEq, and_false, false_and, and_true, true_and, and_self, hget, es, hb]
          refine ⟨row.set k (-1), by simp, fin _ (by simpa using p1) fun j hj => ?_⟩
          rw [nI_set (by omega)]
          by_cases e : j = k
          · subst e; rw [if_pos rfl, if_pos rfl, es]; unfold trimTo; rw [if_pos ⟨by omega, by rw [toNat_cast, hb]⟩]
          · rw [if_neg e, if_neg (fun e' => e e'.symm)]
end Go.Vm.Ytnajiilcdcffdaa
end
section
set_option linter.unusedSimpArgs false
set_option linter.unusedVariables false
set_option maxHeartbeats 40000000
namespace Go.Vm.Ytnajiilcdcffdaa
open Go.Vm
def colKey (nx : List Rw) (k n : Nat) : List UInt8 := ((List.range n).map fun i => word2 (nI (nR nx i).2 k + 1)).flatten
theorem colKey_succ (nx : List Rw) (k n : Nat) : colKey nx k (n + 1) = colKey nx k n ++ word2 (nI (nR nx n).2 k + 1) := by
  simp [colKey, List.range_succ]
theorem colKey_length (nx : List Rw) (k : Nat) : ∀ n, (colKey nx k n).length = 2 * n
  | 0 => by simp [colKey]
  | n + 1 => by rw [colKey_succ, List.length_append, colKey_length nx k n, word2_length]; omega
theorem column {c : List Nat} {nx : List Rw} {mk : List Int} (hc : Cls c) (h : RightP c nx mk) (b1 b2 : Bool) {k : Nat} (hk : k < cnt c) :
    Gives code 46 [Dfa c b1 nx b2 mk, .int .i64 k] (fun r => r = .str (colKey nx k nx.length)) := by
  refine gives_of rfl ?_
  obtain ⟨o, hw⟩ := word_eq
  have h2 := h.n2
  have hcnt := hc.cnt_le
  unfold Dfa
  simp (maxSteps := 2000000) (disch := omega) only [vm, ↓reduceIte, Nat.reduceEqDiff, decide_eq_true, decide_eq_false, if_pos, if_neg, U8s_get, Us_get, Ns_get, Rs_get, Bs_get, wrap64, wrap8, Int.cast_ofNat_Int, Int.reduceLT, Int.reduceLE, Int.reduceToNat, reduceCtorEq, Bool.not_true, Bool.not_false, gt_iff_lt, ge_iff_le, maxBytes, List.reduceReplicate, Nat.reduceAdd, Nat.reduceBEq, List.cons.injEq, and_false, false_and, and_true, true_and, and_self, v46]
  refine W_iter (fun i (_ : Unit) => ⟨[(1, .int .i64 k), (5, .str (colKey nx k i)), (9, .sl b1 (Rs nx)), (10, .int .i64 nx.length), (11, .int .i64 i)], [], []⟩) nx.length (fun _ _ => True) 0 () ?_ trivial (by omega) ?_ ?_
  · rfl
  · intro _ _
    simp (maxSteps := 2000000) (disch := omega) only [vm, ↓reduceIte, Nat.reduceEqDiff, decide_eq_true, decide_eq_false, if_pos, if_neg, U8s_get, Us_get, Ns_get, Rs_get, Bs_get, wrap64, wrap8, Int.cast_ofNat_Int, Int.reduceLT, Int.reduceLE, Int.reduceToNat, reduceCtorEq, Bool.not_true, Bool.not_false, gt_iff_lt, ge_iff_le, maxBytes, List.reduceReplicate, Nat.reduceAdd, Nat.reduceBEq, List.cons.injEq, and_false, false_and, and_true, true_and, and_self]
  · intro i _ hi _
    have hr := h.row i hi
    have hrl := hr.len
    have hto := hr.to k (by omega)
    have hl := colKey_length nx k i
    have hl2 := word2_length (nI (nR nx i).2 k + 1)
    simp (maxSteps := 2000000) (disch := omega) only [vm, ↓reduceIte, Nat.reduceEqDiff, decide_eq_true, decide_eq_false, if_pos, if_neg, U8s_get, Us_get, Ns_get, Rs_get, Bs_get, wrap64, wrap8, Int.cast_ofNat_Int, Int.reduceLT, Int.reduceLE, Int.reduceToNat, reduceCtorEq, Bool.not_true, Bool.not_false, gt_iff_lt, ge_iff_le, maxBytes, List.reduceReplicate, Nat.reduceAdd, Nat.reduceBEq, List.cons.injEq, and_false, false_and, and_true, true_and, and_self, hw]
    refine ⟨(), ?_⟩
    rw [colKey_succ]
    simp
structure ClInv (Kc : Nat) (key : Nat → List UInt8) (c : List Nat) (b : Nat) (c' : List Nat) (ks : List (List UInt8)) (kept : List Nat) (ofs : List Int) (dn : List Bool) (fk : Bool) : Prop where
  sp : SplitInv (fun x => key (nN c x)) 256 b (Zi c') ks
  ol : ofs.length = Kc
  dl : dn.length = Kc
  kl : kept.length = ks.length
  kat : ∀ v, v < kept.length → nN kept v < Kc ∧ nB dn (nN kept v) = true ∧ ks[v]? = some (key (nN kept v))
  knd : kept.Nodup
  dat : ∀ k, k < Kc → nB dn k = true → ∃ v : Nat, nI ofs k = v ∧ ks[v]? = some (key k)
  fk : fk = true → kept = []
theorem ClInv.short {Kc : Nat} {key : Nat → List UInt8} {c : List Nat} {b : Nat} {c' : List Nat} {ks : List (List UInt8)} {kept : List Nat} {ofs : List Int} {dn : List Bool} {fk : Bool} (h : ClInv Kc key c b c' ks kept ofs dn fk) : kept.length ≤ Kc := by
  have := sub_le (l := kept) (L := List.range Kc) h.knd (fun x hx => by
    obtain ⟨i, hi, e⟩ := mem_nN hx
    exact List.mem_range.2 (e ▸ (h.kat i hi).1))
  simpa using this
/-- A class that is done. -/
theorem ClInv.again {Kc : Nat} {key : Nat → List UInt8} {c : List Nat} {b v : Nat} {c' : List Nat} {ks : List (List UInt8)} {kept : List Nat} {ofs : List Int} {dn : List Bool} {fk : Bool} (h : ClInv Kc key c b c' ks kept ofs dn fk) (hb : b < 256)
    (hv : ks[v]? = some (key (nN c b))) : ClInv Kc key c (b + 1) (c'.set b v) ks kept ofs dn fk :=
  ⟨by rw [Zi_set]; exact h.sp.old hb hv, h.ol, h.dl, h.kl, h.kat, h.knd, h.dat, h.fk⟩
/-- A class that leads as one that is kept. -/
theorem ClInv.like {Kc : Nat} {key : Nat → List UInt8} {c : List Nat} {b v : Nat} {c' : List Nat} {ks : List (List UInt8)} {kept : List Nat} {ofs : List Int} {dn : List Bool} {fk : Bool} (h : ClInv Kc key c b c' ks kept ofs dn fk) (hb : b < 256)
    (hk : nN c b < Kc) (hv : ks[v]? = some (key (nN c b))) : ClInv Kc key c (b + 1) (c'.set b v) ks kept (ofs.set (nN c b) v) (dn.set (nN c b) true) fk := by
  have ho := h.ol
  have hd := h.dl
  refine ⟨by rw [Zi_set]; exact h.sp.old hb hv, by simpa using ho, by simpa using hd, h.kl, fun w hw => ?_, h.knd, fun k hk2 hdk => ?_, h.fk⟩
  · obtain ⟨a1, a2, a3⟩ := h.kat w hw
    refine ⟨a1, ?_, a3⟩
    rw [nB_set (by omega)]
    split
    · rfl
    · exact a2
  · rw [nB_set (by omega)] at hdk
    rw [nI_set (by omega)]
    by_cases e : nN c b = k
    · subst e; exact ⟨v, by rw [if_pos rfl], hv⟩
    · rw [if_neg e] at hdk ⊢; exact h.dat k hk2 hdk
/-- A class that is kept. -/
theorem ClInv.keep {Kc : Nat} {key : Nat → List UInt8} {c : List Nat} {b : Nat} {c' : List Nat} {ks : List (List UInt8)} {kept : List Nat} {ofs : List Int} {dn : List Bool} {fk : Bool} (h : ClInv Kc key c b c' ks kept ofs dn fk) (hb : b < 256)
    (hk : nN c b < Kc) (hnd : nB dn (nN c b) = false) (hv : key (nN c b) ∉ ks) :
    ClInv Kc key c (b + 1) (c'.set b kept.length) (ks ++ [key (nN c b)]) (kept ++ [nN c b]) (ofs.set (nN c b) kept.length) (dn.set (nN c b) true) false := by
  have ho := h.ol
  have hd := h.dl
  have hkl := h.kl
  refine ⟨by rw [Zi_set, hkl]; exact h.sp.new hb hv, by simpa using ho, by simpa using hd, by simpa using hkl, fun w hw => ?_, ?_, fun k hk2 hdk => ?_, fun e => by cases e⟩
  · simp at hw
    by_cases e : w = kept.length
    · subst e
      rw [nN_app, if_neg (by omega), Nat.sub_self, nN_one]
      refine ⟨hk, by rw [nB_set (by omega), if_pos rfl], ?_⟩
      rw [hkl]; simp
    · rw [nN_app, if_pos (by omega)]
      obtain ⟨a1, a2, a3⟩ := h.kat w (by omega)
      refine ⟨a1, ?_, by rw [List.getElem?_append_left (by omega)]; exact a3⟩
      rw [nB_set (by omega)]
      split
      · rfl
      · exact a2
  · rw [List.nodup_append]
    refine ⟨h.knd, by simp, ?_⟩
    simp
    intro a ha e
    obtain ⟨i, hi, e2⟩ := mem_nN ha
    have := (h.kat i hi).2.1
    rw [e2, e, hnd] at this
    cases this
  · rw [nB_set (by omega)] at hdk
    rw [nI_set (by omega)]
    by_cases e : nN c b = k
    · subst e; exact ⟨kept.length, by rw [if_pos rfl], by rw [hkl]; simp⟩
    · rw [if_neg e] at hdk ⊢
      obtain ⟨v, a1, a2⟩ := h.dat k hk2 hdk
      exact ⟨v, a1, by rw [List.getElem?_append_left (List.getElem?_eq_some_iff.1 a2).1]; exact a2⟩
/-- What classes makes. -/
structure ClsOf (c : List Nat) (nx : List Rw) (c' : List Nat) (kept : List Nat) (rs : List Rw) : Prop where
  num : Num 256 (fun x y => colKey nx (nN c x) nx.length = colKey nx (nN c y) nx.length) (Zi c')
  rng : ∀ x, x < 256 → nN c' x < kept.length
  all : ∀ v, v < kept.length → ∃ x, x < 256 ∧ nN c' x = v
  keptlt : ∀ v, v < kept.length → nN kept v < cnt c
  key : ∀ x, x < 256 → colKey nx (nN kept (nN c' x)) nx.length = colKey nx (nN c x) nx.length
  kl : kept.length ≤ 256
  len : rs.length = nx.length
  row : ∀ i, i < nx.length → (nR rs i).2.length = kept.length ∧ ∀ v, v < kept.length → nI (nR rs i).2 v = nI (nR nx i).2 (nN kept v)
  flag : FlagP rs
theorem nN_lt_cnt {c : List Nat} (hc : Cls c) {x : Nat} (hx : x < 256) : nN c x < cnt c := by
  have hl := hc.len
  have : ∀ k, x < k → k ≤ 256 → nN c x < cnt (c.take k) := by
    intro k
    induction k with
    | zero => intro h; omega
    | succ k ih =>
      intro h1 h2
      rw [cnt_take (by omega)]
      by_cases e : x = k
      · subst e; omega
      · have := ih (by omega) (by omega); omega
  have := this 256 hx (by omega)
  rwa [List.take_of_length_le (by omega)] at this
theorem classes {c : List Nat} {nx : List Rw} {mk : List Int} (hc : Cls c) (h : RightP c nx mk) (b1 b2 : Bool) :
    Gives code 30 [Dfa c b1 nx b2 mk] (fun r => ∃ f1 c' kept rs, r = .agg [.arr (U8s c'), .own f1 (Rs rs), .sl b2 (Ns mk)] ∧ ClsOf c nx c' kept rs) := by
  refine gives_of rfl ?_
  have h1 := h.n1
  have h2 := h.n2
  have hcl := hc.len
  have hcnt := hc.cnt_le
  obtain ⟨_, o1, hC, rfl⟩ := count hc
  have hcol : ∀ k, k < cnt c → ∃ o, cv code 46 [Dfa c b1 nx b2 mk, .int .i64 k] = some (.str (colKey nx k nx.length), o) := fun k hk => by
    obtain ⟨_, o, g, rfl⟩ := column hc h b1 b2 hk
    exact ⟨o, g⟩
  unfold Dfa at hcol ⊢
  simp (maxSteps := 2000000) (disch := omega) only [vm, ↓reduceIte, Nat.reduceEqDiff, decide_eq_true, decide_eq_false, if_pos, if_neg, U8s_get, Us_get, Ns_get, Rs_get, Bs_get, wrap64, wrap8, Int.cast_ofNat_Int, Int.reduceLT, Int.reduceLE, Int.reduceToNat, reduceCtorEq, Bool.not_true, Bool.not_false, gt_iff_lt, ge_iff_le, maxBytes, List.reduceReplicate, Nat.reduceAdd, Nat.reduceBEq, List.cons.injEq, and_false, false_and, and_true, true_and, and_self, v30, hC, zDFA, ↓buildDFA, Ns_replicate, Bs_replicate, List.length_replicate]
  refine W_iter (fun b (a : List Nat × List (List UInt8) × List Nat × List Int × List Bool × Bool) => ⟨[(1, .ptr 1 []), (2, .ptr 2 []), (3, .ptr 3 []), (4, .mref [0, 4]), (5, .ref [0, 5]), (6, .ref [0, 6]), (7, .ref [0, 7]), (29, .int .i64 b)],
      [(1, .agg [.arr (U8s c), .sl b1 (Rs nx), .sl b2 (Ns mk)]), (2, .agg [.arr (U8s z256), .ref [1, 2, 1], .ref [1, 2, 2]]), (3, .agg [.arr (U8s a.1), .ref [1, 3, 1], .sl b2 (Ns mk)])],
      [([1, 3, 1], .row ⟨true, false, []⟩), ([1, 2, 2], .row ⟨true, false, []⟩), ([1, 2, 1], .row ⟨true, false, []⟩), ([0, 7], .row ⟨false, false, Bs a.2.2.2.2.1⟩), ([0, 6], .row ⟨false, false, Ns a.2.2.2.1⟩), ([0, 5], .row ⟨a.2.2.2.2.2, false, Us a.2.2.1⟩), ([0, 4], .mp false (encM 0 a.2.1))]⟩) 256
    (fun b a => ClInv (cnt c) (fun k => colKey nx k nx.length) c b a.1 a.2.1 a.2.2.1 a.2.2.2.1 a.2.2.2.2.1 a.2.2.2.2.2) 0 (z256, [], [], List.replicate (cnt c) 0, List.replicate (cnt c) false, true) ?_
    ⟨⟨by rw [Zi_length]; exact List.length_replicate, by simp, fun j hj => by omega, fun j hj => by omega, fun v hv => by simp at hv⟩, by simp, by simp, rfl, fun v hv => by simp at hv, by simp, fun k hk hd => (by simp only at hd; rw [nB_rep hk] at hd; cases hd), fun _ => rfl⟩ (by omega) ?_ ?_
  · rfl
  · rintro ⟨c', ks, kept, ofs, dn, fk⟩ hI
    simp only at hI ⊢
    have hsh := hI.short
    have hnum := hI.sp.done
    have hrng : ∀ x, x < 256 → nN c' x < kept.length := fun x hx => by
      have := (hnum.rng x hx).2
      rw [nI_Zi] at this
      have := hI.kl
      omega
    have hpos : 0 < kept.length := by have := hrng 0 (by omega); omega
    have hkey : ∀ x, x < 256 → colKey nx (nN kept (nN c' x)) nx.length = colKey nx (nN c x) nx.length := fun x hx => by
      have a1 := (hI.kat _ (hrng x hx)).2.2
      have a2 := (hI.sp.at_ x hx).2
      rw [nI_Zi, toNat_cast, a1] at a2
      exact Option.some.inj a2
    have hall : ∀ v, v < kept.length → ∃ x, x < 256 ∧ nN c' x = v := fun v hv => by
      obtain ⟨x, a1, a2⟩ := hnum.all v (by have := hI.kl; omega)
      rw [nI_Zi] at a2
      exact ⟨x, a1, by omega⟩
    simp (maxSteps := 2000000) (disch := omega) only [vm, ↓reduceIte, Nat.reduceEqDiff, decide_eq_true, decide_eq_false, if_pos, if_neg, U8s_get, Us_get, Ns_get, Rs_get, Bs_get, wrap64, wrap8, Int.cast_ofNat_Int, Int.reduceLT, Int.reduceLE, Int.reduceToNat, reduceCtorEq, Bool.not_true, Bool.not_false, gt_iff_lt, ge_iff_le, maxBytes, List.reduceReplicate, Nat.reduceAdd, Nat.reduceBEq, List.cons.injEq, and_false, false_and, and_true, true_and, and_self]
    refine W_iter (fun i (a : List Rw × Bool) => ⟨[(2, .ptr 2 []), (3, .ptr 3 []), (5, .ref [0, 5]), (79, .sl b1 (Rs nx)), (80, .int .i64 nx.length), (81, .int .i64 i)],
        [(2, .agg [.arr (U8s z256), .ref [1, 2, 1], .ref [1, 2, 2]]), (3, .agg [.arr (U8s c'), .ref [1, 3, 1], .sl b2 (Ns mk)])],
        [([1, 3, 1], .row ⟨a.2, false, Rs a.1⟩), ([1, 2, 2], .row ⟨true, false, []⟩), ([1, 2, 1], .row ⟨true, false, []⟩), ([0, 5], .row ⟨fk, false, Us kept⟩)]⟩) nx.length
      (fun i a => a.1.length = i ∧ (∀ k, k < i → (nR a.1 k).2.length = kept.length ∧ ∀ v, v < kept.length → nI (nR a.1 k).2 v = nI (nR nx k).2 (nN kept v)) ∧ FlagP a.1) 0 ([], true) ?_ ⟨rfl, fun k hk => by omega, fun k hk => rfl⟩ (by omega) ?_ ?_
    · rfl
    · rintro ⟨rs, f⟩ ⟨g1, g2, g3⟩
      simp only at g1 g2 g3 ⊢
      simp (maxSteps := 2000000) (disch := omega) only [vm, ↓reduceIte, Nat.reduceEqDiff, decide_eq_true, decide_eq_false, if_pos, if_neg, U8s_get, Us_get, Ns_get, Rs_get, Bs_get, wrap64, wrap8, Int.cast_ofNat_Int, Int.reduceLT, Int.reduceLE, Int.reduceToNat, reduceCtorEq, Bool.not_true, Bool.not_false, gt_iff_lt, ge_iff_le, maxBytes, List.reduceReplicate, Nat.reduceAdd, Nat.reduceBEq, List.cons.injEq, and_false, false_and, and_true, true_and, and_self]
      exact ⟨f, c', kept, rs, rfl, hnum.num, hrng, hall, fun v hv => (hI.kat v hv).1, hkey, by omega, g1, g2, g3⟩
    · rintro i ⟨rs, f⟩ hi ⟨g1, g2, g3⟩
      simp only at g1 g2 g3 ⊢
      have hr := h.row i hi
      have hrl := hr.len
      simp (maxSteps := 2000000) (disch := omega) only [vm, ↓reduceIte, Nat.reduceEqDiff, decide_eq_true, decide_eq_false, if_pos, if_neg, U8s_get, Us_get, Ns_get, Rs_get, Bs_get, wrap64, wrap8, Int.cast_ofNat_Int, Int.reduceLT, Int.reduceLE, Int.reduceToNat, reduceCtorEq, Bool.not_true, Bool.not_false, gt_iff_lt, ge_iff_le, maxBytes, List.reduceReplicate, Nat.reduceAdd, Nat.reduceBEq, List.cons.injEq, and_false, false_and, and_true, true_and, and_self]
      refine W_iter (fun v (a : List Int × Bool) => ⟨[(2, .ptr 2 []), (3, .ptr 3 []), (5, .ref [0, 5]), (14, .sl (nR nx i).1 (Ns (nR nx i).2)), (15, .ref [0, 15]), (79, .sl b1 (Rs nx)), (80, .int .i64 nx.length), (81, .int .i64 i), (85, .ref [0, 5]), (86, .int .i64 kept.length), (87, .int .i64 v)],
          [(2, .agg [.arr (U8s z256), .ref [1, 2, 1], .ref [1, 2, 2]]), (3, .agg [.arr (U8s c'), .ref [1, 3, 1], .sl b2 (Ns mk)])],
          [([1, 3, 1], .row ⟨f, false, Rs rs⟩), ([1, 2, 2], .row ⟨true, false, []⟩), ([1, 2, 1], .row ⟨true, false, []⟩), ([0, 15], .row ⟨a.2, false, Ns a.1⟩), ([0, 5], .row ⟨fk, false, Us kept⟩)]⟩) kept.length
        (fun v a => a.1.length = v ∧ (∀ w, w < v → nI a.1 w = nI (nR nx i).2 (nN kept w)) ∧ (a.2 = true → a.1 = [])) 0 ([], true) ?_ ⟨rfl, fun k hk => by omega, fun _ => rfl⟩ (by omega) ?_ ?_
      · rfl
      · rintro ⟨row, fr⟩ ⟨p1, p2, p3⟩
        simp only at p1 p2 p3 ⊢
        simp (maxSteps := 2000000) (disch := omega) only [vm, ↓reduceIte, Nat.reduceEqDiff, decide_eq_true, decide_eq_false, if_pos, if_neg, U8s_get, Us_get, Ns_get, Rs_get, Bs_get, wrap64, wrap8, Int.cast_ofNat_Int, Int.reduceLT, Int.reduceLE, Int.reduceToNat, reduceCtorEq, Bool.not_true, Bool.not_false, gt_iff_lt, ge_iff_le, maxBytes, List.reduceReplicate, Nat.reduceAdd, Nat.reduceBEq, List.cons.injEq, and_false, false_and, and_true, true_and, and_self]
        refine ⟨(rs ++ [(fr, row)], false), by simp, by simp [g1], fun k hk => ?_, fun k hk => ?_⟩
        · simp only
          by_cases e : k = i
          · subst e; rw [nR_app, if_neg (by omega), g1, Nat.sub_self, nR_one]; exact ⟨p1, p2⟩
          · rw [nR_app, if_pos (by omega)]; exact g2 k (by omega)
        · simp only at hk ⊢
          rw [nR_app] at hk ⊢
          split at hk
          · rename_i e; rw [if_pos e]; exact g3 k hk
          · rename_i e
            rw [if_neg e]
            by_cases e2 : k - rs.length = 0
            · rw [e2, nR_one] at hk ⊢; exact p3 hk
            · have : nR [(fr, row)] (k - rs.length) = (false, []) := by
                obtain ⟨m, hm⟩ : ∃ m, k - rs.length = m + 1 := ⟨k - rs.length - 1, by omega⟩
                rw [hm]; rfl
              rw [this]
      · rintro v ⟨row, fr⟩ hv ⟨p1, p2, p3⟩
        simp only at p1 p2 p3 ⊢
        have hkv := (hI.kat v hv).1
        simp (maxSteps := 2000000) (disch := omega) only [vm, ↓reduceIte, Nat.reduceEqDiff, decide_eq_true, decide_eq_false, if_pos, if_neg, U8s_get, Us_get, Ns_get, Rs_get, Bs_get, wrap64, wrap8, Int.cast_ofNat_Int, Int.reduceLT, Int.reduceLE, Int.reduceToNat, reduceCtorEq, Bool.not_true, Bool.not_false, gt_iff_lt, ge_iff_le, maxBytes, List.reduceReplicate, Nat.reduceAdd, Nat.reduceBEq, List.cons.injEq, and_false, false_and, and_true, true_and, and_self]
        refine ⟨(row ++ [nI (nR nx i).2 (nN kept v)], false), by simp, by simp [p1], fun w hw => ?_, fun e => by cases e⟩
        simp only
        by_cases e : w = v
        · subst e; rw [nI_app, if_neg (by omega), p1, Nat.sub_self, nI_one]
        · rw [nI_app, if_pos (by omega)]; exact p2 w (by omega)
  · rintro b ⟨c', ks, kept, ofs, dn, fk⟩ hb hI
    simp only at hI ⊢
    have hsh := hI.short
    have hbk := nN_lt_cnt hc hb
    have hcb := hc.lt b
    have ho := hI.ol
    have hd := hI.dl
    have hkl := hI.kl
    have hc'l : c'.length = 256 := by have := hI.sp.len; rwa [Zi_length] at this
    obtain ⟨o2, hcolb⟩ := hcol _ hbk
    cases hdn : nB dn (nN c b) with
    | true =>
      obtain ⟨v, ev, hv⟩ := hI.dat _ hbk hdn
      have hvl := (List.getElem?_eq_some_iff.1 hv).1
      simp (maxSteps := 2000000) (disch := omega) only [vm, ↓reduceIte, Nat.reduceEqDiff, decide_eq_true, decide_eq_false, if_pos, if_neg, U8s_get, Us_get, Ns_get, Rs_get, Bs_get, wrap64, wrap8, Int.cast_ofNat_Int, Int.reduceLT, Int.reduceLE, Int.reduceToNat, reduceCtorEq, Bool.not_true, Bool.not_false, gt_iff_lt, ge_iff_le, maxBytes, List.reduceReplicate, Nat.reduceAdd, Nat.reduceBEq, List.cons.injEq, and_false, false_and, and_true, true_and, and_self, hdn, ev]
      exact ⟨(c'.set b v, ks, kept, ofs, dn, fk), by simp, hI.again hb hv⟩
    | false =>
      by_cases hk : colKey nx (nN c b) nx.length ∈ ks
      · obtain ⟨v, hv⟩ := List.getElem?_of_mem hk
        have hvl := (List.getElem?_eq_some_iff.1 hv).1
        have hfind := encM_find0 hI.sp.nd hv
        have hset : nI (ofs.set (nN c b) (v : Int)) (nN c b) = (v : Int) := by rw [nI_set (by omega), if_pos rfl]
        have hsl : (ofs.set (nN c b) (v : Int)).length = cnt c := by simpa using ho
        simp (maxSteps := 2000000) (disch := omega) only [vm, ↓reduceIte, Nat.reduceEqDiff, decide_eq_true, decide_eq_false, if_pos, if_neg, U8s_get, Us_get, Ns_get, Rs_get, Bs_get, wrap64, wrap8, Int.cast_ofNat_Int, Int.reduceLT, Int.reduceLE, Int.reduceToNat, reduceCtorEq, Bool.not_true, Bool.not_false, gt_iff_lt, ge_iff_le, maxBytes, List.reduceReplicate, Nat.reduceAdd, Nat.reduceBEq, List.cons.injEq, and_false, false_and, and_true, true_and, and_self, hdn, hcolb, hfind, hset]
        exact ⟨(c'.set b v, ks, kept, ofs.set (nN c b) v, dn.set (nN c b) true, fk), by simp, hI.like hb hbk hv⟩
      · have hfind := encM_none (n := 0) hk
        have hput := encM_put0 hk
        rw [← hkl] at hput
        have hset : nI (ofs.set (nN c b) (kept.length : Int)) (nN c b) = (kept.length : Int) := by rw [nI_set (by omega), if_pos rfl]
        have hsl : (ofs.set (nN c b) (kept.length : Int)).length = cnt c := by simpa using ho
        have hkeep := hI.keep hb hbk hdn hk
        have hsh2 := hkeep.short
        simp only [List.length_append, List.length_cons, List.length_nil] at hsh2
        simp (maxSteps := 2000000) (disch := omega) only [vm, ↓reduceIte, Nat.reduceEqDiff, decide_eq_true, decide_eq_false, if_pos, if_neg, U8s_get, Us_get, Ns_get, Rs_get, Bs_get, wrap64, wrap8, Int.cast_ofNat_Int, Int.reduceLT, Int.reduceLE, Int.reduceToNat, reduceCtorEq, Bool.not_true, Bool.not_false, gt_iff_lt, ge_iff_le, maxBytes, List.reduceReplicate, Nat.reduceAdd, Nat.reduceBEq, List.cons.injEq, and_false, false_and, and_true, true_and, and_self, hdn, hcolb, hfind, hput, hset]
        exact ⟨(c'.set b kept.length, ks ++ [colKey nx (nN c b) nx.length], kept ++ [nN c b], ofs.set (nN c b) kept.length, dn.set (nN c b) true, false), by simp, hkeep⟩
end Go.Vm.Ytnajiilcdcffdaa
end
section
set_option linter.unusedSimpArgs false
set_option linter.unusedVariables false
set_option maxHeartbeats 40000000
namespace Go.Vm.Ytnajiilcdcffdaa
open Go.Vm
theorem mDFA : tDFA.mild = false := rfl
def qto (l : List Int) (t : Int) : Int := if 0 ≤ t then nI l t.toNat else t
/-- A state for each block: F tells the first of each. -/
structure QuotOf (K : Nat) (nx : List Rw) (mk : List Int) (l : List Int) (F : List Nat) (rs : List Rw) (ms : List Int) : Prop where
  fl : ∀ v, v < F.length → nN F v < nx.length ∧ nI l (nN F v) = v
  all : ∀ i, i < nx.length → 0 ≤ nI l i ∧ nI l i < F.length
  rl : rs.length = F.length
  ml : ms.length = F.length
  row : ∀ v, v < F.length → (nR rs v).2.length = K ∧ ∀ k, k < K → nI (nR rs v).2 k = qto l (nI (nR nx (nN F v)).2 k)
  mark : ∀ v, v < F.length → nI ms v = nI mk (nN F v)
structure QInv (i K : Nat) (nx : List Rw) (mk : List Int) (l : List Int) (F : List Nat) (rs : List Rw) (ms : List Int) : Prop where
  fl : ∀ v, v < F.length → nN F v < i ∧ nI l (nN F v) = v
  all : ∀ j, j < i → 0 ≤ nI l j ∧ nI l j < F.length
  rl : rs.length = F.length
  ml : ms.length = F.length
  row : ∀ v, v < F.length → (nR rs v).2.length = K ∧ ∀ k, k < K → nI (nR rs v).2 k = qto l (nI (nR nx (nN F v)).2 k)
  mark : ∀ v, v < F.length → nI ms v = nI mk (nN F v)
section
variable {i K : Nat} {nx : List Rw} {mk : List Int} {l : List Int} {F : List Nat} {rs : List Rw} {ms : List Int}
theorem QInv.done (h : QInv nx.length K nx mk l F rs ms) : QuotOf K nx mk l F rs ms := ⟨h.fl, h.all, h.rl, h.ml, h.row, h.mark⟩
theorem QInv.short (h : QInv i K nx mk l F rs ms) : F.length ≤ i := by
  refine onto_le (φ := fun j => (nI l j).toNat) fun v hv => ?_
  obtain ⟨a1, a2⟩ := h.fl v hv
  exact ⟨nN F v, a1, by simp only [a2]; rfl⟩
theorem QInv.le (h : QInv i K nx mk l F rs ms) {E : Nat → Nat → Prop} (hl : Num nx.length E l) (hi : i < nx.length) : nI l i ≤ F.length := by
  apply Classical.byContradiction
  intro hn
  obtain ⟨j, h1, h2⟩ := hl.first i hi F.length (by omega)
  have := (h.all j h1).2
  omega
theorem QInv.old (h : QInv i K nx mk l F rs ms) {E : Nat → Nat → Prop} (hl : Num nx.length E l) (hi : i < nx.length) (hlt : nI l i < F.length) : QInv (i + 1) K nx mk l F rs ms :=
  ⟨fun v hv => ⟨by have := (h.fl v hv).1; omega, (h.fl v hv).2⟩, fun j hj => by
    by_cases e : j = i
    · subst e; exact ⟨hl.rng j hi, hlt⟩
    · exact h.all j (by omega), h.rl, h.ml, h.row, h.mark⟩
theorem QInv.new (h : QInv i K nx mk l F rs ms) (he : nI l i = F.length) {row : List Int} {fr : Bool} (g1 : row.length = K) (g2 : ∀ j, j < K → nI row j = qto l (nI (nR nx i).2 j)) : QInv (i + 1) K nx mk l (F ++ [i]) (rs ++ [(fr, row)]) (ms ++ [nI mk i]) := by
  have q1 := h.rl
  have q2 := h.ml
  refine ⟨fun v hv => ?_, fun j hj => ?_, by simp [q1], by simp [q2], fun v hv => ?_, fun v hv => ?_⟩
  · simp at hv
    by_cases e : v = F.length
    · subst e; rw [nN_app, if_neg (by omega), Nat.sub_self, nN_one]; exact ⟨by omega, he⟩
    · rw [nN_app, if_pos (by omega)]; have := h.fl v (by omega); exact ⟨by omega, this.2⟩
  · simp only [List.length_append, List.length_cons, List.length_nil]
    by_cases e : j = i
    · subst e; omega
    · have := h.all j (by omega); omega
  · simp at hv
    by_cases e : v = F.length
    · subst e
      rw [nN_app, if_neg (by omega), Nat.sub_self, nN_one, nR_app, if_neg (by omega), q1, Nat.sub_self, nR_one]
      exact ⟨g1, g2⟩
    · rw [nN_app, if_pos (by omega), nR_app, if_pos (by omega)]; exact h.row v (by omega)
  · simp at hv
    by_cases e : v = F.length
    · subst e
      rw [nN_app, if_neg (by omega), Nat.sub_self, nN_one, nI_app, if_neg (by omega), q2, Nat.sub_self, nI_one]
    · rw [nN_app, if_pos (by omega), nI_app, if_pos (by omega)]; exact h.mark v (by omega)
end
/-- What Of makes, step by step. -/
structure OfSteps (c : List Nat) (nx : List Rw) (mk : List Int) (c' : List Nat) (rs : List Rw) (ms : List Int) : Prop where
  ex : ∃ al nx0 L1 nx1 mk1 l F nx2 mk2 kept nx3 L2,
    (nx0.length = nx.length ∧ (∀ i, i < nx.length → (nB al i = true ↔ AliveP nx mk i)) ∧ ∀ i, i < nx.length → (nR nx0 i).2.length = (nR nx i).2.length ∧ ∀ k, k < (nR nx i).2.length → nI (nR nx0 i).2 k = trimTo al (nI (nR nx i).2 k)) ∧
    (OrdOf nx0.length (cnt c) (fun s k => nI (nR nx0 s).2 k) L1 nx1 ∧ mk1.length = L1.length ∧ ∀ i, i < L1.length → nI mk1 i = nI mk (nN L1 i)) ∧
    Num nx1.length (fun i j => ∀ t, EqD c nx1 mk1 t i j) l ∧
    QuotOf (cnt c) nx1 mk1 l F nx2 mk2 ∧
    ClsOf c nx2 c' kept nx3 ∧
    (OrdOf nx3.length (cnt c') (fun s k => nI (nR nx3 s).2 k) L2 rs ∧ ms.length = L2.length ∧ ∀ i, i < L2.length → nI ms i = nI mk2 (nN L2 i)) ∧
    Cls c' ∧ cnt c' = kept.length ∧ RightP c nx0 mk ∧ RightP c nx1 mk1 ∧ RightP c nx2 mk2 ∧ RightP c' nx3 mk2
theorem trim_right {c : List Nat} {nx : List Rw} {mk : List Int} (h : RightP c nx mk) {al : List Bool} {rs : List Rw} (g1 : rs.length = nx.length)
    (g2 : ∀ i, i < nx.length → (nR rs i).2.length = (nR nx i).2.length ∧ ∀ k, k < (nR nx i).2.length → nI (nR rs i).2 k = trimTo al (nI (nR nx i).2 k)) : RightP c rs mk := by
  refine ⟨by rw [g1]; exact h.n1, by rw [g1]; exact h.n2, by rw [g1]; exact h.mkl, h.gap, fun i hi => ?_⟩
  rw [g1] at hi
  have hr := h.row i hi
  obtain ⟨a1, a2⟩ := g2 i hi
  refine ⟨by rw [a1]; exact hr.len, hr.mark, fun k hk => ?_⟩
  rw [a1] at hk
  rw [a2 k hk, g1]
  have := hr.to k hk
  unfold trimTo
  split <;> omega
theorem ord_right {c : List Nat} {nx rs : List Rw} {mk ms : List Int} (h : RightP c nx mk) {L : List Nat} (g : OrdOf nx.length (cnt c) (fun s k => nI (nR nx s).2 k) L rs) (g1 : ms.length = L.length) (g2 : ∀ i, i < L.length → nI ms i = nI mk (nN L i)) : RightP c rs ms := by
  have hl : L.length ≤ nx.length := by
    have := sub_le (l := L) (L := List.range nx.length) g.nd (fun x hx => by
      obtain ⟨i, hi, e⟩ := mem_nN hx
      exact List.mem_range.2 (e ▸ g.lt i hi))
    simpa using this
  have hlen := g.len
  refine ⟨g.ord.pos, by have := h.n2; omega, by omega, h.gap, fun i hi => ⟨g.ord.rl i hi, ?_, fun k hk => ?_⟩⟩
  · rw [g2 i (by omega)]
    exact (h.row _ (g.lt i (by omega))).mark
  · rw [g.ord.rl i hi] at hk
    exact g.ord.rng i k hi hk
theorem quot_right {c : List Nat} {nx : List Rw} {mk l : List Int} (h : RightP c nx mk) {F : List Nat} {rs : List Rw} {ms : List Int} (g : QuotOf (cnt c) nx mk l F rs ms) (hF : F.length ≤ nx.length) : RightP c rs ms := by
  have h1 := h.n1
  have hpos : 0 < F.length := by have := g.all 0 h1; omega
  refine ⟨by rw [g.rl]; exact hpos, by rw [g.rl]; have := h.n2; omega, by rw [g.ml, g.rl], h.gap, fun v hv => ?_⟩
  rw [g.rl] at hv
  obtain ⟨a1, a2⟩ := g.row v hv
  have hfl := (g.fl v hv).1
  refine ⟨a1, by rw [g.mark v hv]; exact (h.row _ hfl).mark, fun k hk => ?_⟩
  rw [a1] at hk
  rw [a2 k hk, g.rl]
  have hr := h.row _ hfl
  have := hr.to k (by rw [hr.len]; exact hk)
  unfold qto
  split
  · have := g.all (nI (nR nx (nN F v)).2 k).toNat (by omega)
    omega
  · omega
theorem cnt_eq {c : List Nat} (hl : c.length = 256) {m : Nat} (h1 : ∀ x, x < 256 → nN c x < m) (h2 : ∀ v, v < m → ∃ x, x < 256 ∧ nN c x = v) (hm : 0 < m) : cnt c = m := by
  have le : ∀ k, k ≤ 256 → cnt (c.take k) ≤ m := by
    intro k
    induction k with
    | zero => intro _; simp [cnt]
    | succ k ih =>
      intro hk
      rw [cnt_take (by omega)]
      have := ih (by omega)
      have := h1 k (by omega)
      omega
  have a1 := le 256 (Nat.le_refl _)
  rw [List.take_of_length_le (by omega)] at a1
  obtain ⟨x, hx, e⟩ := h2 (m - 1) (by omega)
  have ge : ∀ k, x < k → k ≤ 256 → nN c x < cnt (c.take k) := by
    intro k
    induction k with
    | zero => intro h; omega
    | succ k ih =>
      intro h1 h2
      rw [cnt_take (by omega)]
      by_cases e : x = k
      · subst e; omega
      · have := ih (by omega) (by omega); omega
  have a2 := ge 256 hx (Nat.le_refl _)
  rw [List.take_of_length_le (by omega)] at a2
  omega
theorem cls_right {c : List Nat} {nx : List Rw} {mk : List Int} (h : RightP c nx mk) {c' kept : List Nat} {rs : List Rw} (g : ClsOf c nx c' kept rs) : Cls c' ∧ cnt c' = kept.length ∧ RightP c' rs mk := by
  have hl : c'.length = 256 := by have := g.num.len; rwa [Zi_length] at this
  have hpos : 0 < kept.length := by have := g.rng 0 (by omega); omega
  have hcnt := cnt_eq hl g.rng g.all hpos
  have hgap : ∀ k, k < cnt c' → k ∈ c' := fun k hk => by
    obtain ⟨x, hx, e⟩ := g.all k (by omega)
    rw [← e]; exact nN_mem (by omega)
  refine ⟨⟨hl, fun i => ?_⟩, hcnt, by rw [g.len]; exact h.n1, by rw [g.len]; exact h.n2, by rw [g.len]; exact h.mkl, hgap, fun i hi => ?_⟩
  · by_cases hi : i < 256
    · have := g.rng i hi; have := g.kl; omega
    · have : nN c' i = 0 := by unfold nN; rw [List.getD_eq_getElem?_getD, List.getElem?_eq_none (by omega)]; rfl
      omega
  · rw [g.len] at hi
    obtain ⟨a1, a2⟩ := g.row i hi
    have hr := h.row i hi
    refine ⟨by rw [a1, hcnt], hr.mark, fun k hk => ?_⟩
    rw [a1] at hk
    rw [a2 k hk, g.len]
    exact hr.to _ (by rw [hr.len]; exact g.keptlt k hk)
theorem of_no {c : List Nat} {nx : List Rw} {mk : List Int} (hc : Cls c) (h : ¬ RightP c nx mk) (b1 b2 : Bool) : Gives code 10 [Dfa c b1 nx b2 mk] (fun r => ∃ x, r = .agg [x, .int .i64 1]) := by
  refine gives_of rfl ?_
  obtain ⟨_, o, hR, rb, rfl, hrb⟩ := right hc b1 b2 nx mk
  have : rb = false := by cases rb with | false => rfl | true => exact absurd (hrb.1 rfl) h
  subst this
  unfold Dfa at hR ⊢
  simp (maxSteps := 2000000) (disch := omega) only [vm, ↓reduceIte, Nat.reduceEqDiff, decide_eq_true, decide_eq_false, if_pos, if_neg, U8s_get, Us_get, Ns_get, Rs_get, Bs_get, wrap64, wrap8, Int.cast_ofNat_Int, Int.reduceLT, Int.reduceLE, Int.reduceToNat, reduceCtorEq, Bool.not_true, Bool.not_false, gt_iff_lt, ge_iff_le, maxBytes, List.reduceReplicate, Nat.reduceAdd, Nat.reduceBEq, List.cons.injEq, and_false, false_and, and_true, true_and, and_self, v10, hR, zDFA, ↓buildDFA]
  exact ⟨_, rfl⟩
theorem of_yes {c : List Nat} {nx : List Rw} {mk : List Int} (hc : Cls c) (h : RightP c nx mk) (hf : FlagP nx) {b2 : Bool} (hb2 : b2 = true → mk = []) (b1 : Bool) :
    Gives code 10 [Dfa c b1 nx b2 mk] (fun r => ∃ f1 c' rs ms, r = .agg [.agg [.arr (U8s c'), .own f1 (Rs rs), .own false (Ns ms)], .int .i64 0] ∧ OfSteps c nx mk c' rs ms ∧ (∀ i, i < rs.length → (nR rs i).1 = false)) := by
  refine gives_of rfl ?_
  obtain ⟨_, o, hR, rb, rfl, hrb⟩ := right hc b1 b2 nx mk
  have : rb = true := hrb.2 h
  subst this
  obtain ⟨_, o1, hT, f0, nx0, al, rfl, t1, t2, t3⟩ := trim hc h hf hb2 b1
  have hr0 := trim_right h t1 fun i hi => (t3 i hi).2
  obtain ⟨_, o2, hO, f1, f2, nx1, mk1, L1, rfl, p1, p2, p3, p4, rfl⟩ := order hc hr0 f0 b2
  have hr1 := ord_right hr0 p1 p2 p3
  obtain ⟨_, o3, hB, l, rfl, hl⟩ := blocks_yes hc hr1 f1 false
  have n1 := hr1.n1
  have n2 := hr1.n2
  have n3 := hr1.mkl
  have hcnt := hc.cnt_le
  unfold Dfa at hR hT hO hB ⊢
  have hll := hl.len
  simp (maxSteps := 2000000) (disch := omega) only [vm, ↓reduceIte, Nat.reduceEqDiff, decide_eq_true, decide_eq_false, if_pos, if_neg, U8s_get, Us_get, Ns_get, Rs_get, Bs_get, wrap64, wrap8, Int.cast_ofNat_Int, Int.reduceLT, Int.reduceLE, Int.reduceToNat, reduceCtorEq, Bool.not_true, Bool.not_false, gt_iff_lt, ge_iff_le, maxBytes, List.reduceReplicate, Nat.reduceAdd, Nat.reduceBEq, List.cons.injEq, and_false, false_and, and_true, true_and, and_self, v10, hR, hT, hO, hB, zDFA, mDFA, ↓buildDFA]
  refine W_iter (fun i (a : List Nat × List Rw × List Int × Bool × Bool) => ⟨[(1, .ptr 1 []), (2, .ptr 2 []), (4, .ref [0, 4]), (5, .ptr 5 []), (24, .int .i64 nx1.length), (25, .int .i64 i)],
      [(1, .agg [.arr (U8s c), .ref [1, 1, 1], .ref [1, 1, 2]]), (2, .agg [.arr (U8s z256), .ref [1, 2, 1], .ref [1, 2, 2]]), (5, .agg [.arr (U8s c), .ref [1, 5, 1], .ref [1, 5, 2]])],
      [([1, 5, 2], .row ⟨a.2.2.2.2, false, Ns a.2.2.1⟩), ([1, 5, 1], .row ⟨a.2.2.2.1, false, Rs a.2.1⟩), ([1, 2, 2], .row ⟨true, false, []⟩), ([1, 2, 1], .row ⟨true, false, []⟩), ([1, 1, 2], .row ⟨false, false, Ns mk1⟩), ([1, 1, 1], .row ⟨f1, false, Rs nx1⟩), ([0, 4], .row ⟨false, false, Ns l⟩)]⟩) nx1.length
    (fun i a => QInv i (cnt c) nx1 mk1 l a.1 a.2.1 a.2.2.1) 0 ([], [], [], true, true) ?_ ⟨fun v hv => by simp at hv, fun j hj => by omega, rfl, rfl, fun v hv => by simp at hv, fun v hv => by simp at hv⟩ (by omega) ?_ ?_
  · rfl
  · rintro ⟨F, nx2, mk2, e1, e2⟩ hI
    simp only at hI ⊢
    have hq := hI.done
    have hFl := hI.short
    have hr2 := quot_right hr1 hq hFl
    obtain ⟨_, o4, hCl, f3, c', kept, nx3, rfl, hcl⟩ := classes hc hr2 e1 e2
    obtain ⟨hc', hk', hr3⟩ := cls_right hr2 hcl
    obtain ⟨_, o5, hO2, f4, f5, rs, ms, L2, rfl, s1, s2, s3, s4, rfl⟩ := order hc' hr3 f3 e2
    unfold Dfa at hCl hO2
    simp (maxSteps := 2000000) (disch := omega) only [vm, ↓reduceIte, Nat.reduceEqDiff, decide_eq_true, decide_eq_false, if_pos, if_neg, U8s_get, Us_get, Ns_get, Rs_get, Bs_get, wrap64, wrap8, Int.cast_ofNat_Int, Int.reduceLT, Int.reduceLE, Int.reduceToNat, reduceCtorEq, Bool.not_true, Bool.not_false, gt_iff_lt, ge_iff_le, maxBytes, List.reduceReplicate, Nat.reduceAdd, Nat.reduceBEq, List.cons.injEq, and_false, false_and, and_true, true_and, and_self, hCl, hO2, mDFA]
    exact ⟨f4, c', rs, ms, rfl, ⟨al, nx0, L1, nx1, mk1, l, F, nx2, mk2, kept, nx3, L2, ⟨t1, t2, fun i hi => (t3 i hi).2⟩, ⟨p1, p2, p3⟩, hl, hq, hcl, ⟨s1, s2, s3⟩, hc', hk', hr0, hr1, hr2, hr3⟩, s4⟩
  · rintro i ⟨F, nx2, mk2, e1, e2⟩ hi hI
    simp only at hI ⊢
    have hFl := hI.short
    have hle := hI.le hl hi
    have hrow := hr1.row i hi
    have hrl := hrow.len
    have q1 := hI.rl
    have q2 := hI.ml
    by_cases he : nI l i = F.length
    · simp (maxSteps := 2000000) (disch := omega) only [vm, ↓reduceIte, Nat.reduceEqDiff, decide_eq_true, decide_eq_false, if_pos, if_neg, U8s_get, Us_get, Ns_get, Rs_get, Bs_get, wrap64, wrap8, Int.cast_ofNat_Int, Int.reduceLT, Int.reduceLE, Int.reduceToNat, reduceCtorEq, Bool.not_true, Bool.not_false, gt_iff_lt, ge_iff_le, maxBytes, List.reduceReplicate, Nat.reduceAdd, Nat.reduceBEq, List.cons.injEq, and_false, false_and, and_true, true_and, and_self, he, q1]
      refine W_iter (fun k (a : List Int × Bool) => ⟨[(1, .ptr 1 []), (2, .ptr 2 []), (4, .ref [0, 4]), (5, .ptr 5 []), (6, .int .i64 i), (7, .ref [0, 7]), (24, .int .i64 nx1.length), (25, .int .i64 i), (40, .sl (nR nx1 i).1 (Ns (nR nx1 i).2)), (41, .int .i64 (cnt c)), (42, .int .i64 k)],
          [(1, .agg [.arr (U8s c), .ref [1, 1, 1], .ref [1, 1, 2]]), (2, .agg [.arr (U8s z256), .ref [1, 2, 1], .ref [1, 2, 2]]), (5, .agg [.arr (U8s c), .ref [1, 5, 1], .ref [1, 5, 2]])],
          [([1, 5, 2], .row ⟨e2, false, Ns mk2⟩), ([1, 5, 1], .row ⟨e1, false, Rs nx2⟩), ([1, 2, 2], .row ⟨true, false, []⟩), ([1, 2, 1], .row ⟨true, false, []⟩), ([1, 1, 2], .row ⟨false, false, Ns mk1⟩), ([1, 1, 1], .row ⟨f1, false, Rs nx1⟩), ([0, 7], .row ⟨a.2, false, Ns a.1⟩), ([0, 4], .row ⟨false, false, Ns l⟩)]⟩) (cnt c)
        (fun k a => a.1.length = k ∧ ∀ j, j < k → nI a.1 j = qto l (nI (nR nx1 i).2 j)) 0 ([], true) ?_ ⟨rfl, fun k hk => by omega⟩ (by omega) ?_ ?_
      · simp (maxSteps := 2000000) (disch := omega) only [vm, ↓reduceIte, Nat.reduceEqDiff, decide_eq_true, decide_eq_false, if_pos, if_neg, U8s_get, Us_get, Ns_get, Rs_get, Bs_get, wrap64, wrap8, Int.cast_ofNat_Int, Int.reduceLT, Int.reduceLE, Int.reduceToNat, reduceCtorEq, Bool.not_true, Bool.not_false, gt_iff_lt, ge_iff_le, maxBytes, List.reduceReplicate, Nat.reduceAdd, Nat.reduceBEq, List.cons.injEq, and_false, false_and, and_true, true_and, and_self, hrl]
        rfl
      · rintro ⟨row, fr⟩ ⟨g1, g2⟩
        simp only at g1 g2 ⊢
        simp (maxSteps := 2000000) (disch := omega) only [vm, ↓reduceIte, Nat.reduceEqDiff, decide_eq_true, decide_eq_false, if_pos, if_neg, U8s_get, Us_get, Ns_get, Rs_get, Bs_get, wrap64, wrap8, Int.cast_ofNat_Int, Int.reduceLT, Int.reduceLE, Int.reduceToNat, reduceCtorEq, Bool.not_true, Bool.not_false, gt_iff_lt, ge_iff_le, maxBytes, List.reduceReplicate, Nat.reduceAdd, Nat.reduceBEq, List.cons.injEq, and_false, false_and, and_true, true_and, and_self, q1, q2]
        exact ⟨(F ++ [i], nx2 ++ [(fr, row)], mk2 ++ [nI mk1 i], false, false), by simp, hI.new he g1 g2⟩
      · rintro k ⟨row, fr⟩ hk ⟨g1, g2⟩
        simp only at g1 g2 ⊢
        have hto := hrow.to k (by omega)
        have fin : ∀ x, x = qto l (nI (nR nx1 i).2 k) → (row ++ [x]).length = k + 1 ∧ ∀ j, j < k + 1 → nI (row ++ [x]) j = qto l (nI (nR nx1 i).2 j) := by
          intro x hx
          refine ⟨by simp [g1], fun j hj => ?_⟩
          by_cases e : j = k
          · subst e; rw [nI_app, if_neg (by omega), g1, Nat.sub_self, nI_one, hx]
          · rw [nI_app, if_pos (by omega)]; exact g2 j (by omega)
        by_cases hneg : nI (nR nx1 i).2 k < 0
        · simp (maxSteps := 2000000) (disch := omega) only [vm, ↓reduceIte, Nat.reduceEqDiff, decide_eq_true, decide_eq_false, if_pos, if_neg, U8s_get, Us_get, Ns_get, Rs_get, Bs_get, wrap64, wrap8, Int.cast_ofNat_Int, Int.reduceLT, Int.reduceLE, Int.reduceToNat, reduceCtorEq, Bool.not_true, Bool.not_false, gt_iff_lt, ge_iff_le, maxBytes, List.reduceReplicate, Nat.reduceAdd, Nat.reduceBEq, List.cons.injEq, and_false, false_and, and_true, true_and, and_self]
          exact ⟨(row ++ [nI (nR nx1 i).2 k], false), by simp, fin _ (by unfold qto; rw [if_neg (by omega)])⟩
        · obtain ⟨s, es⟩ : ∃ s : Nat, nI (nR nx1 i).2 k = s := ⟨(nI (nR nx1 i).2 k).toNat, by omega⟩
          have hs : s < nx1.length := by omega
          simp (maxSteps := 2000000) (disch := omega) only [vm, ↓reduceIte, Nat.reduceEqDiff, decide_eq_true, decide_eq_false, if_pos, if_neg, U8s_get, Us_get, Ns_get, Rs_get, Bs_get, wrap64, wrap8, Int.cast_ofNat_Int, Int.reduceLT, Int.reduceLE, Int.reduceToNat, reduceCtorEq, Bool.not_true, Bool.not_false, gt_iff_lt, ge_iff_le, maxBytes, List.reduceReplicate, Nat.reduceAdd, Nat.reduceBEq, List.cons.injEq, and_false, false_and, and_true, true_and, and_self, es]
          exact ⟨(row ++ [nI l s], false), by simp, fin _ (by unfold qto; rw [es, if_pos (by omega), toNat_cast])⟩
    · simp (maxSteps := 2000000) (disch := omega) only [vm, ↓reduceIte, Nat.reduceEqDiff, decide_eq_true, decide_eq_false, if_pos, if_neg, U8s_get, Us_get, Ns_get, Rs_get, Bs_get, wrap64, wrap8, Int.cast_ofNat_Int, Int.reduceLT, Int.reduceLE, Int.reduceToNat, reduceCtorEq, Bool.not_true, Bool.not_false, gt_iff_lt, ge_iff_le, maxBytes, List.reduceReplicate, Nat.reduceAdd, Nat.reduceBEq, List.cons.injEq, and_false, false_and, and_true, true_and, and_self, q1]
      exact ⟨(F, nx2, mk2, e1, e2), by simp, hI.old hl hi (by omega)⟩
end Go.Vm.Ytnajiilcdcffdaa
end
section
set_option linter.unusedSimpArgs false
set_option linter.unusedVariables false
namespace Go.Vm.Ytnajiilcdcffdaa
open Go.Vm
def stp (c : List Nat) (nx : List Rw) (q : Int) (b : Nat) : Int := if 0 ≤ q then nI (nR nx q.toNat).2 (nN c b) else -1
def run (c : List Nat) (nx : List Rw) : Int → List Nat → Int
  | q, [] => q
  | q, b :: s => run c nx (stp c nx q b) s
def mkD (mk : List Int) (q : Int) : Int := if 0 ≤ q then nI mk q.toNat else -1
def Lg (c : List Nat) (nx : List Rw) (mk : List Int) (q : Int) (s : List Nat) : Int := mkD mk (run c nx q s)
theorem Lg_nil (c : List Nat) (nx : List Rw) (mk : List Int) (q : Int) : Lg c nx mk q [] = mkD mk q := rfl
theorem Lg_cons (c : List Nat) (nx : List Rw) (mk : List Int) (q : Int) (b : Nat) (s : List Nat) : Lg c nx mk q (b :: s) = Lg c nx mk (stp c nx q b) s := rfl
theorem mkD_nat (mk : List Int) (i : Nat) : mkD mk (i : Int) = nI mk i := by unfold mkD; rw [if_pos (by omega), toNat_cast]
theorem Lg_neg (c : List Nat) (nx : List Rw) (mk : List Int) : ∀ s, Lg c nx mk (-1) s = -1
  | [] => rfl
  | b :: s => by
    rw [Lg_cons]
    have : stp c nx (-1) b = -1 := by unfold stp; rw [if_neg (by omega)]
    rw [this]
    exact Lg_neg c nx mk s
def By (s : List Nat) : Prop := ∀ b ∈ s, b < 256
theorem By.cons {b : Nat} {s : List Nat} (h : By (b :: s)) : b < 256 ∧ By s := ⟨h b (List.mem_cons_self ..), fun x hx => h x (List.mem_cons_of_mem _ hx)⟩
theorem By.mk {b : Nat} {s : List Nat} (h : b < 256) (hs : By s) : By (b :: s) := fun x hx => by
  rcases List.mem_cons.1 hx with rfl | hx
  · exact h
  · exact hs x hx
theorem By.nil : By [] := fun x hx => by cases hx
theorem By.app {s t : List Nat} (hs : By s) (ht : By t) : By (s ++ t) := fun x hx => by
  rcases List.mem_append.1 hx with hx | hx
  · exact hs x hx
  · exact ht x hx
theorem run_app (c : List Nat) (nx : List Rw) : ∀ (s t : List Nat) (q : Int), run c nx q (s ++ t) = run c nx (run c nx q s) t
  | [], t, q => rfl
  | b :: s, t, q => run_app c nx s t _
theorem run_neg (c : List Nat) (nx : List Rw) : ∀ (s : List Nat), run c nx (-1) s = -1
  | [] => rfl
  | b :: s => by simp only [run, stp]; rw [if_neg (by omega)]; exact run_neg c nx s
/-- Two machines go on alike. -/
theorem sim {c c2 : List Nat} {nx nx2 : List Rw} {mk mk2 : List Int} {S : Int → Int → Prop} (hm : ∀ p q, S p q → mkD mk p = mkD mk2 q) (hs : ∀ p q b, S p q → b < 256 → S (stp c nx p b) (stp c2 nx2 q b)) :
    ∀ {s : List Nat} {p q : Int}, By s → S p q → S (run c nx p s) (run c2 nx2 q s) ∧ Lg c nx mk p s = Lg c2 nx2 mk2 q s
  | [], p, q, _, h => ⟨h, hm p q h⟩
  | b :: s, p, q, hb, h => by
    have := sim (s := s) hm hs hb.cons.2 (hs p q b h hb.cons.1)
    exact this
def InR (n : Nat) (q : Int) : Prop := -1 ≤ q ∧ q < n
theorem stp_in {c : List Nat} {nx : List Rw} {mk : List Int} (hc : Cls c) (h : RightP c nx mk) {q : Int} (hq : InR nx.length q) {b : Nat} (hb : b < 256) : InR nx.length (stp c nx q b) := by
  unfold stp
  split
  · have hr := h.row q.toNat (by have := hq.2; omega)
    exact hr.to _ (by rw [hr.len]; exact nN_lt_cnt hc hb)
  · exact ⟨by omega, by omega⟩
theorem class_byte {c : List Nat} {nx : List Rw} {mk : List Int} (hc : Cls c) (h : RightP c nx mk) {k : Nat} (hk : k < cnt c) : ∃ b, b < 256 ∧ nN c b = k := by
  obtain ⟨b, hb, e⟩ := mem_nN (h.gap k hk)
  exact ⟨b, by rw [hc.len] at hb; exact hb, e⟩
def Alv (c : List Nat) (nx : List Rw) (mk : List Int) (q : Int) : Prop := ∃ s, By s ∧ 0 ≤ Lg c nx mk q s
theorem alv_of {c : List Nat} {nx : List Rw} {mk : List Int} (hc : Cls c) (h : RightP c nx mk) {i : Nat} (ha : AliveP nx mk i) : i < nx.length → Alv c nx mk i := by
  induction ha with
  | @here i h0 => intro hi; exact ⟨[], By.nil, by rw [Lg_nil, mkD_nat]; exact h0⟩
  | @step i k j hk hj ha ih =>
    intro hi
    have hr := h.row i hi
    obtain ⟨s, hs, hv⟩ := ih (by have := hr.to k hk; omega)
    obtain ⟨b, hb, e⟩ := class_byte hc h (k := k) (by rw [← hr.len]; exact hk)
    refine ⟨b :: s, By.mk hb hs, ?_⟩
    have : stp c nx i b = j := by unfold stp; rw [if_pos (by omega), toNat_cast, e, hj]
    rw [Lg_cons, this]
    exact hv
theorem of_alv {c : List Nat} {nx : List Rw} {mk : List Int} (hc : Cls c) (h : RightP c nx mk) : ∀ {s : List Nat} {i : Nat}, By s → i < nx.length → 0 ≤ Lg c nx mk i s → AliveP nx mk i
  | [], i, _, hi, hv => by
    rw [Lg_nil, mkD_nat] at hv
    exact .here hv
  | b :: s, i, hb, hi, hv => by
    have hr := h.row i hi
    have hbk := nN_lt_cnt hc hb.cons.1
    have hst : stp c nx i b = nI (nR nx i).2 (nN c b) := by unfold stp; rw [if_pos (by omega), toNat_cast]
    have hv' : 0 ≤ Lg c nx mk (stp c nx i b) s := hv
    by_cases hn : 0 ≤ stp c nx i b
    · have hin := stp_in hc h (q := i) ⟨by omega, by omega⟩ hb.cons.1
      obtain ⟨j, ej⟩ : ∃ j : Nat, stp c nx i b = j := ⟨(stp c nx i b).toNat, by omega⟩
      rw [ej] at hv' hin
      exact .step (k := nN c b) (by rw [hr.len]; exact hbk) (by rw [← hst]; exact ej) (of_alv hc h hb.cons.2 (by have := hin.2; omega) hv')
    · exfalso
      have hin := stp_in hc h (q := i) ⟨by omega, by omega⟩ hb.cons.1
      have e : stp c nx i b = -1 := by have := hin.1; omega
      rw [e, Lg_neg] at hv'
      omega
/-- What is not told apart has the same marks. -/
def stOf (n : Nat) (i : Nat) : Int := if i < n then i else -1
theorem stOf_tgt {c : List Nat} {nx : List Rw} {mk : List Int} (hc : Cls c) (h : RightP c nx mk) {i b : Nat} (hi : i ≤ nx.length) (hb : b < 256) : stOf nx.length (tgt nx i (nN c b)) = stp c nx (stOf nx.length i) b := by
  by_cases h1 : i < nx.length
  · have hr := h.row i h1
    have hto := hr.to (nN c b) (by rw [hr.len]; exact nN_lt_cnt hc hb)
    have e1 : stp c nx (stOf nx.length i) b = nI (nR nx i).2 (nN c b) := by
      unfold stOf stp
      rw [if_pos h1, if_pos (by omega), toNat_cast]
    rw [e1]
    by_cases h2 : 0 ≤ nI (nR nx i).2 (nN c b)
    · have e2 : tgt nx i (nN c b) = (nI (nR nx i).2 (nN c b)).toNat := by unfold tgt; rw [if_pos ⟨h1, h2⟩]
      rw [e2]; unfold stOf; rw [if_pos (by omega)]; omega
    · have e2 : tgt nx i (nN c b) = nx.length := by unfold tgt; rw [if_neg (by omega)]
      rw [e2]; unfold stOf; rw [if_neg (by omega)]; omega
  · have e2 : tgt nx i (nN c b) = nx.length := by unfold tgt; rw [if_neg (by omega)]
    have e3 : stOf nx.length i = -1 := by unfold stOf; rw [if_neg h1]
    have e4 : stOf nx.length nx.length = -1 := by unfold stOf; rw [if_neg (by omega)]
    rw [e2, e3, e4]; unfold stp; rw [if_neg (by omega)]
theorem mkOf_eq {n : Nat} {mk : List Int} (i : Nat) : mkOf n mk i = mkD mk (stOf n i) := by
  unfold mkOf mkD stOf
  by_cases h : i < n
  · rw [if_pos h, if_pos h, if_pos (by omega), toNat_cast]
  · rw [if_neg h, if_neg h, if_neg (by omega)]
theorem eqd_lg {c : List Nat} {nx : List Rw} {mk : List Int} (hc : Cls c) (h : RightP c nx mk) : ∀ {s : List Nat} {i j : Nat}, By s → i ≤ nx.length → j ≤ nx.length → (∀ t, EqD c nx mk t i j) → Lg c nx mk (stOf nx.length i) s = Lg c nx mk (stOf nx.length j) s
  | [], i, j, _, _, _, he => by
    have := he 0
    simp only [EqD, Eqv, mkOf_eq] at this
    exact this
  | b :: s, i, j, hb, hi, hj, he => by
    have hk := nN_lt_cnt hc hb.cons.1
    have := eqd_lg hc h (s := s) hb.cons.2 (tgt_le h hk) (tgt_le h hk) (fun t => (he (t + 1)).2 (nN c b) hk)
    rw [stOf_tgt hc h hi hb.cons.1, stOf_tgt hc h hj hb.cons.1] at this
    exact this
theorem lg_eqd {c : List Nat} {nx : List Rw} {mk : List Int} (hc : Cls c) (h : RightP c nx mk) : ∀ {t i j : Nat}, i ≤ nx.length → j ≤ nx.length → (∀ s, By s → Lg c nx mk (stOf nx.length i) s = Lg c nx mk (stOf nx.length j) s) → EqD c nx mk t i j
  | 0, i, j, _, _, he => by
    have := he [] By.nil
    simp only [EqD, Eqv, mkOf_eq]
    exact this
  | t + 1, i, j, hi, hj, he => by
    refine ⟨lg_eqd hc h hi hj he, fun k hk => ?_⟩
    obtain ⟨b, hb, e⟩ := class_byte hc h hk
    subst e
    refine lg_eqd hc h (tgt_le h hk) (tgt_le h hk) fun s hs => ?_
    rw [stOf_tgt hc h hi hb, stOf_tgt hc h hj hb]
    exact he (b :: s) (By.mk hb hs)

/-! ### The steps -/
section
variable {c : List Nat} {nx : List Rw} {mk : List Int}
def STrim (nx : List Rw) (mk : List Int) (p q : Int) : Prop := InR nx.length p ∧ (p = q ∨ (q = -1 ∧ (p = -1 ∨ ¬ AliveP nx mk p.toNat)))
theorem trim_sim (hc : Cls c) (h : RightP c nx mk) {al : List Bool} {rs : List Rw} (g0 : ∀ i, i < nx.length → (nB al i = true ↔ AliveP nx mk i))
    (g2 : ∀ i, i < nx.length → (nR rs i).2.length = (nR nx i).2.length ∧ ∀ k, k < (nR nx i).2.length → nI (nR rs i).2 k = trimTo al (nI (nR nx i).2 k)) :
    (∀ p q, STrim nx mk p q → mkD mk p = mkD mk q) ∧ (∀ p q b, STrim nx mk p q → b < 256 → STrim nx mk (stp c nx p b) (stp c rs q b)) ∧ ∀ p q b, STrim nx mk p q → b < 256 → 0 ≤ stp c rs q b → AliveP nx mk (stp c rs q b).toNat := by
  have tr : ∀ i b, i < nx.length → b < 256 → nI (nR rs i).2 (nN c b) = trimTo al (nI (nR nx i).2 (nN c b)) := fun i b hi hb => by
    have hr := h.row i hi
    exact (g2 i hi).2 _ (by rw [hr.len]; exact nN_lt_cnt hc hb)
  refine ⟨fun p q hS => ?_, fun p q b hS hb => ⟨stp_in hc h hS.1 hb, ?_⟩, fun p q b hS hb h0 => ?_⟩
  · obtain ⟨hin, rfl | ⟨rfl, hd⟩⟩ := hS
    · rfl
    · unfold mkD
      rw [if_neg (show ¬ (0 : Int) ≤ -1 by omega)]
      split
      · rename_i h0
        rcases hd with hd | hd
        · omega
        · have hi : p.toNat < nx.length := by have := hin.2; omega
          have hm := (h.row _ hi).mark
          by_cases hge : 0 ≤ nI mk p.toNat
          · exact absurd (.here hge) hd
          · omega
      · rfl
  · obtain ⟨hin, rfl | ⟨rfl, hd⟩⟩ := hS
    · unfold stp
      by_cases h0 : 0 ≤ p
      · rw [if_pos h0, if_pos h0]
        have hi : p.toNat < nx.length := by have := hin.2; omega
        have hto := (h.row _ hi).to (nN c b) (by rw [(h.row _ hi).len]; exact nN_lt_cnt hc hb)
        rw [tr _ _ hi hb]
        unfold trimTo
        split
        · rename_i hcd
          refine .inr ⟨rfl, .inr fun ha => ?_⟩
          have := (g0 (nI (nR nx p.toNat).2 (nN c b)).toNat (by omega)).2 ha
          rw [hcd.2] at this
          cases this
        · exact .inl rfl
      · rw [if_neg h0, if_neg h0]; exact .inl rfl
    · have e : stp c rs (-1) b = -1 := by unfold stp; rw [if_neg (by omega)]
      rw [e]
      refine .inr ⟨rfl, ?_⟩
      rcases hd with rfl | hd
      · exact .inl (by unfold stp; rw [if_neg (by omega)])
      · by_cases h0 : 0 ≤ p
        · have hi : p.toNat < nx.length := by have := hin.2; omega
          have hst := stp_in hc h hin hb
          by_cases hn : stp c nx p b = -1
          · exact .inl hn
          · refine .inr fun ha => hd (.step (k := nN c b) (j := (stp c nx p b).toNat) (by rw [(h.row _ hi).len]; exact nN_lt_cnt hc hb) ?_ ha)
            have := hst.1
            have e : stp c nx p b = nI (nR nx p.toNat).2 (nN c b) := by unfold stp; rw [if_pos h0]
            rw [← e]; omega
        · exact .inl (by unfold stp; rw [if_neg h0])
  · obtain ⟨hin, rfl | ⟨rfl, hd⟩⟩ := hS
    · unfold stp at h0 ⊢
      by_cases h1 : 0 ≤ p
      · rw [if_pos h1] at h0 ⊢
        have hi : p.toNat < nx.length := by have := hin.2; omega
        have hto := (h.row _ hi).to (nN c b) (by rw [(h.row _ hi).len]; exact nN_lt_cnt hc hb)
        rw [tr _ _ hi hb] at h0 ⊢
        unfold trimTo at h0 ⊢
        split at h0
        · omega
        · rename_i hcd
          rw [if_neg hcd]
          refine (g0 _ (by omega)).1 ?_
          cases hb2 : nB al (nI (nR nx p.toNat).2 (nN c b)).toNat with
          | true => rfl
          | false => exact absurd ⟨h0, hb2⟩ hcd
      · rw [if_neg h1] at h0; omega
    · unfold stp at h0; rw [if_neg (by omega)] at h0; omega
def SOrd (L : List Nat) (p q : Int) : Prop := (p = -1 ∧ q = -1) ∨ (0 ≤ q ∧ q < L.length ∧ p = nN L q.toNat)
theorem ord_sim (hc : Cls c) (h : RightP c nx mk) {L : List Nat} {rs : List Rw} {ms : List Int} (g : OrdOf nx.length (cnt c) (fun s k => nI (nR nx s).2 k) L rs) (g2 : ∀ i, i < L.length → nI ms i = nI mk (nN L i)) :
    (∀ p q, SOrd L p q → mkD mk p = mkD ms q) ∧ ∀ p q b, SOrd L p q → b < 256 → SOrd L (stp c nx p b) (stp c rs q b) := by
  refine ⟨fun p q hS => ?_, fun p q b hS hb => ?_⟩
  · rcases hS with ⟨rfl, rfl⟩ | ⟨h0, h1, rfl⟩
    · rfl
    · unfold mkD
      rw [if_pos (by omega), if_pos h0, toNat_cast, g2 _ (by omega)]
  · rcases hS with ⟨rfl, rfl⟩ | ⟨h0, h1, rfl⟩
    · unfold stp; rw [if_neg (by omega), if_neg (by omega)]; exact .inl ⟨rfl, rfl⟩
    · have hk := nN_lt_cnt hc hb
      have hi := g.lt q.toNat (by omega)
      have hto := (h.row _ hi).to (nN c b) (by rw [(h.row _ hi).len]; exact hk)
      unfold stp
      rw [if_pos (by omega), if_pos h0, toNat_cast]
      rcases g.to q.toNat (nN c b) (by omega) hk with a | a
      · refine .inl ⟨by omega, by omega⟩
      · have hlt := (List.getElem?_eq_some_iff.1 a.2.2).1
        refine .inr ⟨a.2.1, by omega, ?_⟩
        rw [nN_get? a.2.2]
        omega
def SQuo (n : Nat) (l : List Int) (p q : Int) : Prop := (p = -1 ∧ q = -1) ∨ (0 ≤ p ∧ p < n ∧ q = nI l p.toNat)
theorem stOf_lt {n i : Nat} (h : i < n) : stOf n i = i := by unfold stOf; rw [if_pos h]
theorem quo_sim (hc : Cls c) (h : RightP c nx mk) {l : List Int} (hl : Num nx.length (fun i j => ∀ t, EqD c nx mk t i j) l) {F : List Nat} {rs : List Rw} {ms : List Int} (g : QuotOf (cnt c) nx mk l F rs ms)
    (hta : ∀ i b, i < nx.length → b < 256 → 0 ≤ stp c nx i b → Alv c nx mk (stp c nx i b)) :
    (∀ p q, SQuo nx.length l p q → mkD mk p = mkD ms q) ∧ ∀ p q b, SQuo nx.length l p q → b < 256 → SQuo nx.length l (stp c nx p b) (stp c rs q b) := by
  have rep : ∀ p : Nat, p < nx.length → (nI l p).toNat < F.length ∧ nN F (nI l p).toNat < nx.length ∧ ∀ s, By s → Lg c nx mk (nN F (nI l p).toNat : Nat) s = Lg c nx mk p s := by
    intro p hp
    obtain ⟨a1, a2⟩ := g.all p hp
    have a3 : (nI l p).toNat < F.length := by omega
    obtain ⟨b1, b2⟩ := g.fl _ a3
    refine ⟨a3, b1, fun s hs => ?_⟩
    have := eqd_lg hc h hs (Nat.le_of_lt b1) (Nat.le_of_lt hp) ((hl.same _ _ b1 hp).1 (by rw [b2]; omega))
    rwa [stOf_lt b1, stOf_lt hp] at this
  refine ⟨fun p q hS => ?_, fun p q b hS hb => ?_⟩
  · rcases hS with ⟨rfl, rfl⟩ | ⟨h0, h1, rfl⟩
    · rfl
    · obtain ⟨p, rfl⟩ : ∃ n : Nat, p = n := ⟨p.toNat, by omega⟩
      rw [toNat_cast]
      obtain ⟨a1, a2, a3⟩ := rep p (by omega)
      have := a3 [] By.nil
      rw [Lg_nil, Lg_nil, mkD_nat, mkD_nat] at this
      rw [mkD_nat]
      unfold mkD
      rw [if_pos (g.all p (by omega)).1, g.mark _ a1, this]
  · rcases hS with ⟨rfl, rfl⟩ | ⟨h0, h1, rfl⟩
    · unfold stp; rw [if_neg (by omega), if_neg (by omega)]; exact .inl ⟨rfl, rfl⟩
    · obtain ⟨p, rfl⟩ : ∃ n : Nat, p = n := ⟨p.toNat, by omega⟩
      rw [toNat_cast]
      obtain ⟨a1, a2, a3⟩ := rep p (by omega)
      have hk := nN_lt_cnt hc hb
      have e1 : stp c nx p b = nI (nR nx p).2 (nN c b) := by unfold stp; rw [if_pos (by omega), toNat_cast]
      have e2 : stp c nx (nN F (nI l p).toNat : Nat) b = nI (nR nx (nN F (nI l p).toNat)).2 (nN c b) := by unfold stp; rw [if_pos (by omega), toNat_cast]
      have e3 : stp c rs (nI l p) b = qto l (stp c nx (nN F (nI l p).toNat : Nat) b) := by
        rw [e2]; unfold stp; rw [if_pos (g.all p (by omega)).1, (g.row _ a1).2 _ hk]
      have i1 := stp_in hc h (q := p) ⟨by omega, by omega⟩ hb
      have i2 := stp_in hc h (q := (nN F (nI l p).toNat : Nat)) ⟨by omega, by omega⟩ hb
      have same : ∀ s, By s → Lg c nx mk (stp c nx (nN F (nI l p).toNat : Nat) b) s = Lg c nx mk (stp c nx p b) s := fun s hs => a3 (b :: s) (By.mk hb hs)
      have dead : ∀ s, Lg c nx mk (-1) s = -1 := fun s => Lg_neg c nx mk s
      rw [e3]
      by_cases n1 : stp c nx p b = -1
      · by_cases n2 : stp c nx (nN F (nI l p).toNat : Nat) b = -1
        · rw [n1, n2]; exact .inl ⟨rfl, by unfold qto; rw [if_neg (by omega)]⟩
        · exfalso
          obtain ⟨s, hs, hv⟩ := hta _ b a2 hb (by have := i2.1; omega)
          rw [same s hs, n1, dead] at hv
          omega
      · by_cases n2 : stp c nx (nN F (nI l p).toNat : Nat) b = -1
        · exfalso
          obtain ⟨s, hs, hv⟩ := hta p b (by omega) hb (by have := i1.1; omega)
          rw [← same s hs, n2, dead] at hv
          omega
        · refine .inr ⟨by have := i1.1; omega, i1.2, ?_⟩
          unfold qto
          rw [if_pos (by have := i2.1; omega)]
          have u1 : (stp c nx (nN F (nI l p).toNat : Nat) b).toNat < nx.length := by have := i2.1; have := i2.2; omega
          have u2 : (stp c nx p b).toNat < nx.length := by have := i1.1; have := i1.2; omega
          refine (hl.same _ _ u1 u2).2 fun t => lg_eqd hc h (Nat.le_of_lt u1) (Nat.le_of_lt u2) fun s hs => ?_
          rw [stOf_lt u1, stOf_lt u2]
          have v1 : ((stp c nx (nN F (nI l p).toNat : Nat) b).toNat : Int) = stp c nx (nN F (nI l p).toNat : Nat) b := by have := i2.1; omega
          have v2 : ((stp c nx p b).toNat : Int) = stp c nx p b := by have := i1.1; omega
          rw [v1, v2]
          exact same s hs
theorem colKey_eq (h : RightP c nx mk) {k j : Nat} (hk : k < cnt c) (hj : j < cnt c) : ∀ {n : Nat}, n ≤ nx.length → (colKey nx k n = colKey nx j n ↔ ∀ i, i < n → nI (nR nx i).2 k = nI (nR nx i).2 j)
  | 0, _ => by simp [colKey]
  | n + 1, hn => by
    have ih := colKey_eq h hk hj (n := n) (by omega)
    have hr := h.row n (by omega)
    have hn2 := h.n2
    have t1 := hr.to k (by rw [hr.len]; exact hk)
    have t2 := hr.to j (by rw [hr.len]; exact hj)
    rw [colKey_succ, colKey_succ]
    constructor
    · intro e i hi
      obtain ⟨e1, e2⟩ := List.append_inj e (by rw [colKey_length, colKey_length])
      by_cases ei : i = n
      · subst ei
        have := word2_inj (by omega) (by omega) e2
        omega
      · exact ih.1 e1 i (by omega)
    · intro e
      rw [ih.2 fun i hi => e i (by omega), e n (by omega)]
theorem cls_stp (hc : Cls c) (h : RightP c nx mk) {c' kept : List Nat} {rs : List Rw} (g : ClsOf c nx c' kept rs) {q : Int} (hq : InR nx.length q) {b : Nat} (hb : b < 256) : stp c' rs q b = stp c nx q b := by
  unfold stp
  split
  · have hi : q.toNat < nx.length := by have := hq.2; omega
    rw [(g.row _ hi).2 _ (g.rng b hb)]
    exact (colKey_eq h (g.keptlt _ (g.rng b hb)) (nN_lt_cnt hc hb) (Nat.le_refl _)).1 (g.key b hb) _ hi
  · rfl
end
end Go.Vm.Ytnajiilcdcffdaa
end
section
set_option linter.unusedSimpArgs false
set_option linter.unusedVariables false
namespace Go.Vm.Ytnajiilcdcffdaa
open Go.Vm
structure Canon (G : List Nat → Int) (c : List Nat) (rs : List Rw) (ms : List Int) : Prop where
  cls : Cls c
  right : RightP c rs ms
  lang : ∀ s, By s → Lg c rs ms 0 s = G s
  ord : Ordered (cnt c) rs
  num : Num 256 (fun x y => ∀ u w, By u → By w → G (u ++ x :: w) = G (u ++ y :: w)) (Zi c)
  dist : ∀ i j : Nat, i < rs.length → j < rs.length → (∀ s, By s → Lg c rs ms i s = Lg c rs ms j s) → i = j
  alive : ∀ (i : Nat) b, i < rs.length → b < 256 → 0 ≤ stp c rs i b → Alv c rs ms (stp c rs i b)
theorem run_inr {c : List Nat} {nx : List Rw} {mk : List Int} (hc : Cls c) (h : RightP c nx mk) : ∀ {s : List Nat} {q : Int}, By s → InR nx.length q → InR nx.length (run c nx q s)
  | [], q, _, hq => hq
  | b :: s, q, hb, hq => by
    have := run_inr hc h (s := s) hb.cons.2 (stp_in hc h hq hb.cons.1)
    exact this
theorem run_cons (c : List Nat) (nx : List Rw) (q : Int) (b : Nat) (s : List Nat) : run c nx q (b :: s) = run c nx (stp c nx q b) s := rfl
theorem Lg_app (c : List Nat) (nx : List Rw) (mk : List Int) (q : Int) (s t : List Nat) : Lg c nx mk q (s ++ t) = Lg c nx mk (run c nx q s) t := by
  unfold Lg; rw [run_app]
theorem nN_inj {L : List Nat} (h : L.Nodup) {i j : Nat} (hi : i < L.length) (hj : j < L.length) (e : nN L i = nN L j) : i = j :=
  getElem?_inj h (nN_some hi) (by rw [nN_some hj, e])
/-- In an order each state is reached. -/
theorem reach_all {c : List Nat} {nx : List Rw} {mk : List Int} (hc : Cls c) (h : RightP c nx mk) (ho : Ordered (cnt c) nx) : ∀ i, i < nx.length → ∃ u, By u ∧ run c nx 0 u = i := by
  intro i
  induction i using Nat.strongRecOn with
  | ind i ih =>
    intro hi
    by_cases h0 : i = 0
    · subst h0; exact ⟨[], By.nil, rfl⟩
    · obtain ⟨j, k, h1, h2, h3⟩ := ho.reach i (by omega) hi
      obtain ⟨u, hu, e⟩ := ih j h1 (by omega)
      obtain ⟨b, hb, eb⟩ := class_byte hc h h2
      refine ⟨u ++ [b], hu.app (By.mk hb By.nil), ?_⟩
      rw [run_app, e, run_cons]
      show stp c nx j b = i
      unfold stp
      rw [if_pos (by omega), toNat_cast, eb, h3]
theorem of_canon {c : List Nat} {nx : List Rw} {mk : List Int} (hc : Cls c) (h : RightP c nx mk) {c' : List Nat} {rs : List Rw} {ms : List Int} (g : OfSteps c nx mk c' rs ms) : Canon (fun s => Lg c nx mk 0 s) c' rs ms := by
  obtain ⟨al, nx0, L1, nx1, mk1, l, F, nx2, mk2, kept, nx3, L2, ⟨t1, t2, t3⟩, ⟨p1, p2, p3⟩, hl, hq, hcl, ⟨s1, s2, s3⟩, hc', hk', hr0, hr1, hr2, hr3⟩ := g.ex
  have hrF := ord_right hr3 s1 s2 s3
  obtain ⟨a1, a2, a3⟩ := trim_sim hc h t2 t3
  obtain ⟨b1, b2⟩ := ord_sim hc hr0 p1 p3
  have h1 := h.n1
  have n1 := hr1.n1
  have hnF : nx2.length = F.length := hq.rl
  -- targets in nx1 are alive
  have hta : ∀ (i : Nat) b, i < nx1.length → b < 256 → 0 ≤ stp c nx1 i b → Alv c nx1 mk1 (stp c nx1 i b) := by
    intro i b hi hb h0
    have hL := p1.len
    have hS2 : SOrd L1 (nN L1 i : Nat) i := .inr ⟨by omega, by omega, by rw [toNat_cast]⟩
    have hx := b2 _ _ b hS2 hb
    have hlt := p1.lt i (by omega)
    have hpos : 0 ≤ stp c nx0 (nN L1 i : Nat) b := by
      rcases hx with hx | hx
      · omega
      · omega
    have hS1 : STrim nx mk (nN L1 i : Nat) (nN L1 i : Nat) := ⟨⟨by omega, by omega⟩, .inl rfl⟩
    have hal := a3 _ _ b hS1 hb hpos
    have hin := stp_in hc hr0 (q := (nN L1 i : Nat)) ⟨by omega, by omega⟩ hb
    obtain ⟨s, hs, hv⟩ := alv_of hc h hal (by have := hin.1; have := hin.2; omega)
    have e : ((stp c nx0 (nN L1 i : Nat) b).toNat : Int) = stp c nx0 (nN L1 i : Nat) b := by omega
    rw [e] at hv
    have hS1' : STrim nx mk (stp c nx0 (nN L1 i : Nat) b) (stp c nx0 (nN L1 i : Nat) b) := ⟨⟨hin.1, by have := hin.2; omega⟩, .inl rfl⟩
    rw [(sim a1 a2 hs hS1').2, (sim b1 b2 hs hx).2] at hv
    exact ⟨s, hs, hv⟩
  obtain ⟨d1, d2⟩ := quo_sim hc hr1 hl hq hta
  -- nx2 against nx1
  have rep : ∀ v, v < nx2.length → nN F v < nx1.length ∧ SQuo nx1.length l (nN F v : Nat) v := fun v hv => by
    obtain ⟨e1, e2⟩ := hq.fl v (by omega)
    exact ⟨e1, .inr ⟨by omega, by omega, by rw [toNat_cast, e2]⟩⟩
  have dist2 : ∀ v w : Nat, v < nx2.length → w < nx2.length → (∀ s, By s → Lg c nx2 mk2 v s = Lg c nx2 mk2 w s) → v = w := by
    intro v w hv hw he
    obtain ⟨r1, r2⟩ := rep v hv
    obtain ⟨q1, q2⟩ := rep w hw
    have := (hl.same _ _ r1 q1).2 fun t => lg_eqd hc hr1 (Nat.le_of_lt r1) (Nat.le_of_lt q1) fun s hs => by
      rw [stOf_lt r1, stOf_lt q1, (sim d1 d2 hs r2).2, (sim d1 d2 hs q2).2]
      exact he s hs
    rw [(hq.fl v (by omega)).2, (hq.fl w (by omega)).2] at this
    omega
  have alive2 : ∀ (v : Nat) b, v < nx2.length → b < 256 → 0 ≤ stp c nx2 v b → Alv c nx2 mk2 (stp c nx2 v b) := by
    intro v b hv hb h0
    obtain ⟨r1, r2⟩ := rep v hv
    have hx := d2 _ _ b r2 hb
    have hpos : 0 ≤ stp c nx1 (nN F v : Nat) b := by rcases hx with hx | hx <;> omega
    obtain ⟨s, hs, hv⟩ := hta _ b r1 hb hpos
    rw [(sim d1 d2 hs hx).2] at hv
    exact ⟨s, hs, hv⟩
  have l0 : nI l 0 = 0 := by
    apply Classical.byContradiction
    intro hne
    have := hl.rng 0 (by omega)
    obtain ⟨j, h1, _⟩ := hl.first 0 (by omega) 0 (by omega)
    omega
  have st0 : SQuo nx1.length l 0 0 := .inr ⟨by omega, by omega, by rw [show (0 : Int).toNat = 0 from rfl, l0]⟩
  have reach2 : ∀ v, v < nx2.length → ∃ u, By u ∧ run c nx2 0 u = v := by
    intro v hv
    obtain ⟨r1, r2⟩ := rep v hv
    obtain ⟨u, hu, e⟩ := reach_all hc hr1 p1.ord _ r1
    refine ⟨u, hu, ?_⟩
    have hx := (sim d1 d2 hu st0).1
    rw [e] at hx
    rcases hx with hx | hx
    · omega
    · rw [hx.2.2, toNat_cast, (hq.fl v (by omega)).2]
  have lang2 : ∀ s, By s → Lg c nx2 mk2 0 s = Lg c nx mk 0 s := by
    intro s hs
    have x1 : STrim nx mk 0 0 := ⟨⟨by omega, by omega⟩, .inl rfl⟩
    have x2 : SOrd L1 0 0 := .inr ⟨by omega, by have := p1.len; omega, by rw [show (0 : Int).toNat = 0 from rfl, p1.zero]; rfl⟩
    rw [(sim a1 a2 hs x1).2, (sim b1 b2 hs x2).2, (sim d1 d2 hs st0).2]
  -- nx3 is nx2 under other classes
  have lang3 : ∀ {s : List Nat} {q : Int}, By s → InR nx2.length q → Lg c' nx3 mk2 q s = Lg c nx2 mk2 q s := by
    intro s
    induction s with
    | nil => intro q _ _; rfl
    | cons b s ih =>
      intro q hb hqr
      rw [Lg_cons, Lg_cons, cls_stp hc hr2 hcl hqr hb.cons.1]
      exact ih hb.cons.2 (stp_in hc hr2 hqr hb.cons.1)
  obtain ⟨f1, f2⟩ := ord_sim hc' hr3 s1 s3
  have hL2 := s1.len
  have hn3 := hcl.len
  have fin : ∀ i, i < rs.length → nN L2 i < nx2.length ∧ SOrd L2 (nN L2 i : Nat) i ∧ ∀ s, By s → Lg c' rs ms i s = Lg c nx2 mk2 (nN L2 i : Nat) s := by
    intro i hi
    have e1 := s1.lt i (by omega)
    have hS : SOrd L2 (nN L2 i : Nat) i := .inr ⟨by omega, by omega, by rw [toNat_cast]⟩
    refine ⟨by omega, hS, fun s hs => ?_⟩
    rw [← (sim f1 f2 hs hS).2, lang3 hs ⟨by omega, by omega⟩]
  refine ⟨hc', hrF, fun s hs => ?_, s1.ord, ?_, fun i j hi hj he => ?_, fun i b hi hb h0 => ?_⟩
  · have hpos := s1.ord.pos
    obtain ⟨_, _, e⟩ := fin 0 hpos
    have := e s hs
    rw [s1.zero] at this
    rw [← lang2 s hs]
    exact this
  · refine hcl.num.congr fun x y hx hy => ?_
    have kx := nN_lt_cnt hc hx
    have ky := nN_lt_cnt hc hy
    rw [colKey_eq hr2 kx ky (Nat.le_refl _)]
    have n2 := hr2.n1
    constructor
    · intro he u w hu hw
      have hst : ∀ q, InR nx2.length q → stp c nx2 q x = stp c nx2 q y := fun q hq' => by
        unfold stp
        split
        · exact he _ (by have := hq'.2; omega)
        · rfl
      have hrn := run_inr hc hr2 hu (q := 0) ⟨by omega, by omega⟩
      show Lg c nx mk 0 (u ++ x :: w) = Lg c nx mk 0 (u ++ y :: w)
      rw [← lang2 _ (hu.app (By.mk hx hw)), ← lang2 _ (hu.app (By.mk hy hw)), Lg_app, Lg_app, Lg_cons, Lg_cons, hst _ hrn]
    · intro he i hi
      obtain ⟨u, hu, eu⟩ := reach2 i hi
      have hw : ∀ w, By w → Lg c nx2 mk2 (stp c nx2 i x) w = Lg c nx2 mk2 (stp c nx2 i y) w := by
        intro w hw
        have : Lg c nx mk 0 (u ++ x :: w) = Lg c nx mk 0 (u ++ y :: w) := he u w hu hw
        rw [← lang2 _ (hu.app (By.mk hx hw)), ← lang2 _ (hu.app (By.mk hy hw)), Lg_app, Lg_app, Lg_cons, Lg_cons, eu] at this
        exact this
      have ex : stp c nx2 i x = nI (nR nx2 i).2 (nN c x) := by unfold stp; rw [if_pos (by omega), toNat_cast]
      have ey : stp c nx2 i y = nI (nR nx2 i).2 (nN c y) := by unfold stp; rw [if_pos (by omega), toNat_cast]
      have ix := stp_in hc hr2 (q := i) ⟨by omega, by omega⟩ hx
      have iy := stp_in hc hr2 (q := i) ⟨by omega, by omega⟩ hy
      rw [← ex, ← ey]
      by_cases zx : stp c nx2 i x = -1
      · by_cases zy : stp c nx2 i y = -1
        · rw [zx, zy]
        · exfalso
          obtain ⟨s, hs, hv⟩ := alive2 i y hi hy (by have := iy.1; omega)
          rw [← hw s hs, zx, Lg_neg] at hv
          omega
      · by_cases zy : stp c nx2 i y = -1
        · exfalso
          obtain ⟨s, hs, hv⟩ := alive2 i x hi hx (by have := ix.1; omega)
          rw [hw s hs, zy, Lg_neg] at hv
          omega
        · obtain ⟨m, em⟩ : ∃ m : Nat, stp c nx2 i x = m := ⟨(stp c nx2 i x).toNat, by have := ix.1; omega⟩
          obtain ⟨m', em'⟩ : ∃ m : Nat, stp c nx2 i y = m := ⟨(stp c nx2 i y).toNat, by have := iy.1; omega⟩
          rw [em, em'] at hw ⊢
          have u1 := ix.2
          have u2 := iy.2
          rw [em] at u1
          rw [em'] at u2
          rw [dist2 m m' (by omega) (by omega) hw]
  · obtain ⟨u1, _, u3⟩ := fin i hi
    obtain ⟨v1, _, v3⟩ := fin j hj
    have := dist2 _ _ u1 v1 fun s hs => by rw [← u3 s hs, ← v3 s hs]; exact he s hs
    exact nN_inj s1.nd (by omega) (by omega) this
  · obtain ⟨u1, u2, u3⟩ := fin i hi
    have hx := f2 _ _ b u2 hb
    have hst := cls_stp hc hr2 hcl (q := (nN L2 i : Nat)) ⟨by omega, by omega⟩ hb
    rw [hst] at hx
    have hpos : 0 ≤ stp c nx2 (nN L2 i : Nat) b := by rcases hx with hx | hx <;> omega
    obtain ⟨s, hs, hv⟩ := alive2 _ b u1 hb hpos
    have hin := stp_in hc hr2 (q := (nN L2 i : Nat)) ⟨by omega, by omega⟩ hb
    rw [← lang3 hs hin, (sim f1 f2 hs hx).2] at hv
    exact ⟨s, hs, hv⟩
theorem Zi_inj : ∀ {l m : List Nat}, Zi l = Zi m → l = m
  | [], [], _ => rfl
  | a :: l, b :: m, h => by
    simp only [Zi, List.map_cons, List.cons.injEq] at h
    rw [Zi_inj (l := l) (m := m) h.2]
    have := h.1
    congr 1
    omega
  | [], _ :: _, h => by simp [Zi] at h
  | _ :: _, [], h => by simp [Zi] at h
/-- There is one alone. -/
theorem Canon.unique {lang : List Nat → Int} {c1 c2 : List Nat} {rs1 rs2 : List Rw} {ms1 ms2 : List Int} (hA : Canon lang c1 rs1 ms1) (hB : Canon lang c2 rs2 ms2) :
    c1 = c2 ∧ rs1.length = rs2.length ∧ (∀ i, i < rs1.length → (nR rs1 i).2 = (nR rs2 i).2) ∧ ms1 = ms2 := by
  have hcc : c1 = c2 := Zi_inj (hA.num.unique hB.num)
  subst hcc
  have hc := hA.cls
  have key : ∀ u, By u → ∀ s, By s → Lg c1 rs1 ms1 (run c1 rs1 0 u) s = Lg c1 rs2 ms2 (run c1 rs2 0 u) s := by
    intro u hu s hs
    rw [← Lg_app, ← Lg_app, hA.lang _ (hu.app hs), hB.lang _ (hu.app hs)]
  have pA := hA.ord.pos
  have pB := hB.ord.pos
  have res := Ordered.unique hA.ord hB.ord (R := fun i j => i < rs1.length ∧ j < rs2.length ∧ ∃ u, By u ∧ run c1 rs1 0 u = i ∧ run c1 rs2 0 u = j)
    ⟨pA, pB, [], By.nil, rfl, rfl⟩ (fun i j h => ⟨h.1, h.2.1⟩)
    (fun i j j' h h' => by
      obtain ⟨_, hj, u, hu, e1, e2⟩ := h
      obtain ⟨_, hj', u', hu', e1', e2'⟩ := h'
      refine hB.dist j j' hj hj' fun s hs => ?_
      rw [← e2, ← e2', ← key u hu s hs, ← key u' hu' s hs, e1, e1'])
    (fun i i' j h h' => by
      obtain ⟨hi, _, u, hu, e1, e2⟩ := h
      obtain ⟨hi', _, u', hu', e1', e2'⟩ := h'
      refine hA.dist i i' hi hi' fun s hs => ?_
      rw [← e1, ← e1', key u hu s hs, key u' hu' s hs, e2, e2'])
    (fun i j k h hk => by
      obtain ⟨hi, hj, u, hu, e1, e2⟩ := h
      obtain ⟨b, hb, eb⟩ := class_byte hc hA.right hk
      have ex : stp c1 rs1 i b = nI (nR rs1 i).2 k := by unfold stp; rw [if_pos (by omega), toNat_cast, eb]
      have ey : stp c1 rs2 j b = nI (nR rs2 j).2 k := by unfold stp; rw [if_pos (by omega), toNat_cast, eb]
      have ix := stp_in hc hA.right (q := i) ⟨by omega, by omega⟩ hb
      have iy := stp_in hc hB.right (q := j) ⟨by omega, by omega⟩ hb
      have hub := hu.app (By.mk hb By.nil)
      have r1 : run c1 rs1 0 (u ++ [b]) = stp c1 rs1 i b := by rw [run_app, e1]; rfl
      have r2 : run c1 rs2 0 (u ++ [b]) = stp c1 rs2 j b := by rw [run_app, e2]; rfl
      have hk2 := key _ hub
      rw [r1, r2] at hk2
      rw [← ex, ← ey]
      by_cases zx : stp c1 rs1 i b = -1
      · by_cases zy : stp c1 rs2 j b = -1
        · exact .inl ⟨zx, zy⟩
        · exfalso
          obtain ⟨s, hs, hv⟩ := hB.alive j b hj hb (by have := iy.1; omega)
          rw [← hk2 s hs, zx, Lg_neg] at hv
          omega
      · by_cases zy : stp c1 rs2 j b = -1
        · exfalso
          obtain ⟨s, hs, hv⟩ := hA.alive i b hi hb (by have := ix.1; omega)
          rw [hk2 s hs, zy, Lg_neg] at hv
          omega
        · have := ix.1
          have := ix.2
          have := iy.1
          have := iy.2
          exact .inr ⟨by omega, by omega, by omega, by omega, u ++ [b], hub, by rw [r1]; omega, by rw [r2]; omega⟩)
  obtain ⟨e1, e2⟩ := res
  have rowEq : ∀ i, i < rs1.length → (nR rs1 i).2 = (nR rs2 i).2 := fun i hi =>
    nI_ext (by rw [hA.ord.rl i hi, hB.ord.rl i (by omega)]) fun k hk => e2 i k hi (by rw [hA.ord.rl i hi] at hk; exact hk)
  have stEq : ∀ q b, InR rs1.length q → b < 256 → stp c1 rs1 q b = stp c1 rs2 q b := fun q b hq hb => by
    unfold stp
    split
    · rw [rowEq _ (by have := hq.2; omega)]
    · rfl
  have runEq : ∀ {u : List Nat} {q : Int}, By u → InR rs1.length q → run c1 rs1 q u = run c1 rs2 q u := by
    intro u
    induction u with
    | nil => intro q _ _; rfl
    | cons b u ih =>
      intro q hb hq
      rw [run_cons, run_cons, ← stEq q b hq hb.cons.1]
      exact ih hb.cons.2 (stp_in hc hA.right hq hb.cons.1)
  refine ⟨rfl, e1, rowEq, nI_ext (by rw [hA.right.mkl, hB.right.mkl, e1]) fun i hi => ?_⟩
  rw [hA.right.mkl] at hi
  obtain ⟨u, hu, eu⟩ := reach_all hc hA.right hA.ord i hi
  have := key u hu [] By.nil
  rw [← runEq hu ⟨by omega, by omega⟩, eu, Lg_nil, Lg_nil, mkD_nat, mkD_nat] at this
  exact this
end Go.Vm.Ytnajiilcdcffdaa
end
section
set_option linter.unusedSimpArgs false
set_option linter.unusedVariables false
set_option maxHeartbeats 40000000
namespace Go.Vm.Ytnajiilcdcffdaa
open Go.Vm
theorem U8s_eqs : ∀ c : List Nat, pvEqs (U8s c) (U8s c) = some true
  | [] => rfl
  | a :: c => by
    have := U8s_eqs c
    simp only [U8s, List.map_cons, pvEqs, pvEq, if_true, decide_true] at this ⊢
    exact this
theorem same_yes {c : List Nat} {b1 b2 b3 b4 : Bool} {nx1 nx2 : List Rw} {mk : List Int} (hl : nx1.length = nx2.length) (hr : ∀ i, i < nx1.length → (nR nx1 i).2 = (nR nx2 i).2)
    (h1 : nx1.length ≤ 1000000) (h2 : mk.length ≤ 1000000) (h3 : ∀ i, i < nx1.length → (nR nx1 i).2.length ≤ 1000000) : Gives code 14 [Dfa c b1 nx1 b2 mk, Dfa c b3 nx2 b4 mk] (fun r => r = .bool true) := by
  refine gives_of rfl ?_
  have hU := U8s_eqs c
  unfold Dfa
  simp (maxSteps := 2000000) (disch := omega) only [vm, ↓reduceIte, Nat.reduceEqDiff, decide_eq_true, decide_eq_false, if_pos, if_neg, U8s_get, Us_get, Ns_get, Rs_get, Bs_get, wrap64, wrap8, Int.cast_ofNat_Int, Int.reduceLT, Int.reduceLE, Int.reduceToNat, reduceCtorEq, Bool.not_true, Bool.not_false, gt_iff_lt, ge_iff_le, maxBytes, List.reduceReplicate, Nat.reduceAdd, Nat.reduceBEq, List.cons.injEq, and_false, false_and, and_true, true_and, and_self, v14, hU, hl]
  refine W_iter (fun i (_ : Unit) => ⟨[(2, .ptr 2 []), (3, .ptr 3 []), (5, .int .i64 i)], [(2, .agg [.arr (U8s c), .sl b1 (Rs nx1), .sl b2 (Ns mk)]), (3, .agg [.arr (U8s c), .sl b3 (Rs nx2), .sl b4 (Ns mk)])], []⟩) mk.length (fun _ _ => True) 0 () ?_ trivial (by omega) ?_ ?_
  · rfl
  · intro _ _
    simp (maxSteps := 2000000) (disch := omega) only [vm, ↓reduceIte, Nat.reduceEqDiff, decide_eq_true, decide_eq_false, if_pos, if_neg, U8s_get, Us_get, Ns_get, Rs_get, Bs_get, wrap64, wrap8, Int.cast_ofNat_Int, Int.reduceLT, Int.reduceLE, Int.reduceToNat, reduceCtorEq, Bool.not_true, Bool.not_false, gt_iff_lt, ge_iff_le, maxBytes, List.reduceReplicate, Nat.reduceAdd, Nat.reduceBEq, List.cons.injEq, and_false, false_and, and_true, true_and, and_self]
    refine W_iter (fun i (_ : Unit) => ⟨[(2, .ptr 2 []), (3, .ptr 3 []), (6, .int .i64 i)], [(2, .agg [.arr (U8s c), .sl b1 (Rs nx1), .sl b2 (Ns mk)]), (3, .agg [.arr (U8s c), .sl b3 (Rs nx2), .sl b4 (Ns mk)])], []⟩) nx1.length (fun _ _ => True) 0 () ?_ trivial (by omega) ?_ ?_
    · rfl
    · intro _ _
      simp (maxSteps := 2000000) (disch := omega) only [vm, ↓reduceIte, Nat.reduceEqDiff, decide_eq_true, decide_eq_false, if_pos, if_neg, U8s_get, Us_get, Ns_get, Rs_get, Bs_get, wrap64, wrap8, Int.cast_ofNat_Int, Int.reduceLT, Int.reduceLE, Int.reduceToNat, reduceCtorEq, Bool.not_true, Bool.not_false, gt_iff_lt, ge_iff_le, maxBytes, List.reduceReplicate, Nat.reduceAdd, Nat.reduceBEq, List.cons.injEq, and_false, false_and, and_true, true_and, and_self]
    · intro i _ hi _
      have hri := hr i hi
      have hrl := h3 i hi
      have hrl2 : (nR nx1 i).2.length = (nR nx2 i).2.length := by rw [hri]
      simp (maxSteps := 2000000) (disch := omega) only [vm, ↓reduceIte, Nat.reduceEqDiff, decide_eq_true, decide_eq_false, if_pos, if_neg, U8s_get, Us_get, Ns_get, Rs_get, Bs_get, wrap64, wrap8, Int.cast_ofNat_Int, Int.reduceLT, Int.reduceLE, Int.reduceToNat, reduceCtorEq, Bool.not_true, Bool.not_false, gt_iff_lt, ge_iff_le, maxBytes, List.reduceReplicate, Nat.reduceAdd, Nat.reduceBEq, List.cons.injEq, and_false, false_and, and_true, true_and, and_self]
      refine W_iter (fun k (_ : Unit) => ⟨[(2, .ptr 2 []), (3, .ptr 3 []), (6, .int .i64 i), (7, .int .i64 k)], [(2, .agg [.arr (U8s c), .sl b1 (Rs nx1), .sl b2 (Ns mk)]), (3, .agg [.arr (U8s c), .sl b3 (Rs nx2), .sl b4 (Ns mk)])], []⟩) (nR nx1 i).2.length (fun _ _ => True) 0 () ?_ trivial (by omega) ?_ ?_
      · rfl
      · intro _ _
        simp (maxSteps := 2000000) (disch := omega) only [vm, ↓reduceIte, Nat.reduceEqDiff, decide_eq_true, decide_eq_false, if_pos, if_neg, U8s_get, Us_get, Ns_get, Rs_get, Bs_get, wrap64, wrap8, Int.cast_ofNat_Int, Int.reduceLT, Int.reduceLE, Int.reduceToNat, reduceCtorEq, Bool.not_true, Bool.not_false, gt_iff_lt, ge_iff_le, maxBytes, List.reduceReplicate, Nat.reduceAdd, Nat.reduceBEq, List.cons.injEq, and_false, false_and, and_true, true_and, and_self]
        exact ⟨(), by simp⟩
      · intro k _ hk _
        have e : nI (nR nx1 i).2 k = nI (nR nx2 i).2 k := by rw [hri]
        simp (maxSteps := 2000000) (disch := omega) only [vm, ↓reduceIte, Nat.reduceEqDiff, decide_eq_true, decide_eq_false, if_pos, if_neg, U8s_get, Us_get, Ns_get, Rs_get, Bs_get, wrap64, wrap8, Int.cast_ofNat_Int, Int.reduceLT, Int.reduceLE, Int.reduceToNat, reduceCtorEq, Bool.not_true, Bool.not_false, gt_iff_lt, ge_iff_le, maxBytes, List.reduceReplicate, Nat.reduceAdd, Nat.reduceBEq, List.cons.injEq, and_false, false_and, and_true, true_and, and_self]
        exact ⟨(), by simp⟩
  · intro i _ hi _
    simp (maxSteps := 2000000) (disch := omega) only [vm, ↓reduceIte, Nat.reduceEqDiff, decide_eq_true, decide_eq_false, if_pos, if_neg, U8s_get, Us_get, Ns_get, Rs_get, Bs_get, wrap64, wrap8, Int.cast_ofNat_Int, Int.reduceLT, Int.reduceLE, Int.reduceToNat, reduceCtorEq, Bool.not_true, Bool.not_false, gt_iff_lt, ge_iff_le, maxBytes, List.reduceReplicate, Nat.reduceAdd, Nat.reduceBEq, List.cons.injEq, and_false, false_and, and_true, true_and, and_self]
    exact ⟨(), by simp⟩
/-! ### The page's example -/
theorem z256_nN (x : Nat) : nN z256 x = 0 := by
  unfold nN z256
  rw [List.getD_eq_getElem?_getD, List.getElem?_replicate]
  split <;> rfl
theorem z256_cls : Cls z256 := ⟨List.length_replicate, fun i => by rw [z256_nN]; omega⟩
theorem z256_cnt : cnt z256 = 1 := cnt_eq (c := z256) z256_cls.len (fun x _ => by rw [z256_nN]; omega) (fun v hv => ⟨0, by omega, by rw [z256_nN]; omega⟩) (by omega)
theorem ex_right : RightP z256 [(false, [0])] [-1] := by
  refine ⟨by simp, by simp, rfl, fun k hk => ?_, fun i hi => ?_⟩
  · rw [z256_cnt] at hk
    have : k = 0 := by omega
    subst this
    have := nN_mem (l := z256) (i := 0) (by rw [z256_cls.len]; omega)
    rwa [z256_nN] at this
  · have : i = 0 := by simp at hi; exact hi
    subst this
    exact ⟨by rw [z256_cnt]; rfl, by decide, fun k hk => by
      have hk : k < 1 := hk
      have : k = 0 := by omega
      subst this
      decide⟩
theorem ex_run : ∀ s, run z256 [(false, [0])] 0 s = 0
  | [] => rfl
  | b :: s => by
    rw [run_cons]
    have : stp z256 [(false, [0])] 0 b = 0 := by unfold stp; rw [if_pos (by omega), z256_nN]; rfl
    rw [this]
    exact ex_run s
theorem ex_lg (s : List Nat) : Lg z256 [(false, [0])] [-1] 0 s = -1 := by unfold Lg; rw [ex_run]; rfl
theorem awake : Gives code 7 [] (fun r => r = .bool true) := by
  refine gives_of rfl ?_
  obtain ⟨_, o, hO, f1, c', rs, ms, rfl, g, g2⟩ := of_yes z256_cls ex_right (fun i => by
    by_cases h : i = 0
    · subst h; intro h; cases h
    · intro h'
      have : nR [((false, [0]) : Rw)] i = (false, []) := by
        obtain ⟨m, rfl⟩ : ∃ m, i = m + 1 := ⟨i - 1, by omega⟩
        rfl
      rw [this] at h'
      cases h') (b2 := false) (fun h => by cases h) false
  have hcn := of_canon z256_cls ex_right g
  obtain ⟨al, nx0, L1, nx1, mk1, l, F, nx2, mk2, kept, nx3, L2, ⟨t1, t2, t3⟩, ⟨p1, p2, p3⟩, hl, hq, hcl, ⟨s1, s2, s3⟩, hc', hk', hr0, hr1, hr2, hr3⟩ := g.ex
  have ub : ∀ {n K : Nat} {src : Nat → Nat → Int} {L : List Nat} {rs : List Rw}, OrdOf n K src L rs → L.length ≤ n := by
    intro n K src L rs g
    have := sub_le (l := L) (L := List.range n) g.nd (fun x hx => by
      obtain ⟨i, hi, e⟩ := mem_nN hx
      exact List.mem_range.2 (e ▸ g.lt i hi))
    simpa using this
  have u1 := ub p1
  have u2 := ub s1
  have u3 : F.length ≤ nx1.length := by
    refine onto_le (φ := fun j => (nI l j).toNat) fun v hv => ?_
    obtain ⟨a1, a2⟩ := hq.fl v hv
    exact ⟨nN F v, a1, by simp only [a2]; rfl⟩
  have hlen : rs.length = 1 := by
    have := s1.ord.pos
    have := s1.len
    have := p1.len
    have := hcl.len
    have := hq.rl
    have t1' : nx0.length = 1 := t1
    omega
  have hkept : kept.length = 1 := by
    have h0 := hcl.rng 0 (by omega)
    have all0 : ∀ x, x < 256 → nN c' x = nN c' 0 := fun x hx => by
      have := (hcl.num.same x 0 hx (by omega)).2 (by rw [z256_nN, z256_nN])
      rw [nI_Zi, nI_Zi] at this
      omega
    by_cases h1 : kept.length = 1
    · exact h1
    · exfalso
      obtain ⟨x, hx, ex⟩ := hcl.all 0 (by omega)
      obtain ⟨y, hy, ey⟩ := hcl.all 1 (by omega)
      rw [all0 x hx] at ex
      rw [all0 y hy] at ey
      omega
  have hrl : (nR rs 0).2.length = 1 := by rw [s1.ord.rl 0 (by omega)]; omega
  have hent : nI (nR rs 0).2 0 = -1 := by
    have hr := s1.ord.rng 0 0 (by omega) (by omega)
    by_cases h : nI (nR rs 0).2 0 = -1
    · exact h
    · exfalso
      have h0 : nI (nR rs 0).2 0 = 0 := by omega
      have est : stp c' rs ((0 : Nat) : Int) 0 = 0 := by
        unfold stp
        rw [if_pos (by omega), toNat_cast]
        have : nN c' 0 = 0 := by have := hcl.rng 0 (by omega); omega
        rw [this]; exact h0
      obtain ⟨s, hs, hv⟩ := hcn.alive 0 0 (by omega) (by omega) (by rw [est]; omega)
      rw [est, hcn.lang s hs, ex_lg] at hv
      omega
  have hO' : cv code 10 [.agg [.arr (U8s z256), .sl false [.sl false [.int .i64 0]], .sl false [.int .i64 (-1)]]] = some (.agg [.agg [.arr (U8s c'), .own f1 (Rs rs), .own false (Ns ms)], .int .i64 0], o) := hO
  have hRs := Rs_get (l := rs) (i := 0) (by omega)
  have hNs := Ns_get (l := (nR rs 0).2) (i := 0) (by omega)
  simp (maxSteps := 2000000) (disch := omega) only [vm, ↓reduceIte, Nat.reduceEqDiff, decide_eq_true, decide_eq_false, if_pos, if_neg, U8s_get, Us_get, Ns_get, Rs_get, Bs_get, wrap64, wrap8, Int.cast_ofNat_Int, Int.reduceLT, Int.reduceLE, Int.reduceToNat, reduceCtorEq, Bool.not_true, Bool.not_false, gt_iff_lt, ge_iff_le, maxBytes, List.reduceReplicate, Nat.reduceAdd, Nat.reduceBEq, List.cons.injEq, and_false, false_and, and_true, true_and, and_self, v7, ↓buildDFA, zDFA, mDFA, hO', hRs, hNs, hlen, hrl, hent]
end Go.Vm.Ytnajiilcdcffdaa
end
section
set_option linter.unusedSimpArgs false
set_option linter.unusedVariables false
set_option maxHeartbeats 40000000
namespace Go.Vm.Ytnajiilcdcffdaa
open Go.Vm
theorem fit_u8 {p : PV} (h : Fit (.int .u8) p) : ∃ n : Nat, n < 256 ∧ p = .int .u8 n := by
  unfold Fit at h
  split at h <;> first | (exfalso; exact h) | skip
  · cases ‹TD.int IntKind.u8 = _›
  · rename_i k n j heq
    cases heq
    obtain ⟨rfl, h1, h2⟩ := h
    have e1 : IntKind.u8.min = 0 := rfl
    have e2 : IntKind.u8.max = 255 := rfl
    exact ⟨j.toNat, by omega, by congr 1; omega⟩
  all_goals (rename_i heq; cases heq)
theorem fit_i64 {p : PV} (h : Fit (.int .i64) p) : ∃ n : Int, p = .int .i64 n := by
  unfold Fit at h
  split at h <;> first | (exfalso; exact h) | skip
  · cases ‹TD.int IntKind.i64 = _›
  · rename_i k n j heq
    cases heq
    obtain ⟨rfl, h1, h2⟩ := h
    exact ⟨j, rfl⟩
  all_goals (rename_i heq; cases heq)
theorem fit_slice {e : TD} {p : PV} (h : Fit (.slice e) p) : ∃ b xs, p = .sl b xs ∧ (b = true → xs = []) ∧ FitA e xs := by
  unfold Fit at h
  split at h <;> first | (exfalso; exact h) | skip
  · cases ‹TD.slice e = _›
  · rename_i heq; cases heq
  · rename_i heq; cases heq
  · rename_i e' b xs heq
    cases heq
    exact ⟨b, xs, rfl, h.2⟩
  all_goals (rename_i heq; cases heq)
theorem fit_arr {n : Nat} {e : TD} {p : PV} (h : Fit (.arr n e) p) : ∃ xs, p = .arr xs ∧ xs.length = n ∧ FitA e xs := by
  unfold Fit at h
  split at h <;> first | (exfalso; exact h) | skip
  · cases ‹TD.arr n e = _›
  · rename_i heq; cases heq
  · rename_i heq; cases heq
  · rename_i heq; cases heq
  · rename_i heq; cases heq
  · rename_i n' e' xs heq
    cases heq
    exact ⟨xs, rfl, h⟩
theorem fit_struct {fs : List TD} {p : PV} (h : Fit (.struct fs) p) : ∃ xs, p = .agg xs ∧ FitS fs xs := by
  unfold Fit at h
  split at h <;> first | (exfalso; exact h) | skip
  · cases ‹TD.struct fs = _›
  · rename_i heq; cases heq
  · rename_i heq; cases heq
  · rename_i heq; cases heq
  · rename_i fs' xs heq
    cases heq
    exact ⟨xs, rfl, h⟩
  all_goals (rename_i heq; cases heq)
theorem fit_three {a b c : TD} {xs : List PV} (h : FitS [a, b, c] xs) : ∃ x y z, xs = [x, y, z] ∧ Fit a x ∧ Fit b y ∧ Fit c z := by
  match xs, h with
  | [], h => simp [FitS] at h
  | [x], h => simp [FitS] at h
  | [x, y], h => simp [FitS] at h
  | [x, y, z], h =>
    simp only [FitS] at h
    exact ⟨x, y, z, rfl, h.1, h.2.1, h.2.2.1⟩
  | x :: y :: z :: w :: r, h => simp [FitS] at h
theorem fit_Ns : ∀ {xs : List PV}, FitA (.int .i64) xs → ∃ l, xs = Ns l
  | [], _ => ⟨[], rfl⟩
  | p :: ps, h => by
    simp only [FitA] at h
    obtain ⟨l, rfl⟩ := fit_Ns h.2
    obtain ⟨n, rfl⟩ := fit_i64 h.1
    exact ⟨n :: l, rfl⟩
theorem fit_U8s : ∀ {xs : List PV}, FitA (.int .u8) xs → ∃ l, xs = U8s l ∧ ∀ x ∈ l, x < 256
  | [], _ => ⟨[], rfl, fun x hx => by cases hx⟩
  | p :: ps, h => by
    simp only [FitA] at h
    obtain ⟨l, rfl, hl⟩ := fit_U8s h.2
    obtain ⟨n, hn, rfl⟩ := fit_u8 h.1
    refine ⟨n :: l, rfl, fun x hx => ?_⟩
    rcases List.mem_cons.1 hx with rfl | hx
    · exact hn
    · exact hl x hx
theorem fit_Rs : ∀ {xs : List PV}, FitA (.slice (.int .i64)) xs → ∃ l, xs = Rs l ∧ ∀ r ∈ l, r.1 = true → r.2 = []
  | [], _ => ⟨[], rfl, fun x hx => by cases hx⟩
  | p :: ps, h => by
    simp only [FitA] at h
    obtain ⟨l, rfl, hl⟩ := fit_Rs h.2
    obtain ⟨b, ys, rfl, hb, hy⟩ := fit_slice h.1
    obtain ⟨m, rfl⟩ := fit_Ns hy
    refine ⟨(b, m) :: l, rfl, fun x hx => ?_⟩
    rcases List.mem_cons.1 hx with rfl | hx
    · intro h
      have := hb h
      simpa [Ns] using this
    · exact hl x hx
theorem fit_dfa {p : PV} (h : Fit tDFA p) : ∃ c b1 nx b2 mk, p = Dfa c b1 nx b2 mk ∧ Cls c ∧ FlagP nx ∧ (b2 = true → mk = []) := by
  obtain ⟨_, rfl, h⟩ := fit_struct h
  obtain ⟨x, y, z, rfl, hx, hy, hz⟩ := fit_three h
  obtain ⟨xs, rfl, hl, hx⟩ := fit_arr hx
  obtain ⟨c, rfl, hc⟩ := fit_U8s hx
  obtain ⟨b1, ys, rfl, _, hy⟩ := fit_slice hy
  obtain ⟨nx, rfl, hn⟩ := fit_Rs hy
  obtain ⟨b2, zs, rfl, hb2, hz⟩ := fit_slice hz
  obtain ⟨mk, rfl⟩ := fit_Ns hz
  rw [U8s_length] at hl
  refine ⟨c, b1, nx, b2, mk, rfl, ⟨hl, fun i => ?_⟩, fun i hi => ?_, fun e => ?_⟩
  · by_cases h : i < c.length
    · exact hc _ (nN_mem h)
    · unfold nN; rw [List.getD_eq_getElem?_getD, List.getElem?_eq_none (by omega)]; decide
  · by_cases h : i < nx.length
    · rw [nR_eq h] at hi ⊢; exact hn _ (List.getElem_mem h) hi
    · unfold nR; rw [List.getD_eq_getElem?_getD, List.getElem?_eq_none (by omega)]; rfl
  · have := hb2 e
    simpa [Ns] using this
/-! ### The doubled machine -/
def oldOf (n i s : Nat) : Nat := if s = n then i else s
def dblTo (n i s k : Nat) (t : Int) : Int := if t = i ∧ (s + k) % 2 = 0 then n else t
structure DblRow (nx : List Rw) (i s m : Nat) (row : List Int) : Prop where
  len : row.length = m
  at_ : ∀ k, k < m → nI row k = dblTo nx.length i s k (nI (nR nx (oldOf nx.length i s)).2 k)
structure Dbl (nx : List Rw) (i m : Nat) (rs : List Rw) : Prop where
  len : rs.length = m
  flag : ∀ s, s < m → (nR rs s).1 = true → (nR rs s).2 = []
  row : ∀ s, s < m → DblRow nx i s (nR nx (oldOf nx.length i s)).2.length (nR rs s).2
section
variable {c : List Nat} {nx : List Rw} {mk : List Int} {i : Nat} {rs : List Rw}
theorem oldOf_lt (hi : i < nx.length) {s : Nat} (hs : s < nx.length + 1) : oldOf nx.length i s < nx.length := by
  unfold oldOf; split <;> omega
theorem dbl_right (h : RightP c nx mk) (h20 : nx.length ≤ 20) (hi : i < nx.length) (g : Dbl nx i (nx.length + 1) rs) : RightP c rs (mk ++ [nI mk i]) := by
  have h3 := h.mkl
  have h4 := g.len
  refine ⟨by omega, by omega, by simp; omega, h.gap, fun s hs => ?_⟩
  have ho := h.row _ (oldOf_lt hi (s := s) (by omega))
  have gr := g.row s (by omega)
  refine ⟨by rw [gr.len, ho.len], ?_, fun k hk => ?_⟩
  · rw [nI_app]
    split
    · exact (h.row s (by omega)).mark
    · have : s - mk.length = 0 := by omega
      rw [this, nI_one]
      exact (h.row i hi).mark
  · rw [gr.len] at hk
    rw [gr.at_ k hk]
    have := ho.to k hk
    unfold dblTo
    split <;> omega
def SDbl (n i : Nat) (p q : Int) : Prop := InR n q ∧ (p = q ∨ (p = n ∧ q = i))
theorem dbl_sim (hc : Cls c) (h : RightP c nx mk) (hi : i < nx.length) (g : Dbl nx i (nx.length + 1) rs) :
    (∀ p q, SDbl nx.length i p q → mkD (mk ++ [nI mk i]) p = mkD mk q) ∧ ∀ p q b, SDbl nx.length i p q → b < 256 → SDbl nx.length i (stp c rs p b) (stp c nx q b) := by
  have h3 := h.mkl
  refine ⟨fun p q hS => ?_, fun p q b hS hb => ⟨stp_in hc h hS.1 hb, ?_⟩⟩
  · obtain ⟨⟨q1, q2⟩, rfl | ⟨rfl, rfl⟩⟩ := hS
    · unfold mkD
      split
      · rw [nI_app, if_pos (by omega)]
      · rfl
    · rw [mkD_nat, mkD_nat, nI_app, if_neg (by omega), ← h3, Nat.sub_self, nI_one]
  · have hk := nN_lt_cnt hc hb
    have key : ∀ s : Nat, s < nx.length + 1 → stp c rs s b = dblTo nx.length i s (nN c b) (stp c nx (oldOf nx.length i s : Nat) b) := by
      intro s hs
      have ho := h.row _ (oldOf_lt hi hs)
      unfold stp
      rw [if_pos (by omega), if_pos (by omega), toNat_cast, toNat_cast]
      exact (g.row s hs).at_ _ (by rw [ho.len]; exact hk)
    have fin : ∀ (s : Nat) (t : Int), dblTo nx.length i s (nN c b) t = t ∨ (dblTo nx.length i s (nN c b) t = nx.length ∧ t = i) := by
      intro s t
      unfold dblTo
      split
      · rename_i hh; exact .inr ⟨rfl, hh.1⟩
      · exact .inl rfl
    obtain ⟨⟨q1, q2⟩, rfl | ⟨rfl, rfl⟩⟩ := hS
    · by_cases h0 : 0 ≤ p
      · obtain ⟨s, rfl⟩ : ∃ s : Nat, p = s := ⟨p.toNat, by omega⟩
        rw [key s (by omega)]
        have : oldOf nx.length i s = s := by unfold oldOf; rw [if_neg (by omega)]
        rw [this]
        exact fin _ _
      · left
        unfold stp
        rw [if_neg h0, if_neg h0]
    · rw [key _ (by omega)]
      have : oldOf nx.length i nx.length = i := by unfold oldOf; rw [if_pos rfl]
      rw [this]
      exact fin _ _
theorem dbl_lg (hc : Cls c) (h : RightP c nx mk) (hi : i < nx.length) (g : Dbl nx i (nx.length + 1) rs) {s : List Nat} (hs : By s) : Lg c rs (mk ++ [nI mk i]) 0 s = Lg c nx mk 0 s := by
  obtain ⟨a1, a2⟩ := dbl_sim hc h hi g
  have h1 := h.n1
  exact (sim a1 a2 hs ⟨⟨by omega, by omega⟩, .inl rfl⟩).2
theorem Canon.congr {G H : List Nat → Int} {c : List Nat} {rs : List Rw} {ms : List Int} (h : Canon G c rs ms) (e : ∀ s, By s → G s = H s) : Canon H c rs ms :=
  ⟨h.cls, h.right, fun s hs => by rw [h.lang s hs, e s hs], h.ord, h.num.congr fun x y hx hy => by
    constructor
    · intro k u w hu hw
      rw [← e _ (hu.app (By.mk hx hw)), ← e _ (hu.app (By.mk hy hw))]; exact k u w hu hw
    · intro k u w hu hw
      rw [e _ (hu.app (By.mk hx hw)), e _ (hu.app (By.mk hy hw))]; exact k u w hu hw, h.dist, h.alive⟩
end
end Go.Vm.Ytnajiilcdcffdaa
end
