/- Of the claim for One: the walk of the law and the plain facts behind it. No conditions. MiniOne answers true. The law MiniOne answers true at each argument. -/
import Derived.Test.YtnajiilcdcffdaaOneOwn4
section
set_option linter.unusedSimpArgs false
set_option linter.unusedVariables false
set_option maxHeartbeats 40000000
namespace Go.Vm.Ytnajiilcdcffdaa
open Go.Vm
theorem flag_out {nx : List Rw} {i : Nat} (h : ¬ i < nx.length) : (nR nx i).1 = false := by
  unfold nR; rw [List.getD_eq_getElem?_getD, List.getElem?_eq_none (by omega)]; rfl
theorem Dbl.push {nx rs : List Rw} {i s m : Nat} {f : Bool} {row : List Int} (g : Dbl nx i s rs) (hm : m = (nR nx (oldOf nx.length i s)).2.length) (hr : DblRow nx i s m row) (hf : f = true → row = []) : Dbl nx i (s + 1) (rs ++ [(f, row)]) := by
  subst hm
  have hl := g.len
  have e1 : nR (rs ++ [(f, row)]) s = (f, row) := by rw [← hl]; unfold nR; simp
  have e2 : ∀ j, j < s → nR (rs ++ [(f, row)]) j = nR rs j := fun j hj => by unfold nR; rw [List.getD_eq_getElem?_getD, List.getD_eq_getElem?_getD, List.getElem?_append_left (by omega)]
  refine ⟨by simp [hl], fun j hj => ?_, fun j hj => ?_⟩
  · by_cases e : j = s
    · subst e; rw [e1]; exact hf
    · rw [e2 j (by omega)]; exact g.flag j (by omega)
  · by_cases e : j = s
    · subst e; rw [e1]; exact hr
    · rw [e2 j (by omega)]; exact g.row j (by omega)
theorem DblRow.push {nx : List Rw} {i s k : Nat} {row : List Int} {x : Int} (g : DblRow nx i s k row) (hx : x = dblTo nx.length i s k (nI (nR nx (oldOf nx.length i s)).2 k)) : DblRow nx i s (k + 1) (row ++ [x]) := by
  have hl := g.len
  refine ⟨by simp [hl], fun j hj => ?_⟩
  by_cases e : j = k
  · subst e; rw [nI_app, if_neg (by omega), hl, Nat.sub_self, nI_one, hx]
  · rw [nI_app, if_pos (by omega)]; exact g.at_ j (by omega)
theorem one {c : List Nat} {nx : List Rw} {mk : List Int} {b1 b2 : Bool} {a : Nat} (hc : Cls c) (hf : FlagP nx) (hb2 : b2 = true → mk = []) (ha : a < 256) : Gives code 5 [Dfa c b1 nx b2 mk, .int .u8 a] (fun r => r = .bool true) := by
  refine gives_of rfl ?_
  obtain ⟨_, oA, hA, rfl⟩ := awake
  obtain ⟨_, oS, hS, sb, rfl, hsb⟩ := small c b1 b2 nx mk
  obtain ⟨_, oR, hR, rb, rfl, hrb⟩ := ref_right hc b1 b2 nx mk
  unfold Dfa at hS hR ⊢
  cases sb with
  | false => simp (maxSteps := 2000000) (disch := omega) only [vm, ↓reduceIte, Nat.reduceEqDiff, decide_eq_true, decide_eq_false, if_pos, if_neg, U8s_get, Us_get, Ns_get, Rs_get, Bs_get, wrap64, wrap8, Int.cast_ofNat_Int, Int.reduceLT, Int.reduceLE, Int.reduceToNat, reduceCtorEq, Bool.not_true, Bool.not_false, gt_iff_lt, ge_iff_le, maxBytes, List.reduceReplicate, Nat.reduceAdd, Nat.reduceBEq, List.cons.injEq, and_false, false_and, and_true, true_and, and_self, v5, hA, hS]
  | true =>
    cases rb with
    | false => simp (maxSteps := 2000000) (disch := omega) only [vm, ↓reduceIte, Nat.reduceEqDiff, decide_eq_true, decide_eq_false, if_pos, if_neg, U8s_get, Us_get, Ns_get, Rs_get, Bs_get, wrap64, wrap8, Int.cast_ofNat_Int, Int.reduceLT, Int.reduceLE, Int.reduceToNat, reduceCtorEq, Bool.not_true, Bool.not_false, gt_iff_lt, ge_iff_le, maxBytes, List.reduceReplicate, Nat.reduceAdd, Nat.reduceBEq, List.cons.injEq, and_false, false_and, and_true, true_and, and_self, v5, hA, hS, hR]
    | true =>
      have hs := hsb.1 rfl
      have h := hrb.1 rfl
      have h1 := h.n1
      have h3 := h.mkl
      have h20 := hs.n
      have h30 := hs.m
      have et : Int.tmod (a : Int) (nx.length : Int) = ((a % nx.length : Nat) : Int) := rfl
      have hi := Nat.mod_lt a (show 0 < nx.length by omega)
      generalize a % nx.length = i at et hi
      simp (maxSteps := 2000000) (disch := omega) only [vm, ↓reduceIte, Nat.reduceEqDiff, decide_eq_true, decide_eq_false, if_pos, if_neg, U8s_get, Us_get, Ns_get, Rs_get, Bs_get, wrap64, wrap8, Int.cast_ofNat_Int, Int.reduceLT, Int.reduceLE, Int.reduceToNat, reduceCtorEq, Bool.not_true, Bool.not_false, gt_iff_lt, ge_iff_le, maxBytes, List.reduceReplicate, Nat.reduceAdd, Nat.reduceBEq, List.cons.injEq, and_false, false_and, and_true, true_and, and_self, v5, hA, hS, hR, et, ↓buildDFA, zDFA, mDFA]
      refine W_iter (fun s (a : List Rw × Bool) => ⟨[(2, .ptr 2 []), (5, .int .i64 nx.length), (6, .int .i64 i), (7, .ptr 7 []), (8, .int .i64 s)], [(2, .agg [.arr (U8s c), .sl b1 (Rs nx), .sl b2 (Ns mk)]), (7, .agg [.arr (U8s c), .ref [1, 7, 1], .ref [1, 7, 2]])],
          [([1, 7, 2], .row ⟨false, false, Ns (mk ++ [nI mk i])⟩), ([1, 7, 1], .row ⟨a.2, false, Rs a.1⟩)]⟩) (nx.length + 1) (fun s a => Dbl nx i s a.1) 0 ([], true) ?_ ⟨rfl, fun s hs => by omega, fun s hs => by omega⟩ (by omega) ?_ ?_
      · rfl
      · rintro ⟨rs, e1⟩ g
        simp only at g ⊢
        have hxl := g.len
        have hxr := dbl_right h h20 hi g
        obtain ⟨_, o1, hO1, f1, c1, rs1, ms1, rfl, g1, fl1⟩ := of_yes hc h hf hb2 b1
        obtain ⟨_, o2, hO2, f2, c2, rs2, ms2, rfl, g2, fl2⟩ := of_yes (b2 := false) hc hxr (fun s hs => by
          by_cases hlt : s < rs.length
          · exact g.flag s (by omega) hs
          · rw [flag_out hlt] at hs; cases hs) (fun e => by cases e) e1
        have k1 := of_canon hc h g1
        have k2 := (of_canon hc hxr g2).congr fun s hs => dbl_lg hc h hi g hs
        obtain ⟨_, o3, hO3, f3, c3, rs3, ms3, rfl, g3, fl3⟩ := of_yes (b2 := false) k1.cls k1.right (fun s hs => by
          by_cases hlt : s < rs1.length
          · rw [fl1 s hlt] at hs; cases hs
          · rw [flag_out hlt] at hs; cases hs) (fun e => by cases e) f1
        have k3 := (of_canon k1.cls k1.right g3).congr k1.lang
        obtain ⟨rfl, l2, r2, rfl⟩ := k1.unique k2
        obtain ⟨rfl, l3, r3, rfl⟩ := k1.unique k3
        obtain ⟨_, o4, hE2, rfl⟩ := same_yes (b1 := f1) (b2 := false) (b3 := f2) (b4 := false) (c := c1) (mk := ms1) l2 r2 (by have := k1.right.n2; omega) (by have := k1.right.n2; have := k1.right.mkl; omega) (fun j hj => by have := (k1.right.row j hj).len; have := k1.cls.cnt_le; omega)
        obtain ⟨_, o5, hE3, rfl⟩ := same_yes (b1 := f1) (b2 := false) (b3 := f3) (b4 := false) (c := c1) (mk := ms1) l3 r3 (by have := k1.right.n2; omega) (by have := k1.right.n2; have := k1.right.mkl; omega) (fun j hj => by have := (k1.right.row j hj).len; have := k1.cls.cnt_le; omega)
        unfold Dfa at hO1 hO2 hO3 hE2 hE3
        simp (maxSteps := 2000000) (disch := omega) only [vm, ↓reduceIte, Nat.reduceEqDiff, decide_eq_true, decide_eq_false, if_pos, if_neg, U8s_get, Us_get, Ns_get, Rs_get, Bs_get, wrap64, wrap8, Int.cast_ofNat_Int, Int.reduceLT, Int.reduceLE, Int.reduceToNat, reduceCtorEq, Bool.not_true, Bool.not_false, gt_iff_lt, ge_iff_le, maxBytes, List.reduceReplicate, Nat.reduceAdd, Nat.reduceBEq, List.cons.injEq, and_false, false_and, and_true, true_and, and_self, hO1, hO2, hO3, hE2, hE3, mDFA, zDFA, ↓buildDFA]
      · rintro s ⟨rs, e1⟩ hs' g
        simp only at g ⊢
        have ho : oldOf nx.length i s < nx.length := oldOf_lt hi hs'
        have hro := h.row _ ho
        have hrl := hro.len
        have hr256 := hs.row _ ho
        by_cases hsn : s = nx.length
        · have eo : oldOf nx.length i s = i := by unfold oldOf; rw [if_pos hsn]
          rw [eo] at hrl hr256 hro
          simp (maxSteps := 2000000) (disch := omega) only [vm, ↓reduceIte, Nat.reduceEqDiff, decide_eq_true, decide_eq_false, if_pos, if_neg, U8s_get, Us_get, Ns_get, Rs_get, Bs_get, wrap64, wrap8, Int.cast_ofNat_Int, Int.reduceLT, Int.reduceLE, Int.reduceToNat, reduceCtorEq, Bool.not_true, Bool.not_false, gt_iff_lt, ge_iff_le, maxBytes, List.reduceReplicate, Nat.reduceAdd, Nat.reduceBEq, List.cons.injEq, and_false, false_and, and_true, true_and, and_self, hsn]
          refine W_iter (fun k (a : List Int × Bool) => ⟨[(2, .ptr 2 []), (5, .int .i64 nx.length), (6, .int .i64 i), (7, .ptr 7 []), (8, .int .i64 s), (9, .int .i64 i), (10, .ref [0, 10]), (11, .int .i64 k)], [(2, .agg [.arr (U8s c), .sl b1 (Rs nx), .sl b2 (Ns mk)]), (7, .agg [.arr (U8s c), .ref [1, 7, 1], .ref [1, 7, 2]])],
              [([1, 7, 2], .row ⟨false, false, Ns (mk ++ [nI mk i])⟩), ([1, 7, 1], .row ⟨e1, false, Rs rs⟩), ([0, 10], .row ⟨a.2, false, Ns a.1⟩)]⟩) (cnt c) (fun k a => DblRow nx i s k a.1 ∧ (a.2 = true → a.1 = [])) 0 ([], true) ?_ ⟨⟨rfl, fun k hk => by omega⟩, fun _ => rfl⟩ (by omega) ?_ ?_
          · first | rfl | (rw [hsn]; rfl) | (simp (maxSteps := 2000000) (disch := omega) only [vm, ↓reduceIte, Nat.reduceEqDiff, decide_eq_true, decide_eq_false, if_pos, if_neg, U8s_get, Us_get, Ns_get, Rs_get, Bs_get, wrap64, wrap8, Int.cast_ofNat_Int, Int.reduceLT, Int.reduceLE, Int.reduceToNat, reduceCtorEq, Bool.not_true, Bool.not_false, gt_iff_lt, ge_iff_le, maxBytes, List.reduceReplicate, Nat.reduceAdd, Nat.reduceBEq, List.cons.injEq, and_false, false_and, and_true, true_and, and_self, hsn]; rfl)
          · rintro ⟨row, fr⟩ ⟨q1, q2⟩
            simp only at q1 q2 ⊢
            have hrsl := g.len
            simp (maxSteps := 2000000) (disch := omega) only [vm, ↓reduceIte, Nat.reduceEqDiff, decide_eq_true, decide_eq_false, if_pos, if_neg, U8s_get, Us_get, Ns_get, Rs_get, Bs_get, wrap64, wrap8, Int.cast_ofNat_Int, Int.reduceLT, Int.reduceLE, Int.reduceToNat, reduceCtorEq, Bool.not_true, Bool.not_false, gt_iff_lt, ge_iff_le, maxBytes, List.reduceReplicate, Nat.reduceAdd, Nat.reduceBEq, List.cons.injEq, and_false, false_and, and_true, true_and, and_self, hsn]
            exact ⟨(rs ++ [(fr, row)], false), by simp, by
              have q := g.push (by rw [eo]; exact hrl.symm) q1 q2
              first | exact q | (rw [hsn] at q; exact q) | (simp only [hsn] at q ⊢; exact q)⟩
          · rintro k ⟨row, fr⟩ hk ⟨q1, q2⟩
            simp only at q1 q2 ⊢
            have hql := q1.len
            by_cases z1 : nI (nR nx i).2 k = i
            · have em : Int.tmod ((s : Int) + (k : Int)) 2 = (((s + k) % 2 : Nat) : Int) := by rw [← Int.natCast_add]; rfl
              by_cases z2 : (s + k) % 2 = 0
              · rw [z2] at em
                try rw [hsn] at em
                have fin := q1.push (x := (nx.length : Int)) (by rw [eo, z1]; unfold dblTo; rw [if_pos ⟨rfl, z2⟩])
                try rw [hsn] at fin
                simp (maxSteps := 2000000) (disch := omega) only [vm, ↓reduceIte, Nat.reduceEqDiff, decide_eq_true, decide_eq_false, if_pos, if_neg, U8s_get, Us_get, Ns_get, Rs_get, Bs_get, wrap64, wrap8, Int.cast_ofNat_Int, Int.reduceLT, Int.reduceLE, Int.reduceToNat, reduceCtorEq, Bool.not_true, Bool.not_false, gt_iff_lt, ge_iff_le, maxBytes, List.reduceReplicate, Nat.reduceAdd, Nat.reduceBEq, List.cons.injEq, and_false, false_and, and_true, true_and, and_self, hsn, z1, em]
                exact ⟨(row ++ [(nx.length : Int)], false), by simp, fin, fun e => by cases e⟩
              · have z3 : (s + k) % 2 = 1 := by omega
                rw [z3] at em
                try rw [hsn] at em
                have fin := q1.push (x := (i : Int)) (by rw [eo, z1]; unfold dblTo; rw [if_neg (by omega)])
                try rw [hsn] at fin
                simp (maxSteps := 2000000) (disch := omega) only [vm, ↓reduceIte, Nat.reduceEqDiff, decide_eq_true, decide_eq_false, if_pos, if_neg, U8s_get, Us_get, Ns_get, Rs_get, Bs_get, wrap64, wrap8, Int.cast_ofNat_Int, Int.reduceLT, Int.reduceLE, Int.reduceToNat, reduceCtorEq, Bool.not_true, Bool.not_false, gt_iff_lt, ge_iff_le, maxBytes, List.reduceReplicate, Nat.reduceAdd, Nat.reduceBEq, List.cons.injEq, and_false, false_and, and_true, true_and, and_self, hsn, z1, em]
                exact ⟨(row ++ [(i : Int)], false), by simp, fin, fun e => by cases e⟩
            · have fin := q1.push (x := nI (nR nx i).2 k) (by rw [eo]; unfold dblTo; rw [if_neg (by omega)])
              try rw [hsn] at fin
              simp (maxSteps := 2000000) (disch := omega) only [vm, ↓reduceIte, Nat.reduceEqDiff, decide_eq_true, decide_eq_false, if_pos, if_neg, U8s_get, Us_get, Ns_get, Rs_get, Bs_get, wrap64, wrap8, Int.cast_ofNat_Int, Int.reduceLT, Int.reduceLE, Int.reduceToNat, reduceCtorEq, Bool.not_true, Bool.not_false, gt_iff_lt, ge_iff_le, maxBytes, List.reduceReplicate, Nat.reduceAdd, Nat.reduceBEq, List.cons.injEq, and_false, false_and, and_true, true_and, and_self, hsn, z1]
              exact ⟨(row ++ [nI (nR nx i).2 k], false), by simp, fin, fun e => by cases e⟩
        · have eo : oldOf nx.length i s = s := by unfold oldOf; rw [if_neg hsn]
          rw [eo] at hrl hr256 hro
          have hsl : s < nx.length := by omega
          simp (maxSteps := 2000000) (disch := omega) only [vm, ↓reduceIte, Nat.reduceEqDiff, decide_eq_true, decide_eq_false, if_pos, if_neg, U8s_get, Us_get, Ns_get, Rs_get, Bs_get, wrap64, wrap8, Int.cast_ofNat_Int, Int.reduceLT, Int.reduceLE, Int.reduceToNat, reduceCtorEq, Bool.not_true, Bool.not_false, gt_iff_lt, ge_iff_le, maxBytes, List.reduceReplicate, Nat.reduceAdd, Nat.reduceBEq, List.cons.injEq, and_false, false_and, and_true, true_and, and_self, hsn]
          refine W_iter (fun k (a : List Int × Bool) => ⟨[(2, .ptr 2 []), (5, .int .i64 nx.length), (6, .int .i64 i), (7, .ptr 7 []), (8, .int .i64 s), (9, .int .i64 s), (10, .ref [0, 10]), (11, .int .i64 k)], [(2, .agg [.arr (U8s c), .sl b1 (Rs nx), .sl b2 (Ns mk)]), (7, .agg [.arr (U8s c), .ref [1, 7, 1], .ref [1, 7, 2]])],
              [([1, 7, 2], .row ⟨false, false, Ns (mk ++ [nI mk i])⟩), ([1, 7, 1], .row ⟨e1, false, Rs rs⟩), ([0, 10], .row ⟨a.2, false, Ns a.1⟩)]⟩) (cnt c) (fun k a => DblRow nx i s k a.1 ∧ (a.2 = true → a.1 = [])) 0 ([], true) ?_ ⟨⟨rfl, fun k hk => by omega⟩, fun _ => rfl⟩ (by omega) ?_ ?_
          · first | rfl | (rw [hsn]; rfl) | (simp (maxSteps := 2000000) (disch := omega) only [vm, ↓reduceIte, Nat.reduceEqDiff, decide_eq_true, decide_eq_false, if_pos, if_neg, U8s_get, Us_get, Ns_get, Rs_get, Bs_get, wrap64, wrap8, Int.cast_ofNat_Int, Int.reduceLT, Int.reduceLE, Int.reduceToNat, reduceCtorEq, Bool.not_true, Bool.not_false, gt_iff_lt, ge_iff_le, maxBytes, List.reduceReplicate, Nat.reduceAdd, Nat.reduceBEq, List.cons.injEq, and_false, false_and, and_true, true_and, and_self, hsn]; rfl)
          · rintro ⟨row, fr⟩ ⟨q1, q2⟩
            simp only at q1 q2 ⊢
            have hrsl := g.len
            simp (maxSteps := 2000000) (disch := omega) only [vm, ↓reduceIte, Nat.reduceEqDiff, decide_eq_true, decide_eq_false, if_pos, if_neg, U8s_get, Us_get, Ns_get, Rs_get, Bs_get, wrap64, wrap8, Int.cast_ofNat_Int, Int.reduceLT, Int.reduceLE, Int.reduceToNat, reduceCtorEq, Bool.not_true, Bool.not_false, gt_iff_lt, ge_iff_le, maxBytes, List.reduceReplicate, Nat.reduceAdd, Nat.reduceBEq, List.cons.injEq, and_false, false_and, and_true, true_and, and_self, hsn]
            exact ⟨(rs ++ [(fr, row)], false), by simp, by
              have q := g.push (by rw [eo]; exact hrl.symm) q1 q2
              first | exact q | (rw [hsn] at q; exact q) | (simp only [hsn] at q ⊢; exact q)⟩
          · rintro k ⟨row, fr⟩ hk ⟨q1, q2⟩
            simp only at q1 q2 ⊢
            have hql := q1.len
            by_cases z1 : nI (nR nx s).2 k = i
            · have em : Int.tmod ((s : Int) + (k : Int)) 2 = (((s + k) % 2 : Nat) : Int) := by rw [← Int.natCast_add]; rfl
              by_cases z2 : (s + k) % 2 = 0
              · rw [z2] at em
                try rw [hsn] at em
                have fin := q1.push (x := (nx.length : Int)) (by rw [eo, z1]; unfold dblTo; rw [if_pos ⟨rfl, z2⟩])
                try rw [hsn] at fin
                simp (maxSteps := 2000000) (disch := omega) only [vm, ↓reduceIte, Nat.reduceEqDiff, decide_eq_true, decide_eq_false, if_pos, if_neg, U8s_get, Us_get, Ns_get, Rs_get, Bs_get, wrap64, wrap8, Int.cast_ofNat_Int, Int.reduceLT, Int.reduceLE, Int.reduceToNat, reduceCtorEq, Bool.not_true, Bool.not_false, gt_iff_lt, ge_iff_le, maxBytes, List.reduceReplicate, Nat.reduceAdd, Nat.reduceBEq, List.cons.injEq, and_false, false_and, and_true, true_and, and_self, hsn, z1, em]
                exact ⟨(row ++ [(nx.length : Int)], false), by simp, fin, fun e => by cases e⟩
              · have z3 : (s + k) % 2 = 1 := by omega
                rw [z3] at em
                try rw [hsn] at em
                have fin := q1.push (x := (i : Int)) (by rw [eo, z1]; unfold dblTo; rw [if_neg (by omega)])
                try rw [hsn] at fin
                simp (maxSteps := 2000000) (disch := omega) only [vm, ↓reduceIte, Nat.reduceEqDiff, decide_eq_true, decide_eq_false, if_pos, if_neg, U8s_get, Us_get, Ns_get, Rs_get, Bs_get, wrap64, wrap8, Int.cast_ofNat_Int, Int.reduceLT, Int.reduceLE, Int.reduceToNat, reduceCtorEq, Bool.not_true, Bool.not_false, gt_iff_lt, ge_iff_le, maxBytes, List.reduceReplicate, Nat.reduceAdd, Nat.reduceBEq, List.cons.injEq, and_false, false_and, and_true, true_and, and_self, hsn, z1, em]
                exact ⟨(row ++ [(i : Int)], false), by simp, fin, fun e => by cases e⟩
            · have fin := q1.push (x := nI (nR nx s).2 k) (by rw [eo]; unfold dblTo; rw [if_neg (by omega)])
              try rw [hsn] at fin
              simp (maxSteps := 2000000) (disch := omega) only [vm, ↓reduceIte, Nat.reduceEqDiff, decide_eq_true, decide_eq_false, if_pos, if_neg, U8s_get, Us_get, Ns_get, Rs_get, Bs_get, wrap64, wrap8, Int.cast_ofNat_Int, Int.reduceLT, Int.reduceLE, Int.reduceToNat, reduceCtorEq, Bool.not_true, Bool.not_false, gt_iff_lt, ge_iff_le, maxBytes, List.reduceReplicate, Nat.reduceAdd, Nat.reduceBEq, List.cons.injEq, and_false, false_and, and_true, true_and, and_self, hsn, z1]
              exact ⟨(row ++ [nI (nR nx s).2 k], false), by simp, fin, fun e => by cases e⟩
end Go.Vm.Ytnajiilcdcffdaa
end
section
namespace Go.Vm.Ytnajiilcdcffdaa
open Go.Vm
theorem pureMiniOne {x y : PV} (h : Fit tDFA x) (h2 : Fit (.int .u8) y) : ∃ n outs, callF code n 5 [x, y] = some (.bool true, outs) := by
  obtain ⟨c, b1, nx, b2, mk, rfl, hc, hf, hb⟩ := fit_dfa h
  obtain ⟨a, ha, rfl⟩ := fit_u8 h2
  obtain ⟨_, o, hcv, rfl⟩ := one (b1 := b1) hc hf hb ha
  obtain ⟨n, hn⟩ := of_cv hcv
  exact ⟨n, o, hn⟩
end Go.Vm.Ytnajiilcdcffdaa
end
