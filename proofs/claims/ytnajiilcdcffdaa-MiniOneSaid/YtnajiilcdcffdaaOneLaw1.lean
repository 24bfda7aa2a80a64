/- Of the claim for One: the walk of the law and the plain facts behind it. No conditions. The law MiniOne holds: its call is the interpreter's (whose soundness the Vm texts show), and the interpreter answers true (Pure). No conditions beyond the row's own. -/
import Derived.Test.YtnajiilcdcffdaaRows
import Derived.Test.YtnajiilcdcffdaaOneOwn2
import Derived.Test.YtnajiilcdcffdaaVm6
import Derived.Test.YtnajiilcdcffdaaOneOwn5
import Derived.WalkKit
import Derived.ProofKit
import Derived.OpenShut
import Derived.ShutString
import Derived.ChangeOld
import Derived.Below
import Derived.SizedLaws
import Derived.Carry
section
set_option maxRecDepth 100000
namespace Go.Proofs.Ytnajiilcdcffdaa.miniOne
open Go.ChangeShapes Go.WideShapes Go.ChangeAt Go.RowKit Go.Vm
set_option linter.unusedVariables false
theorem own : ownKnob Try.prog.godebug = none := by kernel_rfl
theorem laidOut : laidOutB Try.prog = true := by kernel_rfl
theorem lifted (os : Os) (started : os.Started) (H : Type) (enc : TypeId × Value → H) :
    ReturnsInHanded {} Try.checked os 5 .any (Rows.miniOneSpec.pre6 enc Try.prog Try.f5 Rows.miniOneRow.domain false) (Rows.miniOneSpec.post enc Try.prog Try.f5 false true false false) := by
  refine returnsInHanded_of_change_sized (C := Try.checked) own started (by kernel_rfl) Try.func5
    (ChangeSpec.witness6 (enc := enc) (C := Try.checked) false ⟨#[], #[TD.valOf (Go.Vm.Ytnajiilcdcffdaa.tDFA) (TD.zcells (Go.Vm.Ytnajiilcdcffdaa.tDFA)), TD.valOf (.int .u8) (TD.zcells (.int .u8))], []⟩ 8 (by kernel_rfl) (by kernel_rfl) (by kernel_rfl) (by kernel_rfl)) ?_
  intro W base args ds gs before hval0 hW hcnd hsz0 _
  have hval : ∀ (j : Nat) t v, Try.f5.params[j]? = some t → args[j]? = some v → Value.okWide Try.prog W .any base t v := hval0
  have hW' := hW
  obtain ⟨p, q, hA0, hV, rfl, hfz, hnd⟩ := hW
  have hA : DataW.TrodAll enc Try.prog W 0 (fun _ => true) true Try.f5.params.toList args.toList ds p := hA0
  rw [Try.params5] at hA hval
  obtain ⟨v0, vs0, d0, ds0, p0, q0, hargs, rfl, rfl, h0, r0⟩ := trodAll_cons hA
  obtain ⟨v1, vs1, d1, ds1, p1, q1, rfl, rfl, rfl, h1, r1⟩ := trodAll_cons r0
  obtain ⟨rfl, rfl, rfl⟩ := trodAll_nil r1
  obtain rfl : args = #[v0, v1] := by cases args; simp_all
  obtain ⟨rfl, rfl⟩ := trodVars_none hV
  have k0 := h0
  have lt0 : ∀ x ∈ p0, x.block < W.heap.size := by obtain ⟨m, hm⟩ := k0; exact DataW.trod_lt m _ _ _ hm
  obtain ⟨x0, a0, f0⟩ := arg_is (td := Go.Vm.Ytnajiilcdcffdaa.tDFA) (by kernel_rfl) (by kernel_rfl) (hval 0 26 v0 rfl rfl) h0
  have k1 := h1
  have lt1 : ∀ x ∈ p1, x.block < W.heap.size := by obtain ⟨m, hm⟩ := k1; exact DataW.trod_lt m _ _ _ hm
  obtain ⟨x1, a1, f1⟩ := arg_is (td := .int .u8) (by kernel_rfl) (by kernel_rfl) (hval 1 5 v1 rfl rfl) h1
  obtain ⟨n, outs, hC⟩ := Go.Vm.Ytnajiilcdcffdaa.pureMiniOne f0 f1
  refine (law_calls (Go.Vm.Ytnajiilcdcffdaa.serves n) (f := 5) (vs := [v0, v1]) (w := W) rfl hC (.cons a0 (.cons a1 .nil))).mono fun e W' ⟨he, bel⟩ => ?_
  subst he
  exact ⟨_, rfl, _, _, _, [], _, [], hW', trodAll_mk1 (shut_bool Try.underlying4 _), (trodAll_cons_mk (Below.trod laidOut (by kernel_rfl) (of_decide_eq_true (by kernel_rfl)) k0 bel lt0) (trodAll_cons_mk (Below.trod laidOut (by kernel_rfl) (of_decide_eq_true (by kernel_rfl)) k1 bel lt1) trodAll_mk0)), rfl, bel.frame _, fun h => by cases h⟩
theorem over : Rows.miniOneRow.holds Try.pinned (OpenSpec.ofChange Rows.miniOneSpec) :=
  OpenClaim.holds_of_wide 5 Try.f5 rfl rfl rfl rfl rfl rfl rfl ⟨rfl, rfl, rfl, rfl, rfl⟩ rfl rfl rfl rfl rfl (by kernel_rfl) Try.func5 (by kernel_rfl)
    (of_decide_eq_true (by kernel_rfl)) (by unfold Func.isWrapper; first | (rw [if_pos (by decide +kernel)]; kernel_rfl) | (rw [if_neg (by decide +kernel)]; exact ⟨rfl, rfl⟩))
    (fun os started H enc _ => lifted os started H enc)
theorem proved : Rows.MiniOneSaid := over
end Go.Proofs.Ytnajiilcdcffdaa.miniOne
namespace Go.Proofs.Ytnajiilcdcffdaa
/-- The law, for the claim. -/
theorem miniOne_holds : Rows.MiniOneSaid := miniOne.proved
end Go.Proofs.Ytnajiilcdcffdaa
#print axioms Go.Proofs.Ytnajiilcdcffdaa.miniOne_holds
end
