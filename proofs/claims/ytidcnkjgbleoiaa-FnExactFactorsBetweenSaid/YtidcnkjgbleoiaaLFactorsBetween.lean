/- The law FnExactFactorsBetween: for every input that can be read the Go function returns true and leaves its arguments as they were. Conditions: none beyond the row's own. -/
import Derived.Test.YtidcnkjgbleoiaaFb
import Derived.Test.YtidcnkjgbleoiaaOpenI
import Derived.ProofKit
import Derived.OpenShut
import Derived.ShutString
import Derived.ChangeOld
import Derived.Below
namespace Go.Proofs.Ytidcnkjgbleoiaa.fnExactFactorsBetween
open Go.ChangeShapes Go.WideShapes Go.ChangeAt Go.RowKit
open Go.ChangeMaps (open_string shut_string)
set_option linter.unusedVariables false
set_option maxRecDepth 100000
theorem own : ownKnob Try.prog.godebug = none := by kernel_rfl
theorem laidOut : laidOutB Try.prog = true := by kernel_rfl
theorem lifted (os : Os) (started : os.Started) (H : Type) (enc : TypeId × Value → H) :
    ReturnsInHanded {} Try.checked os 5 .any (Rows.fnExactFactorsBetweenSpec.pre6 enc Try.prog Try.f5 Rows.fnExactFactorsBetweenRow.domain false) (Rows.fnExactFactorsBetweenSpec.post enc Try.prog Try.f5 false true false false) := by
  refine returnsInHanded_of_change (C := Try.checked) own started (by kernel_rfl) Try.func5
    (ChangeSpec.witness6 (enc := enc) (C := Try.checked) false ⟨#[], #[.slice none 0 0, .float .f32 0, .float .f32 0], []⟩ 8 (by kernel_rfl) (by kernel_rfl) (by kernel_rfl) (by kernel_rfl)) ?_
  intro W base args ds gs before hval0 hW hcnd _
  have hval : ∀ (j : Nat) t v, Try.f5.params[j]? = some t → args[j]? = some v → Value.okWide Try.prog W .any base t v := hval0
  have hW' := hW
  obtain ⟨p, q, hA0, hV, rfl, hfz, hnd⟩ := hW
  have hA : DataW.TrodAll enc Try.prog W 0 (fun _ => true) true Try.f5.params.toList args.toList ds p := hA0
  rw [Try.params5] at hA hval
  obtain ⟨v0, vs0, d0, ds0, p0, q0, hargs, rfl, rfl, h0, r0⟩ := trodAll_cons hA
  obtain ⟨v1, vs1, d1, ds1, p1, q1, rfl, rfl, rfl, h1, r1⟩ := trodAll_cons r0
  obtain ⟨v2, vs2, d2, ds2, p2, q2, rfl, rfl, rfl, h2, r2⟩ := trodAll_cons r1
  obtain ⟨rfl, rfl, rfl⟩ := trodAll_nil r2
  obtain rfl : args = #[v0, v1, v2] := by cases args; simp_all
  obtain ⟨rfl, rfl⟩ := trodVars_none hV
  have k0 := h0
  have lt0 : ∀ x ∈ p0, x.block < W.heap.size := by obtain ⟨m, hm⟩ := k0; exact DataW.trod_lt m _ _ _ hm
  have k1 := h1
  have lt1 : ∀ x ∈ p1, x.block < W.heap.size := by obtain ⟨m, hm⟩ := k1; exact DataW.trod_lt m _ _ _ hm
  have k2 := h2
  have lt2 : ∀ x ∈ p2, x.block < W.heap.size := by obtain ⟨m, hm⟩ := k2; exact DataW.trod_lt m _ _ _ hm
  obtain ⟨A0, c0, ps0, rfl, lc0, lm0, ln0, hr0⟩ := open_i16 (hval 0 22 v0 rfl rfl) h0
  obtain ⟨x1, rfl, _, _, wx1⟩ := open_float Try.underlying32 (hval 1 32 v1 rfl rfl) h1
  have wy1 : x1 < 4294967296 := by simpa [Lit.wf] using wx1
  obtain ⟨x2, rfl, _, _, wx2⟩ := open_float Try.underlying32 (hval 2 32 v2 rfl rfl) h2
  have wy2 : x2 < 4294967296 := by simpa [Lit.wf] using wx2
  clear hA0 hval0
  refine (law_factorsBetween A0 c0 ps0 lc0 lm0 ln0 x1 wy1 x2 wy2 W hr0).mono fun e W' ⟨he, bel⟩ => ?_
  subst he
  exact ⟨_, rfl, _, _, _, [], _, [], hW', trodAll_mk1 (shut_bool Try.underlying4 _), (trodAll_cons_mk (Below.trod laidOut (by kernel_rfl) (of_decide_eq_true (by kernel_rfl)) k0 bel lt0) (trodAll_cons_mk (Below.trod laidOut (by kernel_rfl) (of_decide_eq_true (by kernel_rfl)) k1 bel lt1) (trodAll_cons_mk (Below.trod laidOut (by kernel_rfl) (of_decide_eq_true (by kernel_rfl)) k2 bel lt2) trodAll_mk0))), rfl, bel.frame _, fun h => by cases h⟩
theorem named_ : Try.pinned.checked.prog.funcNamed Rows.fnExactFactorsBetweenRow.func = some 5 := by kernel_rfl
theorem closed_ : joinedFacts Try.pinned.checked.prog 5 Try.f5 Rows.fnExactFactorsBetweenSpec Rows.fnExactFactorsBetweenRow = true := by kernel_rfl
theorem inst_ : Try.f5.isInstance Try.pinned.checked.prog Rows.fnExactFactorsBetweenRow.origin Rows.fnExactFactorsBetweenRow.targs := of_decide_eq_true (by kernel_rfl)
theorem wrap_ : Try.f5.isWrapper Try.pinned.checked.prog Rows.fnExactFactorsBetweenRow.wrapper Rows.fnExactFactorsBetweenRow.mainSum := by unfold Func.isWrapper; rw [if_neg (of_decide_eq_false (by kernel_rfl))]; exact ⟨rfl, rfl⟩
theorem over : Rows.fnExactFactorsBetweenRow.holds Try.pinned (OpenSpec.ofChange Rows.fnExactFactorsBetweenSpec) :=
  OpenClaim.holds_of_wide 5 Try.f5 rfl rfl rfl rfl rfl rfl rfl ⟨rfl, rfl, rfl, rfl, rfl⟩ rfl rfl rfl rfl rfl named_ Try.func5 closed_ inst_ wrap_
    (fun os started H enc _ => lifted os started H enc)
theorem proved : Rows.FnExactFactorsBetweenSaid := over
#print axioms proved
end Go.Proofs.Ytidcnkjgbleoiaa.fnExactFactorsBetween
