/- The smaller one of a float and 1, as the machine's built-in gives it. -/
import Derived.Test.YtljcjgliddhgkaaDoorF6
namespace Go.Proofs.YtljcjgliddhgkaaDoor
open Go.RowKit Ieee

def fmin1 (m : Nat) : Nat := if flt 1065353216 m = true then 1065353216 else m

theorem cutm_eq (b : Bool) (x y t : Nat) : Question.cut (.nanMinMax .f32 b x y) t = (t % 2) * 2147483648 + 2139095041 + (t / 2) % 8388607 := by
  simp [Question.cut]

theorem eq_one {x : Nat} (hx : x < 4294967296) (h : single.order x 1065353216 = some .eq) : x = 1065353216 := by
  cases hn : isn x
  · have h1 : (single.read 1065353216).isNaN = false := by decide
    rw [order_skey single single_bi hn h1] at h
    have hk : skey single x = skey single 1065353216 := by
      have : compare (skey single x) (skey single 1065353216) = .eq := by simpa using h
      exact Int.compare_eq_eq.1 this
    exact skey_inj single (show x < 2 * single.signWeight by have e : single.signWeight = 2147483648 := rfl; omega) (by decide) hk (by rw [hk]; decide)
  · rw [order_nl _ hn] at h; cases h

theorem run_min1 {P : Program} (w : World) (ts : Array TypeId) (t : TypeId) {x : Nat} (hx : x < 4294967296) :
    ∃ r n, (Builtin.min_ ts t #[.float .f32 x, .float .f32 1065353216]).run P w = .ok (.float .f32 r) (w.drewN n) ∧ FV r (fmin1 (cn x)) := by
  have hrun : ∀ o, single.order x 1065353216 = o → (Builtin.min_ ts t #[.float .f32 x, .float .f32 1065353216]).run P w =
      (match o with
        | none => (do pure (.float .f32 (← choose (.nanMinMax .f32 false x 1065353216))) : Sem Value)
        | some .lt => pure (.float .f32 x)
        | some .gt => pure (.float .f32 1065353216)
        | some .eq => pure (.float .f32 (if (single.read x).neg then x else 1065353216))).run P w := fun o ho => by
    have e : FloatKind.f32.format.order x 1065353216 = o := ho
    simp only [Builtin.min_, Builtin.min2, List.foldlM, e]
    cases o with
    | none => simp [choose, Sem.run, Question.forced]
    | some o => cases o <;> rfl
  have hsw : flt 1065353216 (cn x) = (single.order x 1065353216 == some .gt) := by
    have e1 : flt 1065353216 (cn x) = flt 1065353216 x := by
      have := flt_cn 1065353216 x
      rwa [show cn 1065353216 = 1065353216 from by decide] at this
    rw [e1]
    unfold flt
    rw [single_swap x 1065353216]
    cases single.order x 1065353216 with
    | none => rfl
    | some o => cases o <;> rfl
  unfold fmin1
  rw [hsw]
  cases ho : single.order x 1065353216 with
  | none =>
    have hn : isn x = true := by
      cases hn : isn x
      · have h1 : (single.read 1065353216).isNaN = false := by decide
        rw [order_skey single single_bi hn h1] at ho; cases ho
      · rfl
    obtain ⟨h4, h5⟩ := cut_word (w.tape w.drawn (.nanMinMax .f32 false x 1065353216))
    refine ⟨Question.cut (.nanMinMax .f32 false x 1065353216) (w.tape w.drawn (.nanMinMax .f32 false x 1065353216)), 1, ?_, ?_, ?_⟩
    · rw [hrun _ ho]
      simp [choose, Sem.run, Question.forced]
      rfl
    · rw [cutm_eq, cn_of_isn h4]
      simp [cn_of_isn hn]
    · rw [cutm_eq]; exact h5
  | some o =>
    cases o with
    | lt => exact ⟨x, 0, by rw [hrun _ ho]; rfl, by simp, hx⟩
    | gt => exact ⟨1065353216, 0, by rw [hrun _ ho]; rfl, by simp; decide, by decide⟩
    | eq =>
      have he := eq_one hx ho
      subst he
      refine ⟨1065353216, 0, ?_, ?_, by decide⟩
      · rw [hrun _ ho]; simp; rfl
      · simp

theorem relOp_min1 {P : Program} {C : World → Prop} {D : Option Tmp → Value → Prop} {o : Oper} {a : Act} {K : Act → Prop} (hC : ∀ w n, C w → C (w.drewN n))
    {ts : Array TypeId} {x y : Operand} (ho : o.op = .call { callee := .builtin .min, args := #[x, y], argTypes := ts })
    {p : Nat} (hp : p < 4294967296) (hx : a.eval x = .float .f32 p) (hy : a.eval y = .float .f32 1065353216)
    (h : ∀ r, FV r (fmin1 (cn p)) → K (a.put o.dst (.float .f32 r))) : relOp P C D o a K := by
  intro w hw
  obtain ⟨r, n, hr, hv⟩ := run_min1 (P := P) w ts o.type hp
  unfold execOp
  simp only [ho, resolve, invoke, builtin, Sem.run_bind, Sem.run_pure, Result.andThen_ok, List.map_toArray, List.map_cons, List.map_nil, hx, hy, hr]
  exact ⟨hC w n hw, h r hv⟩
end Go.Proofs.YtljcjgliddhgkaaDoor
