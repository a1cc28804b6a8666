/- How the walk takes single floats: comparisons as plain Bools, the four operations, conversions, in a plain region and in one that draws. -/
import Derived.Test.YthdmfmhhnacgfaaFl
import Derived.Test.YthdmfmhhnacgfaaRel
namespace Go.Proofs.Ythdmfmhhnacgfaa
open Go.RowKit Ieee

@[go_sem high] theorem bin_leq (t : TypeId) (a b : Nat) : binOp .leq t (.float .f32 a) (.float .f32 b) = pure (.bool (fle a b)) := binOp_float_cmp_leq t .f32 a b
@[go_sem high] theorem bin_lss (t : TypeId) (a b : Nat) : binOp .lss t (.float .f32 a) (.float .f32 b) = pure (.bool (flt a b)) := binOp_float_cmp_lss t .f32 a b
@[go_sem high] theorem bin_eql (t : TypeId) (a b : Nat) : binOp .eql t (.float .f32 a) (.float .f32 b) = pure (.bool (feq a b)) := binOp_float_cmp_eql t .f32 a b
@[go_sem high] theorem bin_neq (t : TypeId) (a b : Nat) : binOp .neq t (.float .f32 a) (.float .f32 b) = pure (.bool (!feq a b)) := binOp_float_cmp_neq t .f32 a b
theorem single_swap (a b : Nat) : single.order b a = (single.order a b).map Ordering.swap := order_swap _ _
@[go_sem high] theorem bin_gtr (t : TypeId) (a b : Nat) : binOp .gtr t (.float .f32 a) (.float .f32 b) = pure (.bool (flt b a)) := by
  rw [binOp_float_cmp_gtr]
  have h : (FloatKind.f32.format.order a b == some .gt) = flt b a := by
    show (single.order a b == some .gt) = (single.order b a == some .lt)
    rw [single_swap a b]
    cases single.order a b with
    | none => rfl
    | some o => cases o <;> rfl
  rw [h]
@[go_sem high] theorem bin_geq (t : TypeId) (a b : Nat) : binOp .geq t (.float .f32 a) (.float .f32 b) = pure (.bool (fle b a)) := by
  rw [binOp_float_cmp_geq]
  have h : (FloatKind.f32.format.order a b == some .gt || FloatKind.f32.format.order a b == some .eq) = fle b a := by
    show (single.order a b == some .gt || single.order a b == some .eq) = (single.order b a == some .lt || single.order b a == some .eq)
    rw [single_swap a b]
    cases single.order a b with
    | none => rfl
    | some o => cases o <;> rfl
  rw [h]

@[go_sem] theorem relUpon_value {P : Program} {C : World → Prop} {D : Option Tmp → Value → Prop} {dst : Option Tmp} {K : Value → Prop} {u : Value} {w : World} : relUpon P C D dst K (.ok (.value u) w) = (C w ∧ K u) := rfl
@[go_sem] theorem relUpon_skip {P : Program} {C : World → Prop} {D : Option Tmp → Value → Prop} {dst : Option Tmp} {K : Value → Prop} {w : World} : relUpon P C D dst K (.ok .skip w) = (C w ∧ K undef) := rfl
@[go_sem] theorem relUpon_enter {P : Program} {C : World → Prop} {D : Option Tmp → Value → Prop} {dst : Option Tmp} {K : Value → Prop} {f : FuncId} {args : Array Value} {w : World} :
    relUpon P C D dst K (.ok (.enter f args) w) = (Calls P f args w (fun e w'' => ∃ v, e = .returned v ∧ D dst v ∧ C w'') ∧ ∀ v, D dst v → K v) := rfl

/-- w after some draws. -/
def Drew (w w' : World) : Prop := ∃ n, w' = w.drewN n
theorem Drew.refl (w : World) : Drew w w := ⟨0, rfl⟩
theorem Drew.mk (w : World) (n : Nat) : Drew w (w.drewN n) := ⟨n, rfl⟩
theorem Drew.more {w w' : World} (h : Drew w w') (n : Nat) : Drew w (w'.drewN n) := by
  obtain ⟨m, rfl⟩ := h
  exact ⟨m + n, World.drewN_drewN w m n⟩
theorem Drew.trans {a b c : World} (h : Drew a b) (k : Drew b c) : Drew a c := by
  obtain ⟨n, rfl⟩ := k
  exact h.more n
theorem Drew.below {w w' : World} (h : Drew w w') (B : Nat) : Below B w w' := by
  obtain ⟨n, rfl⟩ := h
  exact ⟨rfl, rfl, rfl, Nat.le_refl _, fun _ _ => rfl⟩

/-- A region that draws, in the class of draws: of a world that has been drawn from already, too. -/
theorem region_drew {P : Program} {id : Nat} {Q : Exit → Act → World → Prop} {a : Act} {w : World} {l : List Oper} (D : Option Tmp → Value → Prop)
    (hm : P.follows .mixedOrders = true) (hB : Region.lexB .any l.toArray = true)
    (h : wpRel P l.toArray (Drew w) D (fun a' => ∀ w', Drew w w' → Q .normal a' w') l a) : (Code.region id l.toArray true).wp P Q a w :=
  wp_region_rel (Drew w) D hm hB (Drew.mk w 1) h
theorem region_drewN {P : Program} {id : Nat} {Q : Exit → Act → World → Prop} {a : Act} {w : World} {k : Nat} {l : List Oper} (D : Option Tmp → Value → Prop)
    (hm : P.follows .mixedOrders = true) (hB : Region.lexB .any l.toArray = true)
    (h : wpRel P l.toArray (Drew w) D (fun a' => ∀ w', Drew w w' → Q .normal a' w') l a) : (Code.region id l.toArray true).wp P Q a (w.drewN k) :=
  wp_region_rel (Drew w) D hm hB (Drew.mk w (k + 1)) h
theorem region_tail {P : Program} {id : Nat} {Q : Exit → Act → World → Prop} {a : Act} {w : World} {l : List Oper} (D : Option Tmp → Value → Prop) (n : Nat)
    (hm : P.follows .mixedOrders = true) (hB : Region.lexTailB .any l.toArray n = true)
    (h : wpRel P l.toArray (Drew w) D (fun a' => ∀ w', Drew w w' → wpList P l.toArray Q (l.drop n) a' w') (l.take n) a) : (Code.region id l.toArray true).wp P Q a w :=
  wp_region_rel_tail (Drew w) D n hm hB (Drew.mk w 1) h
theorem region_tailN {P : Program} {id : Nat} {Q : Exit → Act → World → Prop} {a : Act} {w : World} {k : Nat} {l : List Oper} (D : Option Tmp → Value → Prop) (n : Nat)
    (hm : P.follows .mixedOrders = true) (hB : Region.lexTailB .any l.toArray n = true)
    (h : wpRel P l.toArray (Drew w) D (fun a' => ∀ w', Drew w w' → wpList P l.toArray Q (l.drop n) a' w') (l.take n) a) : (Code.region id l.toArray true).wp P Q a (w.drewN k) :=
  wp_region_rel_tail (Drew w) D n hm hB (Drew.mk w (k + 1)) h

theorem relOp_fop {P : Program} {C : World → Prop} {D : Option Tmp → Value → Prop} {o : Oper} {a : Act} {K : Act → Prop} (hC : ∀ w n, C w → C (w.drewN n))
    {op : BinOp} {t yt : TypeId} {x y : Operand} (ho : o.op = .binOp op t x y yt) (hop : op = .add ∨ op = .sub ∨ op = .mul ∨ op = .quo)
    {p q : Nat} (hx : a.eval x = .float .f32 p) (hy : a.eval y = .float .f32 q)
    (h : ∀ r, FV r (fop op (cn p) (cn q)) → K (a.put o.dst (.float .f32 r))) : relOp P C D o a K := by
  intro w hw
  obtain ⟨r, n, hr, hv⟩ := run_fop (P := P) w hop t p q
  have he : (eqGuard op t x y (.float .f32 p) (.float .f32 q)).run P w = .ok () w := by
    rcases hop with rfl | rfl | rfl | rfl <;> rfl
  unfold execOp
  simp only [ho, hx, hy, Sem.run_bind, he, hr, Result.andThen_ok, Sem.run_pure]
  exact ⟨hC w n hw, h r hv⟩

/-- min of two floats, the second one being a number that is no zero: the first one if it is less, else the second one. -/
theorem drewN_Drew_closed (w0 : World) : ∀ w n, Drew w0 w → Drew w0 (w.drewN n) := fun _ n h => h.more n

/-- A call's value in a region: the one value u. -/
def DIs (u : Value) : Option Tmp → Value → Prop := fun _ v => v = u
theorem run_store_f32 (P : Program) (w : World) (a : Addr) (m : Mode) (b : Nat) : (store a (.float .f32 b) m).run P w = stored P w a (.float .f32 b) m := run_store P w a _ m rfl
attribute [go_sem] run_store_f32
end Go.Proofs.Ythdmfmhhnacgfaa
