/- The library's table of the powers of ten, out of a row's condition. -/
import Derived.Lib.LaidTab
import Derived.Lib.ItoaNum
import Derived.MakeChecks
import Derived.KernelRfl
import Derived.Test.YtdekolkngokmpaaDoorRows
import Derived.Test.YtdekolkngokmpaaDoorProg
namespace Go.Proofs.YtdekolkngokmpaaDoor
open Go.Lib
theorem tabIs_vars {P : Program} {W : World} {name : String} {k : IntKind} {zs : List Int} {g : Nat} {t e : TypeId} {n : Nat}
    (hg : P.globalNamed name = some g) (hty : (P.globals[g]?).map (·.type) = some t) (ht : P.underlying t = some (.array n e)) (he : P.underlying e = some (.int k)) (hce : P.cellsOf e = 1) (hct : P.cellsOf t = n) :
    ∀ (l : List (String × DataW Unit)) (ps : List MemPlace) (i : Nat), DataW.LaidVars P W l ps → l[i]? = some (name, tabData k zs) → TabIs P W name k zs
  | [], _, i, _, hi => by simp at hi
  | (m, d) :: l, ps, 0, h, hi => by
    simp only [List.getElem?_cons_zero, Option.some.injEq, Prod.mk.injEq] at hi
    obtain ⟨rfl, rfl⟩ := hi
    obtain ⟨g', t', cs, fuel, p, q, hg', ht', hvar, hd, _, _⟩ := h
    obtain rfl := Option.some.inj (hg.symm.trans hg')
    obtain rfl := Option.some.inj (hty.symm.trans ht')
    unfold TabIs
    rw [hvar, ← cells_of_tab ht he hce hct hd]
  | (m, d) :: l, ps, i + 1, h, hi => by
    obtain ⟨g', t', cs, fuel, p, q, _, _, _, _, hr, _⟩ := h
    exact tabIs_vars hg hty ht he hce hct l q i hr (by simpa using hi)
theorem tab_pow10 {W : World} {l : List (String × DataW Unit)} (hp : (l.all fun x => x.2.handleName?.isNone) = true) (h : laidMetH Tryd.prog l W) (i : Nat) (hi : l[i]? = some ("internal/strconv.uint64pow10", tabData .u64 pow10Tab)) :
    TabIs Tryd.prog W "internal/strconv.uint64pow10" .u64 pow10Tab := by
  rw [MakeChecks.laidMetH_plain _ _ _ hp] at h
  obtain ⟨ps, hv, _⟩ := h
  exact tabIs_vars (g := 0) (t := 83) (e := 55) (n := 20) (by kernel_rfl) (by kernel_rfl) Tryd.underlying83 Tryd.underlying55 (by kernel_rfl) (by kernel_rfl) l ps i hv hi
end Go.Proofs.YtdekolkngokmpaaDoor
