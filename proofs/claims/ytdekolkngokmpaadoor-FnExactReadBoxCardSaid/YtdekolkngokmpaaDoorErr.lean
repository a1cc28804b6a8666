/- The library's two sentinel errors of reading numbers, out of a row's condition. -/
import Derived.Test.YtdekolkngokmpaaDoorCntA
import Derived.LaidLaws
import Derived.MakeChecks
import Derived.Test.YtdekolkngokmpaaDoorRows
namespace Go.Proofs.YtdekolkngokmpaaDoor
open Go.Lib
theorem iface_vars {P : Program} {W : World} {name : String} {g : Nat} {t : TypeId} {ms : Array (String × TypeId)}
    (hg : P.globalNamed name = some g) (hty : (P.globals[g]?).map (·.type) = some t) (ht : P.underlying t = some (.interface ms)) :
    ∀ (l : List (String × DataW Unit)) (ps : List MemPlace) (i : Nat) (nm : String) (d : DataW Unit), DataW.LaidVars P W l ps → l[i]? = some (name, .iface nm d) → ∃ u v, W.cell? ⟨g, 0, none⟩ = some (.iface u v)
  | [], _, i, _, _, _, hi => by simp at hi
  | (m, x) :: l, ps, 0, nm, d, h, hi => by
    simp only [List.getElem?_cons_zero, Option.some.injEq, Prod.mk.injEq] at hi
    obtain ⟨rfl, rfl⟩ := hi
    obtain ⟨g', t', cs, fuel, p, q, hg', ht', hvar, hd, _, _⟩ := h
    obtain rfl := Option.some.inj (hg.symm.trans hg')
    obtain rfl := Option.some.inj (hty.symm.trans ht')
    obtain ⟨f1, u, v, e, _⟩ := iface_of_trod ht hd
    have h0 := World.var?_cell hg hvar 0
    have hcs : cs = #[.iface u v] := by cases cs; simp_all
    rw [hcs] at h0
    exact ⟨u, v, by simpa using h0⟩
  | (m, x) :: l, ps, i + 1, nm, d, h, hi => by
    obtain ⟨g', t', cs, fuel, p, q, _, _, _, _, hr, _⟩ := h
    exact iface_vars hg hty ht l q i nm d hr (by simpa using hi)
theorem errs_laid {W : World} {l : List (String × DataW Unit)} (hp : (l.all fun x => x.2.handleName?.isNone) = true) (h : laidMetH Tryd.prog l W) (i j : Nat) {nm nm' : String} {d d' : DataW Unit}
    (hi : l[i]? = some ("strconv.ErrSyntax", .iface nm d)) (hj : l[j]? = some ("strconv.ErrRange", .iface nm' d')) : ErrsW W := by
  rw [MakeChecks.laidMetH_plain _ _ _ hp] at h
  obtain ⟨ps, hv, _⟩ := h
  obtain ⟨u, v, h1⟩ := iface_vars (g := 2) (t := 50) (by kernel_rfl) (by kernel_rfl) Tryd.underlying50 l ps i nm d hv hi
  obtain ⟨u', v', h2⟩ := iface_vars (g := 3) (t := 50) (by kernel_rfl) (by kernel_rfl) Tryd.underlying50 l ps j nm' d' hv hj
  exact ⟨_, _, h1, .inr ⟨u, v, rfl⟩, h2, .inr ⟨u', v', rfl⟩⟩
end Go.Proofs.YtdekolkngokmpaaDoor
