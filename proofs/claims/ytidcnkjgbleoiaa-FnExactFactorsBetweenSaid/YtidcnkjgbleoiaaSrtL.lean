/- What the library's sort makes of numbers from nought up, as a list: plain. -/
import Derived.Test.YtidcnkjgbleoiaaFacP
namespace Go.Proofs.Ytidcnkjgbleoiaa
open Ieee
set_option maxRecDepth 100000
def srtL (l : List Nat) : List Nat := (Go.Sort.sort ltF l.toArray).toList
theorem srtL_spec {l : List Nat} (hl : allNn l) : (srtL l).Perm l ∧ (srtL l).Pairwise (· ≤ ·) := by
  obtain ⟨⟨hz, _, hp⟩, hs⟩ := Go.Sort.sort_sorts ltF swo_ltF l.toArray
  have e1 : l.toArray.extract 0 l.toArray.size = l.toArray := by simp
  have e2 : (Go.Sort.sort ltF l.toArray).extract 0 l.toArray.size = Go.Sort.sort ltF l.toArray := by rw [← hz]; simp
  rw [e1, e2] at hp
  have hperm : (srtL l).Perm l := by simpa [srtL] using hp
  refine ⟨hperm, ?_⟩
  have hn : allNn (srtL l) := fun x hx => hl x (hperm.mem_iff.1 hx)
  have hlen : (srtL l).length = l.toArray.size := by unfold srtL; simpa using hz
  rw [List.pairwise_iff_getElem]
  intro i j hi hj hij
  have h := hs i j (Nat.zero_le _) hij (by omega)
  have g : ∀ k (hk : k < (srtL l).length), (Go.Sort.sort ltF l.toArray)[k]! = (srtL l)[k] := fun k hk => by
    have hk' : k < (Go.Sort.sort ltF l.toArray).size := by rw [hz]; omega
    rw [getElem!_pos _ k hk']
    simp [srtL]
  rw [g i hi, g j hj, ltF_nn (hn _ (List.getElem_mem hj)) (hn _ (List.getElem_mem hi))] at h
  simpa using h
theorem srtL_cpt {l : List Nat} (hl : allNn l) : cpt (srtL l) = insA l [] := cpt_insA hl (srtL_spec hl).1 (srtL_spec hl).2
end Go.Proofs.Ytidcnkjgbleoiaa
