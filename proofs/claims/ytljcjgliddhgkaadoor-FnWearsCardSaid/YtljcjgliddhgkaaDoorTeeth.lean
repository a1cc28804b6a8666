/- Rows of teeth: as a kind; the laws' own functions on them. The code of a train and its teeth: contracts. -/
import Derived.Test.YtljcjgliddhgkaaDoorPair
import Derived.Test.YtljcjgliddhgkaaDoorTooth2
import Derived.Test.YtljcjgliddhgkaaDoorTrain
import Derived.Test.YtljcjgliddhgkaaDoorTooth4
namespace Go.Proofs.YtljcjgliddhgkaaDoor
open Go.RowKit Ieee
open Go.Proofs.YtljcjgliddhgkaaDoorW.PrintWords
set_option maxRecDepth 100000

/-- A whole number of eight bits. -/
def ki8 : Kd Int where
  sz := 1
  E := []
  K := fun _ x cs => cs = [.int .i8 x] ∧ -128 ≤ x ∧ x ≤ 127
  M := fun _ _ _ x cs => cs = [.int .i8 x] ∧ -128 ≤ x ∧ x ≤ 127
  K_len := by rintro w x cs ⟨rfl, _⟩; rfl
  K_one := by rintro w x cs ⟨rfl, _⟩ u hu; rw [List.mem_singleton.1 hu]; rfl
  K_below := fun _ h => h
  K_of_M := fun h => h
  M_mono := fun _ h => h
  M_bound := fun h => h
  M_move := fun _ h => h
  M_lower := fun _ h => h
/-- A tooth: how hard, both wears, the side. -/
def kT : Kd (Nat × Nat × Nat × Int) := Kd.pair kf (Kd.pair kf (Kd.pair kf ki8))
def i8B (s : Int) : Prop := -128 ≤ s ∧ s ≤ 127
theorem kT_open {w : World} {x : Nat × Nat × Nat × Int} {cs : List Value} (h : kT.K w x cs) : ∃ r a b, cs = [.float .f32 r, .float .f32 a, .float .f32 b, .int .i8 x.2.2.2] ∧ FV r x.1 ∧ FV a x.2.1 ∧ FV b x.2.2.1 ∧ i8B x.2.2.2 := by
  obtain ⟨_, _, rfl, ⟨r, rfl, hr⟩, _, _, rfl, ⟨a, rfl, ha⟩, _, _, rfl, ⟨b, rfl, hb⟩, rfl, h1, h2⟩ := h
  exact ⟨r, a, b, rfl, hr, ha, hb, h1, h2⟩
theorem kT_openM {w : World} {base : Nat} {ok : Nat → Prop} {x : Nat × Nat × Nat × Int} {cs : List Value} (h : kT.M w base ok x cs) : ∃ r a b, cs = [.float .f32 r, .float .f32 a, .float .f32 b, .int .i8 x.2.2.2] ∧ FV r x.1 ∧ FV a x.2.1 ∧ FV b x.2.2.1 ∧ i8B x.2.2.2 := kT_open (w := w) (kT.K_of_M h)
theorem kT_mkM (w : World) (base : Nat) (ok : Nat → Prop) {x a b r p q : Nat} {s : Int} (hr : FV r x) (ha : FV p a) (hb : FV q b) (hs : i8B s) : kT.M w base ok (x, a, b, s) [.float .f32 r, .float .f32 p, .float .f32 q, .int .i8 s] :=
  ⟨[.float .f32 r], [.float .f32 p, .float .f32 q, .int .i8 s], rfl, ⟨r, rfl, hr⟩, [.float .f32 p], [.float .f32 q, .int .i8 s], rfl, ⟨p, rfl, ha⟩, [.float .f32 q], [.int .i8 s], rfl, ⟨q, rfl, hb⟩, rfl, hs.1, hs.2⟩
def zT : Nat × Nat × Nat × Int := (0, 0, 0, 0)
theorem at_kT {w : World} {A : Option Addr} {n : Nat} {l : List (Nat × Nat × Nat × Int)} (h : Kd.C kT w A n l) (i : Nat) (hi : i < n) :
    ∃ b off r p q s, A = some ⟨b, off, none⟩ ∧ b < w.heap.size ∧ w.cell? ⟨b, off + i * 4, none⟩ = some (.float .f32 r) ∧ w.cell? ⟨b, off + i * 4 + 1, none⟩ = some (.float .f32 p) ∧ w.cell? ⟨b, off + i * 4 + 2, none⟩ = some (.float .f32 q) ∧ w.cell? ⟨b, off + i * 4 + 3, none⟩ = some (.int .i8 s) ∧ l.getD i zT = (cn r, cn p, cn q, s) ∧ r < 4294967296 ∧ p < 4294967296 ∧ q < 4294967296 ∧ i8B s := by
  obtain ⟨b, off, c, e, hb, _, hK, hc⟩ := C_at h (show 0 < kT.sz by decide) zT i hi
  obtain ⟨r, p, q, rfl, hr, hp, hq, h8⟩ := kT_open hK
  refine ⟨b, off, r, p, q, _, e, hb, hc 0 _ rfl, hc 1 _ rfl, hc 2 _ rfl, hc 3 _ rfl, ?_, hr.2, hp.2, hq.2, h8⟩
  rw [hr.1, hp.1, hq.1]
theorem info_tooth : (Tryd.prog.info? 28).map (fun i => (i.zero, i.size, i.bytes)) = some (some (.agg #[.float .f32 0, .float .f32 0, .float .f32 0, .int .i8 0]), 4, 16) := by kernel_rfl

end Go.Proofs.YtljcjgliddhgkaaDoor
namespace Go.Proofs.YtljcjgliddhgkaaDoor
open Go.RowKit Ieee
open Go.Proofs.YtljcjgliddhgkaaDoorW.PrintWords
set_option maxRecDepth 100000
attribute [local irreducible] wpRel

abbrev Tth := Nat × Nat × Nat × Int
def okT (x : Tth) : Bool := okTooth x.1 x.2.1 x.2.2.1 x.2.2.2
theorem okTooth_cn {r p q : Nat} (hr : r < 4294967296) (hp : p < 4294967296) (hq : q < 4294967296) (s : Int) : okTooth r p q s = okT (cn r, cn p, cn q, s) := by
  unfold okT okTooth
  rw [fin_v (⟨rfl, hr⟩ : FV r (cn r)) (by decide) (by decide), part_v (⟨rfl, hp⟩ : FV p (cn p)), part_v (⟨rfl, hq⟩ : FV q (cn q))]
/-- The code of a train (a: valid), teeth (b: valid), numbers (f: as told) and lengths (e: equal). -/
def codeT (a b f e : Bool) : Int := if a = true then (if b = true then (if f = true then (if e = true then 0 else 4) else 2) else 1) else 1

end Go.Proofs.YtljcjgliddhgkaaDoor
