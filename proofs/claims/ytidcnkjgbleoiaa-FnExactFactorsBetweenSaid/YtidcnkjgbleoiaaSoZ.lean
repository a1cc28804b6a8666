/- The library's sort at float32: the top (turned from the worked walk at int). -/
import Derived.Test.YtidcnkjgbleoiaaSo13
import Derived.Test.YtidcnkjgbleoiaaSoA
import Derived.Test.YtidcnkjgbleoiaaSoA6
import Derived.Test.YtidcnkjgbleoiaaSo7
import Derived.Test.YtidcnkjgbleoiaaSo11
import Derived.Test.YtidcnkjgbleoiaaSoC
import Derived.Test.YtidcnkjgbleoiaaSoC4
import Derived.Test.YtidcnkjgbleoiaaShelf
import Derived.Sort.WalkA14
import Derived.Sort.AssemblyPlain
namespace Go.Proofs.Ytidcnkjgbleoiaa.Srt
open Go.RowKit Go.Sort
set_option maxRecDepth 100000
def pdqWalk_int : Prop := ∀ (blk off cap a b limit : Nat) (d : Array Nat) (w : World), Holds (Value.float .f32) w blk off d → blk < w.heap.size → a ≤ b → b ≤ d.size → d.size < 4611686018427387904 → limit < 4611686018427387904 → Below ltF a b d →
  Calls Try.prog 40 #[.slice (some ⟨blk, off, none⟩) d.size cap, .int .i64 a, .int .i64 b, .int .i64 limit] w fun e w' =>
    e = .returned (.tuple #[]) ∧ ∃ n os, w' = grow (putRow (Value.float .f32) (Sort.ahead w n) blk off (Sort.pdq ltF d a b limit true true)) os
set_option maxRecDepth 100000 in
theorem wk_Sort (hpdq : pdqWalk_int) (blk off cap : Nat) (d : Array Nat) (w : World) (hH : Holds (Value.float .f32) w blk off d) (hblk : blk < w.heap.size) (hsz : d.size < 4611686018427387904) :
    Calls Try.prog 36 #[.slice (some ⟨blk, off, none⟩) d.size cap] w fun e w' => e = .returned (.tuple #[]) ∧ ∃ n os, w' = grow (putRow (Value.float .f32) (Sort.ahead w n) blk off (Sort.sort ltF d)) os := by
  have HH : Hid (Holds (Value.float .f32) w blk off d) := hH
  clear hH
  have hLen : ∀ w, Calls Try.prog 41 #[.int .u64 (d.size : Int)] w fun e w' => e = .returned (.int .i64 (bitsLen d.size : Nat)) ∧ w' = w := fun w => by
    have h := Try.bits_Len (d.size : Int) w (by omega) (by omega)
    rwa [Int.toNat_natCast, bitLen_eq _ (by omega)] at h
  have hk : bitsLen d.size ≤ 62 := (bitsLen_le_iff d.size 62).2 (by omega)
  go_enter Try.func36, Try.ntmps36
  go_wp2_with (first
    | (go_at_call 41; refine (hLen _).mono ?_; rintro e w' ⟨rfl, rfl⟩)
    | (go_at_call 40; refine (hpdq blk off cap 0 d.size (bitsLen d.size) d _ (by exact HH.out) (by exact hblk) (Nat.zero_le _) (Nat.le_refl _) hsz (by omega) (Or.inl rfl)).mono ?_; rintro e w' ⟨rfl, n, os, rfl⟩))
  go_end0
  exact ⟨rfl, n, os, rfl⟩
theorem callees13 : Callees13 where
  ins := wk_insertionSort
  brk := wk_breakPatterns
  piv := wk_choosePivot
  par := wk_partialInsertionSort
  peq := wk_partitionEqualOrdered
  prt := wk_partitionOrdered
theorem plain13 : Plain13 where
  swo := swo_ltF
  ins := insertionSort_holds
  par := partialInsertionSort_holds
  prt := partition_holds _
  peq := partitionEqual_holds _
  pdq := pdq_sorts _
theorem pdqWalkF : pdqWalk_int := fun blk off cap a b limit d w hH hb hab hbd hsz hl hB =>
  wk_pdqsort callees13 plain13 (b - a + 1) blk off cap a b limit d w (by omega) hH hb hab hbd hsz hl hB
theorem sort_top (blk off cap : Nat) (d : Array Nat) (w : World) (hH : Holds (Value.float .f32) w blk off d) (hblk : blk < w.heap.size) (hsz : d.size < 4611686018427387904) :
    Calls Try.prog 36 #[.slice (some ⟨blk, off, none⟩) d.size cap] w fun e w' => e = .returned (.tuple #[]) ∧ ∃ n os, w' = grow (putRow (Value.float .f32) (Sort.ahead w n) blk off (Sort.sort ltF d)) os :=
  wk_Sort pdqWalkF blk off cap d w hH hblk hsz
end Go.Proofs.Ytidcnkjgbleoiaa.Srt
