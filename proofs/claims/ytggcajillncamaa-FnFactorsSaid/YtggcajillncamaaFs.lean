/- Slices of single floats: compared, marked, held; the values of whole numbers. -/
import Derived.Test.YtggcajillncamaaKd
import Derived.Test.YtggcajillncamaaSame
import Derived.Test.YtggcajillncamaaIe
namespace Go.Proofs.Ytggcajillncamaa
open Go.RowKit Ieee
open Go.Proofs.YtggcajillncamaaW.PrintWords
set_option maxRecDepth 100000

/-- Two words of one value, made wide, are the same. -/
theorem wide_same' {a b r s : Nat} (h : cn a = cn b) (hr : FV6 r (widen (cn a))) (hs : FV6 s (widen (cn b))) : cn6 r = cn6 s := by
  rw [hr.1, hs.1, h]
def fi (n : Int) : Nat := floatOfInt .f32 n
theorem fi_isn (n : Int) : isn (fi n) = false := by
  unfold fi floatOfInt FloatKind.nearest isn
  obtain ⟨r, hr, e⟩ := nearest_rung single (decide (n < 0)) n.natAbs 0
  show (single.read (single.nearest _ _ _)).isNaN = false
  rw [e]
  exact word_notNaN single single_bi _ hr
theorem fi_lt (n : Int) : fi n < 4294967296 := by
  unfold fi floatOfInt FloatKind.nearest
  obtain ⟨r, hr, e⟩ := nearest_rung single (decide (n < 0)) n.natAbs 0
  show single.nearest _ _ _ < _
  rw [e]
  unfold Format.word
  have e1 : single.infRung = 2139095040 := rfl
  have e2 : single.signWeight = 2147483648 := rfl
  split <;> omega
theorem fi_FV (n : Int) : FV (fi n) (fi n) := ⟨cn_of_not (fi_isn n), fi_lt n⟩
@[go_sem high] theorem conv_fi {P : Program} (w : World) (src dst : TypeId) (n : Int) (hs : (P.underlying src).isSome = true) (hd : P.underlying dst = some (.float .f32)) :
    (convert src dst (.int .i64 n)).run P w = .ok (.float .f32 (fi n)) w := run_convert_int_float w src dst .i64 .f32 n hs hd

theorem kf_open {w : World} {x : Nat} {cs : List Value} (h : kf.K w x cs) : ∃ r, cs = [.float .f32 r] ∧ FV r x := h
theorem kf_openM {w : World} {base : Nat} {ok : Nat → Prop} {x : Nat} {cs : List Value} (h : kf.M w base ok x cs) : ∃ r, cs = [.float .f32 r] ∧ FV r x := h
theorem kf_mkM (w : World) (base : Nat) (ok : Nat → Prop) {x r : Nat} (hr : FV r x) : kf.M w base ok x [.float .f32 r] := ⟨r, rfl, hr⟩
theorem at_kf {w : World} {A : Option Addr} {n : Nat} {l : List Nat} (h : Kd.C kf w A n l) (i : Nat) (hi : i < n) :
    ∃ b off r, A = some ⟨b, off, none⟩ ∧ b < w.heap.size ∧ w.cell? ⟨b, off + i, none⟩ = some (.float .f32 r) ∧ FV r (l.getD i 0) := by
  obtain ⟨b, off, c, e, hb, _, hK, hc⟩ := C_at h (show 0 < kf.sz by decide) 0 i hi
  obtain ⟨r, rfl, hr⟩ := hK
  have := hc 0 _ rfl
  exact ⟨b, off, r, e, hb, by rw [show off + i = off + i * kf.sz + 0 from by show _ = off + i * 1 + 0; omega]; exact this, hr⟩
theorem info_f32 : (Try.prog.info? 26).map (fun i => (i.zero, i.size, i.bytes)) = some (some (.float .f32 0), 1, 4) := by kernel_rfl


/-- n marks from k on. -/
def mks (k : Int) (n : Nat) : List Nat := (List.range n).map fun i : Nat => fi (k + (i : Int))
theorem mks_length (k : Int) (n : Nat) : (mks k n).length = n := by simp [mks]
theorem mks_get (k : Int) {n i : Nat} (h : i < n) : (mks k n)[i]? = some (fi (k + (i : Int))) := by simp [mks, h]


end Go.Proofs.Ytggcajillncamaa
