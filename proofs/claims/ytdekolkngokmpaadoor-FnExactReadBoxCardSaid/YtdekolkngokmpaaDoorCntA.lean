/- Small whole numbers read from texts: the program's side. -/
import Derived.Test.YtdekolkngokmpaaDoorPu15
import Derived.Test.YtdekolkngokmpaaDoorDcA
import Derived.Shelf.Pu.ToError
import Derived.Shelf.Pu.ToErrorRange
import Derived.Lib.SlicesS
namespace Go.Proofs.YtdekolkngokmpaaDoor
open Go.RowKit
set_option maxRecDepth 100000
/-- The library's two errors are laid. -/
def ErrsW (w : World) : Prop := ∃ es er : Value, w.cell? ⟨2, 0, none⟩ = some es ∧ (es = .nilIface ∨ ∃ te pe, es = .iface te pe) ∧ w.cell? ⟨3, 0, none⟩ = some er ∧ (er = .nilIface ∨ ∃ te pe, er = .iface te pe)
theorem ErrsW.below {w w' : World} (h : ErrsW w) (hb : Below w.heap.size w w') : ErrsW w' := by
  obtain ⟨es, er, h1, h2, h3, h4⟩ := h
  exact ⟨es, er, (hb.cell (p := ⟨_, 0, none⟩) (Lib.lt_of_cell h1)).trans h1, h2, (hb.cell (p := ⟨_, 0, none⟩) (Lib.lt_of_cell h3)).trans h3, h4⟩
def P15R (T : TypeId) (l : List UInt8) (w : World) (e : Ending) (w' : World) : Prop :=
  (∃ (u : Int) (N : Nat), e = .returned (.tuple #[.int .u64 u, .iface T (.pointer (some ⟨N, 0, none⟩))]) ∧ 0 ≤ u ∧ u ≤ 32767) ∧ Below w.heap.size w w'
theorem parse15_yes (t : ByteArray) (hlim : t.size ≤ 281474976710656) (h : p15 t.data.toList = true) (w : World) :
    Calls Tryd.prog 32 #[.string t, .int .i64 10, .int .i64 15] w fun e w' => e = .returned (.tuple #[.int .u64 (nmV t.data.toList 0 : Nat), .nilIface]) ∧ Below w.heap.size w w' := by
  have HI := Lib.hid ((pu15_any t (by omega) w).mono (R' := fun e w' => e = .returned (.tuple #[.int .u64 (nmV t.data.toList 0 : Nat), .nilIface]) ∧ Below w.heap.size w w') (by
    rintro e w' ⟨⟨u, ev, rfl, h1, _⟩, hb⟩
    obtain ⟨rfl, rfl⟩ := h1 h
    exact ⟨rfl, hb⟩))
  clear h
  obtain ⟨n, hn⟩ : ∃ n : Nat, nmV t.data.toList 0 = n := ⟨_, rfl⟩
  rw [hn] at HI ⊢
  clear hn
  go_enter Tryd.func32, Tryd.ntmps32
  go_wp2_with (go_at_call 39; refine (HI.out).mono ?_; rintro e w1 ⟨rfl, hb1⟩)
  go_ret2
  exact ⟨rfl, hb1⟩
set_option maxHeartbeats 1000000 in
theorem parse15_no (t : ByteArray) (hlim : t.size ≤ 281474976710656) (h : p15 t.data.toList = false) (w : World) (hE : ErrsW w) :
    Calls Tryd.prog 32 #[.string t, .int .i64 10, .int .i64 15] w (P15R 78 t.data.toList w) := by
  have HI := Lib.hid ((pu15_any t (by omega) w).mono (R' := fun e w' => (∃ (u : Int) (c : Int), e = .returned (.tuple #[.int .u64 u, .iface 75 (.int .i64 c)]) ∧ 0 ≤ u ∧ u ≤ 32767 ∧ (c = 1 ∨ c = 2)) ∧ Below w.heap.size w w') (by
    rintro e w' ⟨⟨u, ev, rfl, _, h3⟩, hb⟩
    obtain ⟨h0, h1, h2⟩ := h3 h
    rcases h2 with rfl | rfl
    · exact ⟨⟨u, 1, rfl, h0, h1, .inl rfl⟩, hb⟩
    · exact ⟨⟨u, 2, rfl, h0, h1, .inr rfl⟩, hb⟩))
  have HE := Lib.hid hE
  have HR := Lib.hid (show ∀ (w1 : World) (ev : Value), w1.cell? ⟨3, 0, none⟩ = some ev → (ev = .nilIface ∨ ∃ te pe, ev = .iface te pe) → Calls Tryd.prog 40 #[.string ⟨#[80, 97, 114, 115, 101, 85, 105, 110, 116]⟩, .string t, .int .i64 10, .int .i64 15, .iface 75 (.int .i64 1)] w1 fun e w' => ∃ N, e = .returned (.iface 78 (.pointer (some ⟨N, 0, none⟩))) ∧ Below w1.heap.size w1 w' from
    fun w1 ev h1 h2 => (AnyPu.strconv_toError_range { Tryd.laysPu14 with } ⟨#[80, 97, 114, 115, 101, 85, 105, 110, 116]⟩ t 10 15 ev w1 hlim h1 h2).mono (by rintro e w' ⟨N, rfl, _, _, hb⟩; exact ⟨N, rfl, hb⟩))
  have HS := Lib.hid (show ∀ (w1 : World) (ev : Value), w1.cell? ⟨2, 0, none⟩ = some ev → (ev = .nilIface ∨ ∃ te pe, ev = .iface te pe) → Calls Tryd.prog 40 #[.string ⟨#[80, 97, 114, 115, 101, 85, 105, 110, 116]⟩, .string t, .int .i64 10, .int .i64 15, .iface 75 (.int .i64 2)] w1 fun e w' => ∃ N, e = .returned (.iface 78 (.pointer (some ⟨N, 0, none⟩))) ∧ Below w1.heap.size w1 w' from
    fun w1 ev h1 h2 => (AnyPu.strconv_toError_syntax { Tryd.laysPu14 with } ⟨#[80, 97, 114, 115, 101, 85, 105, 110, 116]⟩ t 10 15 ev w1 hlim h1 h2).mono (by rintro e w' ⟨N, rfl, _, _, hb⟩; exact ⟨N, rfl, hb⟩))
  clear h hE
  go_enter Tryd.func32, Tryd.ntmps32
  go_wp2_with fail
  go_at_call 39
  refine (HI.out).mono ?_
  rintro e w1 ⟨⟨u, c, rfl, h0, h1, hc⟩, hb1⟩
  have HE1 := Lib.hid (HE.out.below hb1)
  rcases hc with rfl | rfl
  · have HC := Lib.hid (show Calls Tryd.prog 40 #[.string ⟨#[80, 97, 114, 115, 101, 85, 105, 110, 116]⟩, .string t, .int .i64 10, .int .i64 15, .iface 75 (.int .i64 1)] w1 fun e w' => ∃ N, e = .returned (.iface 78 (.pointer (some ⟨N, 0, none⟩))) ∧ Below w1.heap.size w1 w' by
      obtain ⟨es, er, _, _, h3, h4⟩ := HE1.out
      exact HR.out w1 er h3 h4)
    go_wp2_with (go_at_call 40; refine (HC.out).mono ?_; rintro e w2 ⟨N, rfl, hb2⟩)
    go_ret2
    exact ⟨⟨u, N, rfl, h0, h1⟩, bstep hb1 hb2⟩
  · have HC := Lib.hid (show Calls Tryd.prog 40 #[.string ⟨#[80, 97, 114, 115, 101, 85, 105, 110, 116]⟩, .string t, .int .i64 10, .int .i64 15, .iface 75 (.int .i64 2)] w1 fun e w' => ∃ N, e = .returned (.iface 78 (.pointer (some ⟨N, 0, none⟩))) ∧ Below w1.heap.size w1 w' by
      obtain ⟨es, er, h3, h4, _, _⟩ := HE1.out
      exact HS.out w1 es h3 h4)
    go_wp2_with (go_at_call 40; refine (HC.out).mono ?_; rintro e w2 ⟨N, rfl, hb2⟩)
    go_ret2
    exact ⟨⟨u, N, rfl, h0, h1⟩, bstep hb1 hb2⟩
/-- Whether a text is a small whole number's. -/
def cntOk (l : List UInt8) : Bool := p15 l && decide (Go.Lib.decDigits (nmV l 0) = l)
def CntQ (l : List UInt8) (w : World) (e : Ending) (w' : World) : Prop :=
  (∃ n : Int, e = .returned (.tuple #[.int .i16 n, .bool (cntOk l)]) ∧ (cntOk l = true → n = nmV l 0)) ∧ Below w.heap.size w w'
set_option maxHeartbeats 1000000 in
theorem count_any (t : ByteArray) (hlim : t.size ≤ 281474976710656) (w : World) (hE : ErrsW w) (hT : Lib.TabIs Tryd.prog w "internal/strconv.uint64pow10" .u64 Lib.pow10Tab) :
    Calls Tryd.prog 21 #[.string t] w (CntQ t.data.toList w) := by
  cases h : p15 t.data.toList
  · have HI := Lib.hid (parse15_no t hlim h w hE)
    have HC := Lib.hid (show cntOk t.data.toList = false by unfold cntOk; rw [h]; rfl)
    clear h hE hT
    go_enter Tryd.func21, Tryd.ntmps21
    go_wp2_with (go_at_call 32; refine (HI.out).mono ?_; rintro e w1 ⟨⟨u, N, rfl, h0, h1⟩, hb1⟩)
    go_ret2
    exact ⟨⟨_, by rw [HC.out]; rfl, fun h => by rw [HC.out] at h; cases h⟩, hb1⟩
  · have HI := Lib.hid (parse15_yes t hlim h w)
    have hn : nmV t.data.toList 0 ≤ 32767 := by unfold p15 at h; simp only [Bool.and_eq_true, decide_eq_true_eq] at h; exact h.2
    have HD := Lib.hid (fun w1 (hb : Below w.heap.size w w1) => decimalI_any (nmV t.data.toList 0) (by omega) w1 (Joins.tab_stays (g := 0) (by kernel_rfl) hT hb (Nat.le_refl _)))
    have HC := Lib.hid (show cntOk t.data.toList = ((⟨(Go.Lib.decDigits (nmV t.data.toList 0)).toArray⟩ : ByteArray).toList == t.toList) by
      unfold cntOk
      rw [h, Bool.true_and]
      rw [Bool.eq_iff_iff, decide_eq_true_iff, Lib.bytes_beq_iff]
      constructor
      · intro e
        apply ByteArray.ext
        rw [e]
      · intro e
        have := congrArg (fun b : ByteArray => b.data.toList) e
        simpa using this)
    clear h hE hT
    obtain ⟨n, hnn⟩ : ∃ n : Nat, nmV t.data.toList 0 = n := ⟨_, rfl⟩
    rw [hnn] at HI hn HD HC
    have HN := Lib.hid hnn
    clear hnn
    obtain ⟨d, hd⟩ : ∃ d : ByteArray, (⟨(Go.Lib.decDigits n).toArray⟩ : ByteArray) = d := ⟨_, rfl⟩
    simp only [hd] at HD HC
    clear hd
    go_enter Tryd.func21, Tryd.ntmps21
    go_wp2_with (first | (go_at_call 32; refine (HI.out).mono ?_; rintro e w1 ⟨rfl, hb1⟩) | (go_at_call 16; refine (HD.out _ hb1).mono ?_; rintro e w2 ⟨rfl, hb2⟩))
    go_ret2
    exact ⟨⟨_, by rw [HC.out]; rfl, fun _ => by rw [HN.out]⟩, bstep hb1 hb2⟩
end Go.Proofs.YtdekolkngokmpaaDoor
