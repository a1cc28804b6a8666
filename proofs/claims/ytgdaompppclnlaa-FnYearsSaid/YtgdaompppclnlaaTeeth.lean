/- Rows of teeth: as a kind; the laws' own functions on them. The code of a train and its teeth: contracts. -/
import Derived.Test.YtgdaompppclnlaaPair
import Derived.Test.YtgdaompppclnlaaTooth2
import Derived.Test.YtgdaompppclnlaaTrain
import Derived.Test.YtgdaompppclnlaaTooth4
namespace Go.Proofs.Ytgdaompppclnlaa
open Go.RowKit Ieee
open Go.Proofs.YtgdaompppclnlaaW.PrintWords
set_option maxRecDepth 100000

/-- A whole number of eight bits. -/
def ki8 : Kd Int where
  sz := 1
  E := []
  K := fun _ x cs => cs = [.int .i8 x] ∧ -128 ≤ x ∧ x ≤ 127
  M := fun _ _ _ x cs => cs = [.int .i8 x] ∧ -128 ≤ x ∧ x ≤ 127
  K_len := by rintro w x cs ⟨rfl, _⟩; rfl
  K_one := by rintro w x cs ⟨rfl, _⟩ u hu; rw [List.mem_singleton.1 hu]; rfl
  K_below := fun _ h => h
  K_of_M := fun h => h
  M_mono := fun _ h => h
  M_bound := fun h => h
  M_move := fun _ h => h
  M_lower := fun _ h => h
/-- A tooth: how hard, both wears, the side. -/
def kT : Kd (Nat × Nat × Nat × Int) := Kd.pair kf (Kd.pair kf (Kd.pair kf ki8))
def i8B (s : Int) : Prop := -128 ≤ s ∧ s ≤ 127
theorem kT_open {w : World} {x : Nat × Nat × Nat × Int} {cs : List Value} (h : kT.K w x cs) : ∃ r a b, cs = [.float .f32 r, .float .f32 a, .float .f32 b, .int .i8 x.2.2.2] ∧ FV r x.1 ∧ FV a x.2.1 ∧ FV b x.2.2.1 ∧ i8B x.2.2.2 := by
  obtain ⟨_, _, rfl, ⟨r, rfl, hr⟩, _, _, rfl, ⟨a, rfl, ha⟩, _, _, rfl, ⟨b, rfl, hb⟩, rfl, h1, h2⟩ := h
  exact ⟨r, a, b, rfl, hr, ha, hb, h1, h2⟩
theorem kT_openM {w : World} {base : Nat} {ok : Nat → Prop} {x : Nat × Nat × Nat × Int} {cs : List Value} (h : kT.M w base ok x cs) : ∃ r a b, cs = [.float .f32 r, .float .f32 a, .float .f32 b, .int .i8 x.2.2.2] ∧ FV r x.1 ∧ FV a x.2.1 ∧ FV b x.2.2.1 ∧ i8B x.2.2.2 := kT_open (w := w) (kT.K_of_M h)
theorem kT_mkM (w : World) (base : Nat) (ok : Nat → Prop) {x a b r p q : Nat} {s : Int} (hr : FV r x) (ha : FV p a) (hb : FV q b) (hs : i8B s) : kT.M w base ok (x, a, b, s) [.float .f32 r, .float .f32 p, .float .f32 q, .int .i8 s] :=
  ⟨[.float .f32 r], [.float .f32 p, .float .f32 q, .int .i8 s], rfl, ⟨r, rfl, hr⟩, [.float .f32 p], [.float .f32 q, .int .i8 s], rfl, ⟨p, rfl, ha⟩, [.float .f32 q], [.int .i8 s], rfl, ⟨q, rfl, hb⟩, rfl, hs.1, hs.2⟩
def zT : Nat × Nat × Nat × Int := (0, 0, 0, 0)
theorem at_kT {w : World} {A : Option Addr} {n : Nat} {l : List (Nat × Nat × Nat × Int)} (h : Kd.C kT w A n l) (i : Nat) (hi : i < n) :
    ∃ b off r p q s, A = some ⟨b, off, none⟩ ∧ b < w.heap.size ∧ w.cell? ⟨b, off + i * 4, none⟩ = some (.float .f32 r) ∧ w.cell? ⟨b, off + i * 4 + 1, none⟩ = some (.float .f32 p) ∧ w.cell? ⟨b, off + i * 4 + 2, none⟩ = some (.float .f32 q) ∧ w.cell? ⟨b, off + i * 4 + 3, none⟩ = some (.int .i8 s) ∧ l.getD i zT = (cn r, cn p, cn q, s) ∧ r < 4294967296 ∧ p < 4294967296 ∧ q < 4294967296 ∧ i8B s := by
  obtain ⟨b, off, c, e, hb, _, hK, hc⟩ := C_at h (show 0 < kT.sz by decide) zT i hi
  obtain ⟨r, p, q, rfl, hr, hp, hq, h8⟩ := kT_open hK
  refine ⟨b, off, r, p, q, _, e, hb, hc 0 _ rfl, hc 1 _ rfl, hc 2 _ rfl, hc 3 _ rfl, ?_, hr.2, hp.2, hq.2, h8⟩
  rw [hr.1, hp.1, hq.1]
theorem info_tooth : (Try.prog.info? 44).map (fun i => (i.zero, i.size, i.bytes)) = some (some (.agg #[.float .f32 0, .float .f32 0, .float .f32 0, .int .i8 0]), 4, 16) := by kernel_rfl

end Go.Proofs.Ytgdaompppclnlaa
namespace Go.Proofs.Ytgdaompppclnlaa
open Go.RowKit Ieee
open Go.Proofs.YtgdaompppclnlaaW.PrintWords
set_option maxRecDepth 100000
attribute [local irreducible] wpRel

abbrev Tth := Nat × Nat × Nat × Int
def okT (x : Tth) : Bool := okTooth x.1 x.2.1 x.2.2.1 x.2.2.2
theorem okTooth_cn {r p q : Nat} (hr : r < 4294967296) (hp : p < 4294967296) (hq : q < 4294967296) (s : Int) : okTooth r p q s = okT (cn r, cn p, cn q, s) := by
  unfold okT okTooth
  rw [fin_v (⟨rfl, hr⟩ : FV r (cn r)) (by decide) (by decide), part_v (⟨rfl, hp⟩ : FV p (cn p)), part_v (⟨rfl, hq⟩ : FV q (cn q))]
/-- The code of a train (a: valid), teeth (b: valid), numbers (f: as told) and lengths (e: equal). -/
def codeT (a b f e : Bool) : Int := if a = true then (if b = true then (if f = true then (if e = true then 0 else 4) else 2) else 1) else 1

set_option maxHeartbeats 4000000 in
theorem l06Teeth_any (A B : Option Addr) (c c' : Nat) (t : List (Int × Int × Nat)) (l : List Tth) (f : Bool) (k : Int) (hk : codeT (trainOk t) (l.all okT) f (decide (l.length = t.length)) = k) (w : World)
    (hA : Kd.C kP w A t.length t) (hn : t.length ≤ 1048576) (hB : Kd.C kT w B l.length l) (hm : l.length ≤ 1048576) :
    Calls Try.prog 34 #[.slice A t.length c, .slice B l.length c', .bool f] w fun e w' => e = .returned (.int .i64 k) ∧ Below w.heap.size w w' := by
  subst hk
  have HV := Lib.hid (l01Ok_any A c t w hA hn)
  have HB := Lib.hid hB
  clear hA hB
  generalize trainOk t = a at *
  cases a
  · go_enter Try.func34, Try.ntmps34
    go_wp2_with (go_at_call 53; refine (HV.out).mono ?_; rintro e w' ⟨rfl, rfl⟩)
    go_ret
    exact ⟨rfl, Below.refl _ _⟩
  · go_enter Try.func34, Try.ntmps34
    go_wp2_with (go_at_call 53; refine (HV.out).mono ?_; rintro e w' ⟨rfl, rfl⟩)
    clear HV
    go_loopw [7] (fun i wr => ∃ k : Nat, k ≤ l.length ∧ i = .int .i64 k ∧ Hid ((l.take k).all okT = true) ∧ Below w.heap.size w wr) (fun i _ => l.length - (intOf i).toNat)
    case atStart => exact ⟨0, Nat.zero_le _, rfl, Lib.hid (by simp), Below.refl _ _⟩
    case round =>
      obtain ⟨k, hk, rfl, HK, hb⟩ := hrel
      by_cases hlt : k < l.length
      · obtain ⟨b, off, r, p, q, s, rfl, hbl, c0, c1, c2, c3, hx, hr, hp, hq, h8⟩ := at_kT HB.out k hlt
        have d0 := (bc hb b (off + k * 4) hbl).trans c0
        have d1 := (bc hb b (off + k * 4 + 1) hbl).trans c1
        have d2 := (bc hb b (off + k * 4 + 2) hbl).trans c2
        have d3 := (bc hb b (off + k * 4 + 3) hbl).trans c3
        have HC := Lib.hid (okTooth_spec r p q s h8.1 h8.2 wr)
        rw [okTooth_cn hr hp hq s, ← hx] at HC
        clear c0 c1 c2 c3 hx hr hp hq h8
        cases ho : okT (l.getD k zT)
        · rw [ho] at HC
          have HD := Lib.hid ho
          clear ho
          go_wp2_with (go_at_call 54; refine (HC.out).mono ?_; rintro e w1 ⟨rfl, hb1⟩)
          go_ret
          exact ⟨by unfold codeT; rw [all_false hlt HD.out]; rfl, bstep hb hb1⟩
        · rw [ho] at HC
          have HD := Lib.hid ho
          clear ho
          go_wp2_with (go_at_call 54; refine (HC.out).mono ?_; rintro e w1 ⟨rfl, hb1⟩)
          go_roundw
          case rel => exact ⟨k + 1, by omega, by go_num, Lib.hid (take_all_succ hlt HK.out HD.out), bstep hb hb1⟩
          case measure => simp [intOf]; omega
      · have e : l.take k = l := List.take_of_length_le (by omega)
        rw [e] at HK
        cases f
        · go_wp2
          go_ret
          exact ⟨by unfold codeT; rw [HK.out]; rfl, hb⟩
        · by_cases hl : l.length = t.length
          · have HL := Lib.hid hl
            have hl2 : ((l.length : Int) == (t.length : Int)) = true := by rw [beq_iff_eq]; omega
            clear hl
            go_wp2
            go_ret
            exact ⟨by unfold codeT; rw [HK.out]; simp [HL.out], hb⟩
          · have HL := Lib.hid hl
            have hl2 : ((l.length : Int) == (t.length : Int)) = false := by rw [beq_eq_false_iff_ne]; omega
            clear hl
            go_wp2
            go_ret
            exact ⟨by unfold codeT; rw [HK.out]; simp [HL.out], hb⟩
theorem teethCode1_any (r p q : Nat) (s : Int) (h8 : i8B s) (w : World) :
    Calls Try.prog 45 #[.agg #[.float .f32 r, .float .f32 p, .float .f32 q, .int .i8 s]] w fun e w' => e = .returned (.bool (!okTooth r p q s)) ∧ Below w.heap.size w w' := by
  go_enter Try.func45, Try.ntmps45
  go_wp2_with (go_at_call 46; refine (validTooth_impl _ _ _ _ h8.1 h8.2 _).mono ?_; rintro e w1 ⟨rfl, hb1⟩; have hc1 := bc hb1; have hf1 := bf hb1; have hs1 := hb1.size; (try simp at hs1); (try have hz10 : w.heap.size < w1.heap.size := by omega); (try have hz11 : w.heap.size + 1 < w1.heap.size := by omega); (try have hz12 : w.heap.size + 1 + 1 < w1.heap.size := by omega); (try have hz13 : w.heap.size + 1 + 1 + 1 < w1.heap.size := by omega))
  go_ret
  refine ⟨rfl, ?_⟩
  (repeat (first | with_reducible exact Below.refl _ _ | with_reducible refine bset ?_ (by first | (simp; done) | (simp; omega) | omega) _ | with_reducible refine balloc ?_ _ | with_reducible refine bdrewN ?_ _ | with_reducible refine bdrew ?_ | with_reducible refine bstep ?_ (by assumption)))
set_option maxHeartbeats 4000000 in
theorem indexT_any (A : Option Addr) (c : Nat) (l : List Tth) (w : World) (hA : Kd.C kT w A l.length l) (hm : l.length ≤ 1048576) :
    Calls Try.prog 65 #[.slice A l.length c, .func (.func 45) #[] #[]] w (IdxQ (!l.all okT) w) := by
  have HA := Lib.hid hA
  clear hA
  go_enter Try.func65, Try.ntmps65
  go_wp2
  go_loopw [8] (fun i wr => ∃ k : Nat, k ≤ l.length ∧ i = .int .i64 k ∧ Hid ((l.take k).all okT = true) ∧ Below w.heap.size w wr) (fun i _ => l.length - (intOf i).toNat)
  case atStart => exact ⟨0, Nat.zero_le _, rfl, Lib.hid (by simp), Below.refl _ _⟩
  case round =>
    obtain ⟨k, hk, rfl, HK, hb⟩ := hrel
    by_cases hlt : k < l.length
    · obtain ⟨b, off, r, p, q, s, rfl, hbl, c0, c1, c2, c3, hx, hr, hp, hq, h8⟩ := at_kT HA.out k hlt
      have d0 := (bc hb b (off + k * 4) hbl).trans c0
      have d1 := (bc hb b (off + k * 4 + 1) hbl).trans c1
      have d2 := (bc hb b (off + k * 4 + 2) hbl).trans c2
      have d3 := (bc hb b (off + k * 4 + 3) hbl).trans c3
      have HC := Lib.hid (teethCode1_any r p q s h8 wr)
      rw [okTooth_cn hr hp hq s, ← hx] at HC
      clear c0 c1 c2 c3 hx hr hp hq h8
      cases ho : okT (l.getD k zT)
      · rw [ho] at HC
        have HD := Lib.hid ho
        clear ho
        go_wp2_with (go_at_call 45; refine (HC.out).mono ?_; rintro e w1 ⟨rfl, hb1⟩)
        go_ret
        exact ⟨_, rfl, by rw [all_false hlt HD.out]; simp, bstep hb hb1⟩
      · rw [ho] at HC
        have HD := Lib.hid ho
        clear ho
        go_wp2_with (go_at_call 45; refine (HC.out).mono ?_; rintro e w1 ⟨rfl, hb1⟩)
        go_roundw
        case rel => exact ⟨k + 1, by omega, by go_num, Lib.hid (take_all_succ hlt HK.out HD.out), bstep hb hb1⟩
        case measure => simp [intOf]; omega
    · have e : l.take k = l := List.take_of_length_le (by omega)
      rw [e] at HK
      go_wp2
      go_ret
      exact ⟨_, rfl, by rw [HK.out]; simp, hb⟩
theorem containsT_any (A : Option Addr) (c : Nat) (l : List Tth) (w : World) (hA : Kd.C kT w A l.length l) (hm : l.length ≤ 1048576) :
    Calls Try.prog 44 #[.slice A l.length c, .func (.func 45) #[] #[]] w fun e w' => e = .returned (.bool (!l.all okT)) ∧ Below w.heap.size w w' := by
  have HI := Lib.hid (indexT_any A c l w hA hm)
  clear hA
  go_enter Try.func44, Try.ntmps44
  go_wp2_with (go_at_call 65; refine (HI.out).mono ?_; rintro e w1 ⟨i, rfl, hi, hb1⟩; have HX := Lib.hid hi; clear hi)
  go_ret
  exact ⟨by rw [← HX.out]; rfl, hb1⟩
set_option maxHeartbeats 4000000 in
theorem teethCode_any (A B : Option Addr) (c c' : Nat) (t : List (Int × Int × Nat)) (l : List Tth) (f : Bool) (k : Int) (hk : codeT (trainOk t) (l.all okT) f (decide (l.length = t.length)) = k) (w : World)
    (hA : Kd.C kP w A t.length t) (hn : t.length ≤ 1048576) (hB : Kd.C kT w B l.length l) (hm : l.length ≤ 1048576) :
    Calls Try.prog 25 #[.slice A t.length c, .slice B l.length c', .bool f] w fun e w' => e = .returned (.int .i64 k) ∧ Below w.heap.size w w' := by
  subst hk
  have HV := Lib.hid (validTrain_impl A c t w hA hn)
  have HC : Hid (∀ w1, Below w.heap.size w w1 → Calls Try.prog 44 #[.slice B l.length c', .func (.func 45) #[] #[]] w1 fun e w' => e = .returned (.bool (!l.all okT)) ∧ Below w1.heap.size w1 w') := Lib.hid (fun w1 hb => containsT_any B c' l w1 (Kd.C_below hB hb) hm)
  clear hA hB
  generalize trainOk t = a at *
  generalize l.all okT = b at *
  cases a
  · go_enter Try.func25, Try.ntmps25
    go_wp2_with (go_at_call 43; refine (HV.out).mono ?_; rintro e w1 ⟨rfl, hb1⟩)
    go_ret
    exact ⟨rfl, hb1⟩
  · cases b
    · go_enter Try.func25, Try.ntmps25
      go_wp2_with (first | (go_at_call 43; refine (HV.out).mono ?_; rintro e w1 ⟨rfl, hb1⟩) | (go_at_call 44; refine (HC.out _ hb1).mono ?_; rintro e w2 ⟨rfl, hb2⟩))
      go_ret
      exact ⟨rfl, bstep hb1 hb2⟩
    · cases f
      · go_enter Try.func25, Try.ntmps25
        go_wp2_with (first | (go_at_call 43; refine (HV.out).mono ?_; rintro e w1 ⟨rfl, hb1⟩) | (go_at_call 44; refine (HC.out _ hb1).mono ?_; rintro e w2 ⟨rfl, hb2⟩))
        go_ret
        exact ⟨rfl, bstep hb1 hb2⟩
      · by_cases hl : l.length = t.length
        · have HL := Lib.hid hl
          have hl2 : ((l.length : Int) == (t.length : Int)) = true := by rw [beq_iff_eq]; omega
          clear hl
          go_enter Try.func25, Try.ntmps25
          go_wp2_with (first | (go_at_call 43; refine (HV.out).mono ?_; rintro e w1 ⟨rfl, hb1⟩) | (go_at_call 44; refine (HC.out _ hb1).mono ?_; rintro e w2 ⟨rfl, hb2⟩))
          go_ret
          exact ⟨by simp [codeT, HL.out], bstep hb1 hb2⟩
        · have HL := Lib.hid hl
          have hl2 : ((l.length : Int) == (t.length : Int)) = false := by rw [beq_eq_false_iff_ne]; omega
          clear hl
          go_enter Try.func25, Try.ntmps25
          go_wp2_with (first | (go_at_call 43; refine (HV.out).mono ?_; rintro e w1 ⟨rfl, hb1⟩) | (go_at_call 44; refine (HC.out _ hb1).mono ?_; rintro e w2 ⟨rfl, hb2⟩))
          go_ret
          exact ⟨by simp [codeT, HL.out], bstep hb1 hb2⟩
end Go.Proofs.Ytgdaompppclnlaa
