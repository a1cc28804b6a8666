/- The code of a train and plays: contracts. -/
import Derived.Test.YtpkmmelinfcdaaaPlay
namespace Go.Proofs.Ytpkmmelinfcdaaa
open Go.RowKit Ieee
open Go.Proofs.YtpkmmelinfcdaaaW.PrintWords
set_option maxRecDepth 100000

/-- Lists of plays in a row. -/
def kS : Kd (List Nat) := Kd.slice 25 kf
theorem at_kS {w : World} {A : Option Addr} {n : Nat} {ls : List (List Nat)} (h : Kd.C kS w A n ls) (i : Nat) (hi : i < n) :
    ∃ b off B c ps, A = some ⟨b, off, none⟩ ∧ b < w.heap.size ∧ w.cell? ⟨b, off + i, none⟩ = some (.slice B ps.length c) ∧ Kd.C kf w B ps.length ps ∧ ls.getD i [] = ps := by
  obtain ⟨b, off, c, e, hb, _, hK, hc⟩ := C_at h (show 0 < kS.sz by decide) [] i hi
  obtain ⟨B, c', rfl, _, hC⟩ := hK
  have := hc 0 _ rfl
  exact ⟨b, off, B, c', _, e, hb, by rw [show off + i = off + i * kS.sz + 0 from by show _ = off + i * 1 + 0; omega]; exact this, hC, rfl⟩

section
variable (A : Option Addr) (c : Nat) (n : Nat) (g : Nat)
theorem playCode1_any (hn : n ≤ 1048576) (B : Option Addr) (c' : Nat) (ps : List Nat) (w : World) (hg : w.cell? ⟨g, 0, none⟩ = some (.slice A n c)) (hB : Kd.C kf w B ps.length ps) (hm : ps.length ≤ 1048576) :
    Calls Try.prog 47 #[.slice B ps.length c', .pointer (some ⟨g, 0, none⟩)] w fun e w' => e = .returned (.bool (!playsOk n ps)) ∧ Below w.heap.size w w' := by
  have HA := Lib.hid (arePlays_any A B c c' n ps w hB hm hn)
  clear hB
  go_enter Try.func47, Try.ntmps47
  go_wp2_with (go_at_call 48; refine (HA.out).mono ?_; rintro e w1 ⟨rfl, hb1⟩)
  go_ret
  exact ⟨rfl, hb1⟩
set_option maxHeartbeats 4000000 in
theorem indexS_any (hn : n ≤ 1048576) (S : Option Addr) (d : Nat) (ls : List (List Nat)) (w : World) (hg : w.cell? ⟨g, 0, none⟩ = some (.slice A n c)) (hS : Kd.C kS w S ls.length ls) (hl : ls.length ≤ 1048576) (hm : ∀ i, i < ls.length → (ls.getD i []).length ≤ 1048576) :
    Calls Try.prog 64 #[.slice S ls.length d, .func (.func 47) #[] #[.pointer (some ⟨g, 0, none⟩)]] w (IdxQ (!ls.all (playsOk n)) w) := by
  have HS : Hid (Kd.C kS w S ls.length ls) := Lib.hid hS
  have HM := Lib.hid hm
  have hgl := World.block_lt_of_cell? w _ hg
  clear hS hm
  go_enter Try.func64, Try.ntmps64
  go_wp2
  go_loopw [8] (fun i wr => ∃ k : Nat, k ≤ ls.length ∧ i = .int .i64 k ∧ Hid ((ls.take k).all (playsOk n) = true) ∧ Below w.heap.size w wr) (fun i _ => ls.length - (intOf i).toNat)
  case atStart => exact ⟨0, Nat.zero_le _, rfl, Lib.hid (by simp), Below.refl _ _⟩
  case round =>
    obtain ⟨k, hk, rfl, HK, hb⟩ := hrel
    by_cases hlt : k < ls.length
    · obtain ⟨b, off, B, c', ps, rfl, hbl, c0, hC, hps⟩ := at_kS HS.out k hlt
      have d0 := (bc hb b (off + k) hbl).trans c0
      have hg1 : wr.cell? ⟨g, 0, none⟩ = some (.slice A n c) := (bc hb g 0 hgl).trans hg
      have hmk := HM.out k hlt
      rw [hps] at hmk
      have HC := Lib.hid (playCode1_any A c n g hn B c' ps wr hg1 (Kd.C_below hC hb) hmk)
      have HPS := Lib.hid hps
      clear c0 hC hg1 hps hmk
      cases hp : playsOk n ps
      · rw [hp] at HC
        have HD := Lib.hid ((congrArg (playsOk n) HPS.out).trans hp)
        clear hp
        go_wp2_with (go_at_call 47; refine (HC.out).mono ?_; rintro e w1 ⟨rfl, hb1⟩)
        go_ret
        exact ⟨_, rfl, by rw [all_false hlt HD.out]; simp, bstep hb hb1⟩
      · rw [hp] at HC
        have HD := Lib.hid ((congrArg (playsOk n) HPS.out).trans hp)
        clear hp
        go_wp2_with (go_at_call 47; refine (HC.out).mono ?_; rintro e w1 ⟨rfl, hb1⟩)
        go_roundw
        case rel => exact ⟨k + 1, by omega, by go_num, Lib.hid (take_all_succ hlt HK.out HD.out), bstep hb hb1⟩
        case measure => simp [intOf]; omega
    · have e : ls.take k = ls := List.take_of_length_le (by omega)
      rw [e] at HK
      go_wp2
      go_ret
      exact ⟨_, rfl, by rw [HK.out]; simp, hb⟩
theorem containsS_any (hn : n ≤ 1048576) (S : Option Addr) (d : Nat) (ls : List (List Nat)) (w : World) (hg : w.cell? ⟨g, 0, none⟩ = some (.slice A n c)) (hS : Kd.C kS w S ls.length ls) (hl : ls.length ≤ 1048576) (hm : ∀ i, i < ls.length → (ls.getD i []).length ≤ 1048576) :
    Calls Try.prog 46 #[.slice S ls.length d, .func (.func 47) #[] #[.pointer (some ⟨g, 0, none⟩)]] w fun e w' => e = .returned (.bool (!ls.all (playsOk n))) ∧ Below w.heap.size w w' := by
  have HI := Lib.hid (indexS_any A c n g hn S d ls w hg hS hl hm)
  clear hS hm hg
  go_enter Try.func46, Try.ntmps46
  go_wp2_with (go_at_call 64; refine (HI.out).mono ?_; rintro e w1 ⟨i, rfl, hi, hb1⟩; have HX := Lib.hid hi; clear hi)
  go_ret
  exact ⟨by rw [← HX.out]; rfl, hb1⟩
end
def codeP (a b : Bool) : Int := if a = true then (if b = true then 0 else 2) else 1
set_option maxHeartbeats 2000000 in
theorem playCode_any (A : Option Addr) (c : Nat) (t : List (Int × Int × Nat)) (S : Option Addr) (d : Nat) (ls : List (List Nat)) (k : Int) (hk : codeP (trainOk t) (ls.all (playsOk t.length)) = k) (w : World)
    (hA : Kd.C kP w A t.length t) (hn : t.length ≤ 1048576) (hS : Kd.C kS w S ls.length ls) (hl : ls.length ≤ 1048576) (hm : ∀ i, i < ls.length → (ls.getD i []).length ≤ 1048576) :
    Calls Try.prog 33 #[.slice A t.length c, .slice S ls.length d] w fun e w' => e = .returned (.int .i64 k) ∧ Below w.heap.size w w' := by
  subst hk
  have HV : Hid (∀ w1, Below w.heap.size w w1 → Calls Try.prog 45 #[.slice A t.length c] w1 fun e w' => e = .returned (.bool (trainOk t)) ∧ Below w1.heap.size w1 w') := Lib.hid (fun w1 hb => validTrain_impl A c t w1 (Kd.C_below hA hb) hn)
  have HC : Hid (∀ w1 g, Below w.heap.size w w1 → w1.cell? ⟨g, 0, none⟩ = some (.slice A t.length c) → Calls Try.prog 46 #[.slice S ls.length d, .func (.func 47) #[] #[.pointer (some ⟨g, 0, none⟩)]] w1 fun e w' => e = .returned (.bool (!ls.all (playsOk t.length))) ∧ Below w1.heap.size w1 w') := Lib.hid (fun w1 g hb hg => containsS_any A c t.length g hn S d ls w1 hg (Kd.C_below hS hb) hl hm)
  clear hA hS hm
  generalize trainOk t = a at *
  generalize ls.all (playsOk t.length) = b at *
  have b0 : Below w.heap.size w (w.alloc (.cells #[.slice A t.length c] 29)) := balloc (Below.refl _ _) _
  cases a
  · go_enter Try.func33, Try.ntmps33
    go_wp2_with (go_at_call 45; refine (HV.out _ b0).mono ?_; rintro e w1 ⟨rfl, hb1⟩)
    go_ret
    exact ⟨rfl, bstep b0 hb1⟩
  · cases b
    all_goals
      go_enter Try.func33, Try.ntmps33
      go_wp2_with (first | (go_at_call 45; refine (HV.out _ b0).mono ?_; rintro e w1 ⟨rfl, hb1⟩; have b1 := bstep b0 hb1; have g1 : w1.cell? ⟨w.heap.size, 0, none⟩ = some (.slice A t.length c) := (bc hb1 w.heap.size 0 (by simp)).trans (by go_simp)) | (go_at_call 46; refine (HC.out _ _ b1 g1).mono ?_; rintro e w2 ⟨rfl, hb2⟩))
      go_ret
      exact ⟨rfl, bstep b1 hb2⟩
theorem l06Asked_any (A B : Option Addr) (c c' : Nat) (t : List (Int × Int × Nat)) (ps : List Nat) (k : Int) (hk : codeP (trainOk t) (playsOk t.length ps) = k) (w : World)
    (hA : Kd.C kP w A t.length t) (hn : t.length ≤ 1048576) (hB : Kd.C kf w B ps.length ps) (hm : ps.length ≤ 1048576) :
    Calls Try.prog 30 #[.slice A t.length c, .slice B ps.length c'] w fun e w' => e = .returned (.int .i64 k) ∧ w = w' := by
  subst hk
  have HV := Lib.hid (l01Ok_any A c t w hA hn)
  have HC := Lib.hid (l06Plays_any A B c c' t.length ps w hB hm hn)
  clear hA hB
  generalize trainOk t = a at *
  generalize playsOk t.length ps = b at *
  cases a
  · go_enter Try.func30, Try.ntmps30
    go_wp2_with (go_at_call 44; refine (HV.out).mono ?_; rintro e w' ⟨rfl, rfl⟩)
    go_ret
    exact ⟨rfl, rfl⟩
  · cases b
    all_goals
      go_enter Try.func30, Try.ntmps30
      go_wp2_with (first | (go_at_call 44; refine (HV.out).mono ?_; rintro e w' ⟨rfl, rfl⟩) | (go_at_call 36; refine (HC.out).mono ?_; rintro e w' ⟨rfl, rfl⟩))
      go_ret
      exact ⟨rfl, rfl⟩
/-- One list, written out as a row. -/
theorem C_one {w : World} {g c : Nat} {B : Option Addr} {ps : List Nat} (hg : w.cell? ⟨g, 0, none⟩ = some (.slice B ps.length c)) (hc : ps.length ≤ c) (hB : Kd.C kf w B ps.length ps) : Kd.C kS w (some ⟨g, 0, none⟩) [ps].length [ps] := by
  refine ⟨rfl, by simp, fun _ => ⟨_, rfl, fun j p hj => ?_⟩⟩
  match j, hj with
  | 0, hj =>
    simp at hj
    subst hj
    refine ⟨[.slice B ps.length c], rfl, ⟨B, c, rfl, hc, hB⟩, fun i u hu => ?_⟩
    match i, hu with
    | 0, hu => simp at hu; subst hu; simpa [Addr.add] using hg
end Go.Proofs.Ytpkmmelinfcdaaa
