/- Slices of single floats: compared, marked, held; the values of whole numbers. -/
import Derived.Test.YtidcnkjgbleoiaaKd
import Derived.Test.YtidcnkjgbleoiaaSame
import Derived.Test.YtidcnkjgbleoiaaIe
namespace Go.Proofs.Ytidcnkjgbleoiaa
open Go.RowKit Ieee
open Go.Proofs.YtidcnkjgbleoiaaW.PrintWords
set_option maxRecDepth 100000

/-- Two words of one value, made wide, are the same. -/
theorem wide_same' {a b r s : Nat} (h : cn a = cn b) (hr : FV6 r (widen (cn a))) (hs : FV6 s (widen (cn b))) : cn6 r = cn6 s := by
  rw [hr.1, hs.1, h]
def fi (n : Int) : Nat := floatOfInt .f32 n
theorem fi_isn (n : Int) : isn (fi n) = false := by
  unfold fi floatOfInt FloatKind.nearest isn
  obtain ⟨r, hr, e⟩ := nearest_rung single (decide (n < 0)) n.natAbs 0
  show (single.read (single.nearest _ _ _)).isNaN = false
  rw [e]
  exact word_notNaN single single_bi _ hr
theorem fi_lt (n : Int) : fi n < 4294967296 := by
  unfold fi floatOfInt FloatKind.nearest
  obtain ⟨r, hr, e⟩ := nearest_rung single (decide (n < 0)) n.natAbs 0
  show single.nearest _ _ _ < _
  rw [e]
  unfold Format.word
  have e1 : single.infRung = 2139095040 := rfl
  have e2 : single.signWeight = 2147483648 := rfl
  split <;> omega
theorem fi_FV (n : Int) : FV (fi n) (fi n) := ⟨cn_of_not (fi_isn n), fi_lt n⟩
@[go_sem high] theorem conv_fi {P : Program} (w : World) (src dst : TypeId) (n : Int) (hs : (P.underlying src).isSome = true) (hd : P.underlying dst = some (.float .f32)) :
    (convert src dst (.int .i64 n)).run P w = .ok (.float .f32 (fi n)) w := run_convert_int_float w src dst .i64 .f32 n hs hd

theorem kf_open {w : World} {x : Nat} {cs : List Value} (h : kf.K w x cs) : ∃ r, cs = [.float .f32 r] ∧ FV r x := h
theorem kf_openM {w : World} {base : Nat} {ok : Nat → Prop} {x : Nat} {cs : List Value} (h : kf.M w base ok x cs) : ∃ r, cs = [.float .f32 r] ∧ FV r x := h
theorem kf_mkM (w : World) (base : Nat) (ok : Nat → Prop) {x r : Nat} (hr : FV r x) : kf.M w base ok x [.float .f32 r] := ⟨r, rfl, hr⟩
theorem at_kf {w : World} {A : Option Addr} {n : Nat} {l : List Nat} (h : Kd.C kf w A n l) (i : Nat) (hi : i < n) :
    ∃ b off r, A = some ⟨b, off, none⟩ ∧ b < w.heap.size ∧ w.cell? ⟨b, off + i, none⟩ = some (.float .f32 r) ∧ FV r (l.getD i 0) := by
  obtain ⟨b, off, c, e, hb, _, hK, hc⟩ := C_at h (show 0 < kf.sz by decide) 0 i hi
  obtain ⟨r, rfl, hr⟩ := hK
  have := hc 0 _ rfl
  exact ⟨b, off, r, e, hb, by rw [show off + i = off + i * kf.sz + 0 from by show _ = off + i * 1 + 0; omega]; exact this, hr⟩
theorem info_f32 : (Try.prog.info? 32).map (fun i => (i.zero, i.size, i.bytes)) = some (some (.float .f32 0), 1, 4) := by kernel_rfl

set_option maxHeartbeats 2000000 in
theorem eqF_any (A B : Option Addr) (c c' : Nat) (l : List Nat) (w : World) (hA : Kd.C kf w A l.length l) (hB : Kd.C kf w B l.length l) (hm : l.length ≤ 1048576) :
    Calls Try.prog 9 #[.slice A l.length c, .slice B l.length c'] w fun e w' => e = .returned (.bool true) ∧ Below w.heap.size w w' := by
  have HA : Hid (Kd.C kf w A l.length l) := Lib.hid hA
  have HB : Hid (Kd.C kf w B l.length l) := Lib.hid hB
  clear hA hB
  go_enter Try.func9, Try.ntmps9
  go_wp2
  go_loopw [5] (fun i wr => ∃ k : Nat, k ≤ l.length ∧ i = .int .i64 k ∧ Below w.heap.size w wr) (fun i _ => l.length - (intOf i).toNat)
  case atStart => exact ⟨0, Nat.zero_le _, rfl, Below.refl _ _⟩
  case round =>
    obtain ⟨k, hk, rfl, hb⟩ := hrel
    by_cases hlt : k < l.length
    · obtain ⟨b, off, r, rfl, hbl, c0, hr⟩ := at_kf HA.out k hlt
      obtain ⟨b', off', r', rfl, hbl', c0', hr'⟩ := at_kf HB.out k hlt
      have d0 := (bc hb b (off + k) hbl).trans c0
      have d0' := (bc hb b' (off' + k) hbl').trans c0'
      have l0 : b < wr.heap.size := Nat.lt_of_lt_of_le hbl hb.size
      have l1 : b' < wr.heap.size := Nat.lt_of_lt_of_le hbl' hb.size
      clear c0 c0'
      have E0 := Lib.hid (show cn r = cn r' from hr.1.trans hr'.1.symm)
      clear hr hr'
      obtain ⟨wo, hwo⟩ : ∃ wo : World, wo = wr := ⟨_, rfl⟩
      subst hwo
      go_wp2
      first | refine region_drewN (DIs (.bool true)) (by kernel_rfl) (by kernel_rfl) ?_ | refine region_drew (DIs (.bool true)) (by kernel_rfl) (by kernel_rfl) ?_
      repeat (first | (refine wpRel_plain (o := ⟨some 21, _, _, _, _, _⟩) rfl (fun K hK => ?_); refine relOp_conv64 (drewN_Drew_closed _) rfl (by kernel_rfl) Try.underlying36 rfl (fun r21 h21 => hK _ ?_); clear hK K) | (refine wpRel_plain (o := ⟨some 26, _, _, _, _, _⟩) rfl (fun K hK => ?_); refine relOp_conv64 (drewN_Drew_closed _) rfl (by kernel_rfl) Try.underlying36 rfl (fun r26 h26 => hK _ ?_); clear hK K) | (refine wpRel_plain rfl (fun K hK => ?_); intro w' hw'; obtain ⟨n', rfl⟩ := hw'; go_simp; refine ⟨?_, fun v hv => ?_⟩; (go_at_call 16; refine (sameFloat_any _ _ h21.2 (wide_same' E0.out h21 h26) _).mono ?_; rintro e w' ⟨rfl, rfl⟩; exact ⟨_, rfl, rfl, Drew.mk _ _⟩); obtain rfl : v = _ := hv; (refine hK _ ?_; clear hK K n')) | (refine wpRel_plain rfl (fun K hK => ?_); intro w' hw'; obtain ⟨n', rfl⟩ := hw'; go_simp; refine ⟨Drew.mk _ _, hK _ ?_⟩; clear hK K n'))
      (refine wpRel_nil ?_; intro w' hw'; obtain ⟨nq, rfl⟩ := hw')
      clear h21 h26
      go_wp2
      go_roundw
      case rel => exact ⟨k + 1, by omega, by go_num, bdrewN hb _⟩
      case measure => simp [intOf]; omega
    · go_wp2
      go_ret
      exact ⟨by simp, hb⟩

/-- n marks from k on. -/
def mks (k : Int) (n : Nat) : List Nat := (List.range n).map fun i : Nat => fi (k + (i : Int))
theorem mks_length (k : Int) (n : Nat) : (mks k n).length = n := by simp [mks]
theorem mks_get (k : Int) {n i : Nat} (h : i < n) : (mks k n)[i]? = some (fi (k + (i : Int))) := by simp [mks, h]

set_option maxHeartbeats 2000000 in
theorem markF_any (v : Value) (l : List Nat) (m : Int) (base : Nat) (w : World) (hr : Kd.R kf 32 w base (fun _ => True) v l) (hm : l.length ≤ 1048576) (h0 : 0 ≤ m) (h1 : m ≤ 1000000000) :
    Calls Try.prog 12 #[v, .int .i64 m] w fun e w' => e = .returned (.int .i64 (m + l.length)) ∧ Kd.R kf 32 w' base (fun _ => True) v (mks m l.length) ∧ w.grownBy w' v.ownBlock := by
  have HR := Lib.hid hr
  obtain ⟨A, c, hv, hc, _⟩ := Kd.R_reads hr
  subst hv
  clear hr
  go_enter Try.func12, Try.ntmps12
  go_wp2
  go_loopw [1, 5] (fun q i wr => ∃ k : Nat, ∃ ys : List Nat, k ≤ l.length ∧ q = .int .i64 (m + k) ∧ i = .int .i64 k ∧ Hid (Kd.R kf 32 wr base (fun _ => True) (.slice A l.length c) ys) ∧ Hid (ys.length = l.length) ∧ Hid (∀ j, j < k → ys[j]? = (mks m l.length)[j]?) ∧ Hid (w.grownBy wr (Value.slice A l.length c).ownBlock)) (fun _ i _ => l.length - (intOf i).toNat)
  case atStart => exact ⟨0, l, Nat.zero_le _, by simp, rfl, HR, Lib.hid rfl, Lib.hid (fun j hj => absurd hj (by omega)), Lib.hid (World.grownBy.refl _ _)⟩
  case round =>
    obtain ⟨k, ys, hk, rfl, rfl, HR1, HL, HE, HG⟩ := hrel
    clear HR
    by_cases hlt : k < l.length
    · have hpos : 0 < ys.length := by have := HL.out; omega
      obtain ⟨g, cap, hv, hge, hglt, _⟩ := Kd.R_form HR1.out hpos
      obtain ⟨hA, _, hcap⟩ : A = some ⟨g, 0, none⟩ ∧ l.length = ys.length ∧ c = cap := by injection hv with a b c; exact ⟨a, b, c⟩
      subst hA
      clear hv hcap
      obtain ⟨ce, hcl, hM, hcc, hfr⟩ := Kd.R_elem HR1.out 0 (k : Int) (by omega) (by omega)
      obtain ⟨r2, rfl, _⟩ := kf_openM hM
      have x0 : wr.cell? ⟨g, k, none⟩ = some (.float .f32 r2) := by have := hcc 0 _ rfl; rwa [show (k : Int).toNat * kf.sz + 0 = k from by show k * 1 + 0 = k; omega] at this
      have f0 : wr.frozen? ⟨g, k, none⟩ = false := by have := hfr 0; rwa [show (k : Int).toNat * kf.sz + 0 = k from by show k * 1 + 0 = k; omega] at this
      have HS0 := Kd.R_seg HR1.out (k : Int) (by omega) (by omega) (seg := [.float .f32 (fi (m + k))]) (j := 0) hcl hcc (show 1 ≤ 1 from Nat.le_refl 1) (x' := fi (m + k)) (kf_mkM wr _ (fun q => True ∧ q ≠ g) (fi_FV _)) (fun _ h => h)
      have e1 : wr.setCells g ((k : Int).toNat * kf.sz + 0) [.float .f32 (fi (m + k))] = wr.setCell ⟨g, k, none⟩ (.float .f32 (fi (m + k))) := by show wr.setCell ⟨g, k * 1 + 0, none⟩ _ = _; rw [show k * 1 + 0 = k from by omega]
      rw [e1] at HS0
      have HS := Lib.hid HS0
      have hyl : k < ys.length := by have := HL.out; omega
      clear hcl hM hcc hfr HS0 e1
      go_wp2
      go_roundw
      case rel =>
        refine ⟨k + 1, ys.set k (fi (m + k)), by omega, by go_num, by go_num, Lib.hid HS.out.1, Lib.hid (by rw [List.length_set]; exact HL.out), Lib.hid (fun j hj => ?_), Lib.hid ?_⟩
        · rw [List.getElem?_set]
          by_cases hji : k = j
          · subst hji
            rw [if_pos rfl, if_pos hyl, mks_get m hlt]
          · rw [if_neg hji]; exact HE.out j (by omega)
        · exact HG.out.trans HS.out.2
      case measure => simp [intOf]; omega
    · go_wp2
      go_ret
      have hkl : k = l.length := by omega
      have e : ys = mks m l.length := List.ext_getElem? fun j => by
        by_cases hj : j < k
        · exact HE.out j hj
        · rw [List.getElem?_eq_none (by have := HL.out; omega), List.getElem?_eq_none (by rw [mks_length]; omega)]
      refine ⟨by first | (simp [hkl]; done) | (simp; omega) | omega, ?_, HG.out⟩
      rw [← e]; exact HR1.out

theorem feq_fi {r : Nat} {k : Int} (h : FV r (fi k)) : feq r (fi k) = true := by
  rw [← feq_cn r (fi k), h.1, cn_of_not (fi_isn k), feq_self, fi_isn]; rfl
set_option maxHeartbeats 2000000 in
theorem heldF_any (A : Option Addr) (c n : Nat) (m : Int) (w : World) (hA : Kd.C kf w A n (mks m n)) (hm : n ≤ 1048576) (h0 : 0 ≤ m) (h1 : m ≤ 1000000000) :
    Calls Try.prog 13 #[.slice A n c, .int .i64 m] w fun e w' => e = .returned (.int .i64 (m + n)) ∧ w = w' := by
  have HA : Hid (Kd.C kf w A n (mks m n)) := Lib.hid hA
  clear hA
  go_enter Try.func13, Try.ntmps13
  go_wp2
  go_loop [1, 5] (fun q i => ∃ k : Nat, k ≤ n ∧ q = .int .i64 (m + k) ∧ i = .int .i64 k) (fun _ i => n - (intOf i).toNat)
  case atStart => exact ⟨0, Nat.zero_le _, by simp, rfl⟩
  case round =>
    obtain ⟨k, hk, rfl, rfl⟩ := hrel
    by_cases hlt : k < n
    · obtain ⟨b, off, r, rfl, hbl, c0, hr⟩ := at_kf HA.out k hlt
      rw [List.getD_eq_getElem?_getD, mks_get m hlt] at hr
      have hf := feq_fi hr
      clear hr
      go_wp2
      go_round
      case rel => exact ⟨k + 1, by omega, by go_num, by go_num⟩
      case measure => simp [intOf]; omega
    · go_wp2
      go_ret
      have hkl : k = n := by omega
      exact ⟨by first | (simp [hkl]; done) | (simp; omega) | omega, rfl⟩
end Go.Proofs.Ytidcnkjgbleoiaa
