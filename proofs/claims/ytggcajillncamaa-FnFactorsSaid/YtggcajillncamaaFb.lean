/- What is left of a row of numbers: the library's functions that strike out. Factors between two numbers: both sides. The law FnExactFactorsBetween: the walk. -/
import Derived.Test.YtggcajillncamaaFac
import Derived.Test.YtggcajillncamaaWstP
namespace Go.Proofs.Ytggcajillncamaa
open Go.RowKit Ieee
open Go.Proofs.YtggcajillncamaaW.PrintWords
set_option maxRecDepth 100000
attribute [local irreducible] wpRel
theorem at_nnk {w : World} {a : Addr} {n : Nat} {l : List Nat} (h : Kd.C kf w (some a) n l) (hn : allNn l) (hl : l.length = n) (i : Nat) (hi : i < n) (b off : Nat) (ha : a = ⟨b, off, none⟩) :
    w.cell? ⟨b, off + i, none⟩ = some (.float .f32 (l.getD i 0)) := by
  obtain ⟨b', off', e, _, c, _⟩ := at_nn h hn hl i hi
  subst ha
  injection e with e
  injection e with e1 e2
  subst e1 e2
  exact c
/-- A row of numbers of the call's own whose end is written over: what is ahead of it stays. -/
theorem row_over {w : World} {base g n cap i : Nat} {xs : List Nat} (h : RW kf 26 w base (.slice (some ⟨g, 0, none⟩) n cap) xs) (hn : allNn xs) (hl : xs.length = n) (hp : 0 < n) (seg : List Value) (hi : i + seg.length ≤ n) :
    RW kf 26 (w.setCells g i seg) base (.slice (some ⟨g, 0, none⟩) i cap) (xs.take i) ∧ w.grownBy (w.setCells g i seg) (some g) := by
  obtain ⟨g', cap', cur, e, hb, hg, hc, h1, h2, h3, hH⟩ := row_open h hn (by omega)
  injection e with e1 e2 e3
  injection e1 with e1
  injection e1 with e1 _
  subst e1 e3
  obtain ⟨cur', c1, c2, c3⟩ := setCells_row seg i w cur hc (by omega)
  obtain ⟨s1, s2, s3, s4⟩ := setCells_same g seg i w
  have ht : (xs.take i).length = i := by rw [List.length_take]; omega
  refine ⟨?_, ⟨s1, s2, s3, by omega, fun k _ hne => setCells_far seg i k (fun e => hne (by rw [e]))⟩⟩
  have := row_shut (ys := xs.take i) hb c1 (by omega) h2 (by omega) (fun v hv => hn v (List.mem_of_mem_take hv)) (fun j hj => by
    have hji : j < i := by omega
    rw [← Array.getElem?_toList, c3, List.append_assoc, List.getElem?_append_left (by rw [List.length_take]; simp; omega), List.getElem?_take_of_lt hji, Array.getElem?_toList]
    have hcl := (hH j (by simp; omega)).1
    rw [Nat.zero_add, blk_cell hc] at hcl
    rw [hcl, getElem!_pos xs.toArray j (by simp; omega), List.getD_eq_getElem?_getD, List.getElem?_take_of_lt hji, List.getElem?_eq_getElem (by omega)]
    simp)
  rwa [ht] at this
/-- Where the closure's two variables lie. -/
def Two (w : World) (pb qb : Nat) (p q : Nat) : Prop := w.heap[pb]? = some (.cells #[.float .f32 p] 26 (0, 0)) ∧ w.heap[qb]? = some (.cells #[.float .f32 q] 26 (0, 0))
theorem fb1_any (pb qb p q x : Nat) (w : World) (h : Two w pb qb p q) :
    Calls Try.prog 30 #[.float .f32 x, .pointer (some ⟨pb, 0, none⟩), .pointer (some ⟨qb, 0, none⟩)] w fun e w' => e = .returned (.bool (!fin p q x)) ∧ w = w' := by
  have c0 := cell_of_one h.1
  have c1 := cell_of_one h.2
  have HB := Lib.hid (fun w => between_any x p q w)
  clear h
  go_enter Try.func30, Try.ntmps30
  go_wp2_with (go_at_call 31; refine (HB.out _).mono ?_; rintro e w' ⟨rfl, rfl⟩)
  go_ret
  exact ⟨rfl, rfl⟩
/-- The first place whose number is to be struck out. -/
def fstB (p q : Nat) (F : List Nat) (k : Nat) : Prop := k ≤ F.length ∧ (∀ j, j < k → fin p q (F.getD j 0) = true) ∧ (k < F.length → fin p q (F.getD k 0) = false)
set_option maxHeartbeats 4000000 in
theorem indexB_any (pb qb p q : Nat) (A : Option Addr) (c : Nat) (F : List Nat) (w : World) (hA : Kd.C kf w A F.length F) (hn : allNn F) (hm : F.length ≤ 1048576) (h2 : Two w pb qb p q) :
    Calls Try.prog 55 #[.slice A F.length c, .func (.func 30) #[] #[.pointer (some ⟨pb, 0, none⟩), .pointer (some ⟨qb, 0, none⟩)]] w fun e w' => ∃ k, fstB p q F k ∧ e = .returned (.int .i64 (if k = F.length then -1 else k)) ∧ w = w' := by
  have HA := Lib.hid hA
  have HN := Lib.hid hn
  have HF := Lib.hid (fun x => fb1_any pb qb p q x w h2)
  clear hA hn h2
  go_enter Try.func55, Try.ntmps55
  go_wp2
  go_loop [8] (fun i => ∃ k : Nat, k ≤ F.length ∧ i = .int .i64 k ∧ Hid (∀ j, j < k → fin p q (F.getD j 0) = true)) (fun i => F.length - (intOf i).toNat)
  case atStart => exact ⟨0, Nat.zero_le _, rfl, Lib.hid (fun j hj => absurd hj (by omega))⟩
  case round =>
    obtain ⟨k, hk, rfl, HK⟩ := hrel
    by_cases hlt : k < F.length
    · obtain ⟨b, off, rfl, hbl, d0, _⟩ := at_nn HA.out HN.out rfl k hlt
      obtain ⟨x, hx⟩ : ∃ x, F.getD k 0 = x := ⟨_, rfl⟩
      rw [hx] at d0
      have hltI : (k : Int) < (F.length : Int) := by omega
      have hk0 : (0 : Int) ≤ (k : Int) := by omega
      cases hp : fin p q x
      · have HC := Lib.hid (show Calls Try.prog 30 #[.float .f32 x, .pointer (some ⟨pb, 0, none⟩), .pointer (some ⟨qb, 0, none⟩)] w fun e w' => e = .returned (.bool true) ∧ w = w' by have := HF.out x; rw [hp] at this; exact this)
        have HD := Lib.hid (hx.symm ▸ hp)
        clear hp hx
        go_wp2_with (go_at_call 30; refine (HC.out).mono ?_; rintro e w' ⟨rfl, rfl⟩)
        go_ret
        exact ⟨k, ⟨hk, HK.out, fun _ => HD.out⟩, by rw [if_neg (by omega)]; rfl, rfl⟩
      · have HC := Lib.hid (show Calls Try.prog 30 #[.float .f32 x, .pointer (some ⟨pb, 0, none⟩), .pointer (some ⟨qb, 0, none⟩)] w fun e w' => e = .returned (.bool false) ∧ w = w' by have := HF.out x; rw [hp] at this; exact this)
        have HD := Lib.hid (hx.symm ▸ hp)
        clear hp hx
        go_wp2_with (go_at_call 30; refine (HC.out).mono ?_; rintro e w' ⟨rfl, rfl⟩)
        go_round
        case rel => exact ⟨k + 1, by omega, by go_num, Lib.hid (fun j hj => by
          by_cases e : j = k
          · rw [e]; exact HD.out
          · exact HK.out j (by omega))⟩
        case measure => simp [intOf]; omega
    · go_wp2
      go_ret
      have hkl : k = F.length := by omega
      exact ⟨k, ⟨hk, HK.out, fun h => absurd h hlt⟩, by rw [if_pos hkl]; rfl, rfl⟩
theorem take_filter_succ {B : Nat → Bool} {F : List Nat} {k : Nat} (hk : k < F.length) : (F.take (k + 1)).filter B = if B (F.getD k 0) = true then (F.take k).filter B ++ [F.getD k 0] else (F.take k).filter B := by
  have e : F.take (k + 1) = F.take k ++ [F.getD k 0] := by
    rw [List.getD_eq_getElem?_getD, List.getElem?_eq_getElem hk, List.take_add_one, List.getElem?_eq_getElem hk]
    rfl
  rw [e, List.filter_append]
  by_cases h : B (F.getD k 0) = true
  · rw [if_pos h, List.filter_cons, if_pos h]; rfl
  · rw [if_neg h, List.filter_cons, if_neg h]
    simp
theorem take_filter_all {B : Nat → Bool} {F : List Nat} : ∀ k, k ≤ F.length → (∀ j, j < k → B (F.getD j 0) = true) → (F.take k).filter B = F.take k := by
  intro k hk h
  rw [List.filter_eq_self]
  intro x hx
  obtain ⟨j, hj, rfl⟩ := List.getElem_of_mem hx
  rw [List.length_take] at hj
  have := h j (by omega)
  rw [List.getD_eq_getElem?_getD, List.getElem?_eq_getElem (by omega)] at this
  rw [List.getElem_take]
  exact this
theorem set_take {xs : List Nat} {i x : Nat} (h : i < xs.length) : (xs.set i x).take (i + 1) = xs.take i ++ [x] := by
  rw [List.take_add_one, List.take_set_of_le (Nat.le_refl _), List.getElem?_set, if_pos rfl, if_pos h]
  rfl
theorem getD_set_ne {xs : List Nat} {i t x : Nat} (h : i ≠ t) : (xs.set i x).getD t 0 = xs.getD t 0 := by
  rw [List.getD_eq_getElem?_getD, List.getD_eq_getElem?_getD, List.getElem?_set, if_neg h]
theorem allNn_set {xs : List Nat} {i x : Nat} (h : allNn xs) (hx : nn x) : allNn (xs.set i x) := fun v hv => by
  rcases List.mem_or_eq_of_mem_set hv with e | e
  · exact h v e
  · rw [e]; exact hx
theorem zeroV : ∀ w, (zeroValue 26).run Try.prog w = .ok (Value.float .f32 0) w := fun w => by kernel_rfl
set_option maxHeartbeats 8000000 in
theorem deleteB_any (base pb qb p q : Nat) (v : Value) (F : List Nat) (w : World) (hR : RW kf 26 w base v F) (hn : allNn F) (hm : F.length ≤ 1048576) (hp0 : 0 < F.length) (h2 : Two w pb qb p q) (hne : ∀ k, v.ownBlock = some k → k ≠ pb ∧ k ≠ qb) :
    Calls Try.prog 29 #[v, .func (.func 30) #[] #[.pointer (some ⟨pb, 0, none⟩), .pointer (some ⟨qb, 0, none⟩)]] w fun e w' => ∃ v', e = .returned v' ∧ RW kf 26 w' base v' (F.filter fun x => fin p q x) ∧ w.grownBy w' v.ownBlock := by
  obtain ⟨g, cap, cur, hv, hb, hg, _, hcap, hmax, _, _⟩ := row_open hR hn hp0
  subst hv
  have hgp : g ≠ pb ∧ g ≠ qb := hne g rfl
  obtain ⟨A', c', e', hc', hC⟩ := RW.reads hR
  injection e' with e1 _ e3
  subst e1 e3
  have HI := Lib.hid (indexB_any pb qb p q (some ⟨g, 0, none⟩) cap F w hC hn hm h2)
  have HF := Lib.hid (fun x w (h : Two w pb qb p q) => fb1_any pb qb p q x w h)
  have HR := Lib.hid hR
  have HN := Lib.hid hn
  have H2 := Lib.hid h2
  have HGP := Lib.hid hgp
  unfold maxLen at hmax
  obtain ⟨out, hout⟩ : ∃ out, F.filter (fun x => fin p q x) = out := ⟨_, rfl⟩
  rw [hout]
  clear hR hn h2 hne hC hc' hgp
  go_enter Try.func29, Try.ntmps29
  go_wp2_with fail
  go_at_call 55
  refine (HI.out).mono ?_
  rintro e w1 ⟨k, ⟨hk, hall, hk2⟩, rfl, rfl⟩
  have HA := Lib.hid hall
  clear hall HI
  by_cases hkl : k = F.length
  · rw [if_pos hkl]
    have hflt : F.filter (fun x => fin p q x) = F := by
      have := take_filter_all (B := fun x => fin p q x) (F := F) k hk HA.out
      rw [hkl, List.take_length] at this
      exact this
    have HFL := Lib.hid (hout.symm.trans hflt)
    clear hk2 hkl hflt
    go_wp2
    go_ret
    exact ⟨_, rfl, by rw [HFL.out]; exact HR.out, World.grownBy.refl _ _⟩
  · rw [if_neg hkl]
    have hlt : k < F.length := by omega
    have hneg : ¬ ((k : Int) = -1) := by omega
    have hneg2 : ((k : Int) == -1) = false := beq_eq_false_iff_ne.2 hneg
    have HK := Lib.hid (show F.take k = (F.take (k + 1)).filter (fun x => fin p q x) by rw [take_filter_succ hlt, if_neg (by rw [hk2 hlt]; decide), take_filter_all k hk HA.out])
    clear hk2 hkl
    go_wp2
    go_loopw [5, 6, 7] (fun i j _ wr => ∃ a b : Nat, ∃ xs : List Nat, a < b ∧ b ≤ F.length ∧ i = .int .i64 a ∧ j = .int .i64 b ∧ xs.length = F.length ∧ Hid (RW kf 26 wr base (.slice (some ⟨g, 0, none⟩) F.length cap) xs) ∧ Hid (xs.take a = (F.take b).filter fun x => fin p q x) ∧ Hid (∀ t, b ≤ t → xs.getD t 0 = F.getD t 0) ∧ Hid (allNn xs) ∧ Hid (w.grownBy wr (some g))) (fun _ j _ _ => F.length - (intOf j).toNat)
    case atStart => exact ⟨k, k + 1, F, by omega, hlt, rfl, by go_num, rfl, HR, HK, Lib.hid (fun _ _ => rfl), HN, Lib.hid (World.grownBy.refl _ _)⟩
    case round =>
      clear HR HK HN hlt hneg hneg2 hk
      obtain ⟨a, b, xs, hab, hbn, rfl, rfl, hxl, HR, HT, HE, HN, HG⟩ := hrel
      have hglt : g < wr.heap.size := Nat.lt_of_lt_of_le hg HG.out.size
      have h2 : Two wr pb qb p q := ⟨blk_grown H2.out.1 HG.out (fun e => HGP.out.1 (by injection e with e; exact e.symm)), blk_grown H2.out.2 HG.out (fun e => HGP.out.2 (by injection e with e; exact e.symm))⟩
      have haI : (0 : Int) ≤ (a : Int) := by omega
      have hbI : (0 : Int) ≤ (b : Int) := by omega
      have habI : (a : Int) < (b : Int) := by omega
      by_cases hlt : b < F.length
      · obtain ⟨A', c', e', _, hC⟩ := RW.reads HR.out
        injection e' with e1 e2 e3
        subst e1 e3
        clear e2
        have d0 := at_nnk hC HN.out rfl b (by omega) g 0 rfl
        have hxn : nn (xs.getD b 0) := HN.out _ (getD_mem (by omega))
        have hx0 := HE.out b (Nat.le_refl _)
        obtain ⟨x, hx⟩ : ∃ x, F.getD b 0 = x := ⟨_, rfl⟩
        rw [hx0, hx] at d0 hxn
        rw [Nat.zero_add] at d0
        have hltI : (b : Int) < (F.length : Int) := by omega
        have haI2 : (a : Int) < (F.length : Int) := by omega
        have HX := Lib.hid (show (F.take (b + 1)).filter (fun x => fin p q x) = if fin p q x = true then (F.take b).filter (fun x => fin p q x) ++ [x] else (F.take b).filter (fun x => fin p q x) by rw [take_filter_succ hlt, hx])
        clear hC hx0 hx
        cases hp : fin p q x
        · have HC := Lib.hid (show Calls Try.prog 30 #[.float .f32 x, .pointer (some ⟨pb, 0, none⟩), .pointer (some ⟨qb, 0, none⟩)] wr fun e w' => e = .returned (.bool true) ∧ wr = w' by have := HF.out x wr h2; rw [hp] at this; exact this)
          have HX2 := Lib.hid (show (F.take (b + 1)).filter (fun x => fin p q x) = (F.take b).filter (fun x => fin p q x) by rw [HX.out, if_neg (by rw [hp]; decide)])
          clear hp h2
          have HXL := Lib.hid hxl
          clear hxl
          obtain ⟨wo, hwo⟩ : ∃ wo : World, wo = wr := ⟨_, rfl⟩
          subst hwo
          go_wp2_with (go_at_call 30; refine (HC.out).mono ?_; rintro e w' ⟨rfl, rfl⟩)
          go_roundw
          case rel => exact ⟨a, b + 1, xs, by omega, hlt, rfl, by go_num, HXL.out, HR, Lib.hid (by rw [HX2.out]; exact HT.out), Lib.hid (fun t ht => HE.out t (by omega)), HN, HG⟩
          case measure => simp [intOf]; omega
        · have HC := Lib.hid (show Calls Try.prog 30 #[.float .f32 x, .pointer (some ⟨pb, 0, none⟩), .pointer (some ⟨qb, 0, none⟩)] wr fun e w' => e = .returned (.bool false) ∧ wr = w' by have := HF.out x wr h2; rw [hp] at this; exact this)
          have HX2 := Lib.hid (show (F.take (b + 1)).filter (fun x => fin p q x) = xs.take a ++ [x] by rw [HX.out, if_pos hp, HT.out])
          obtain ⟨ce, hcl, hM, hcc, hfr⟩ := Kd.R_elem HR.out 0 (a : Int) (by omega) (by omega)
          obtain ⟨r2, rfl, _⟩ := kf_openM hM
          have x0 : wr.cell? ⟨g, a, none⟩ = some (.float .f32 r2) := by have := hcc 0 _ rfl; rwa [show (a : Int).toNat * kf.sz + 0 = a from by show a * 1 + 0 = a; omega] at this
          have f0 : wr.frozen? ⟨g, a, none⟩ = false := by have := hfr 0; rwa [show (a : Int).toNat * kf.sz + 0 = a from by show a * 1 + 0 = a; omega] at this
          have HS0 := Kd.R_seg HR.out (a : Int) (by omega) (by omega) (seg := [.float .f32 x]) (j := 0) hcl hcc (show 1 ≤ 1 from Nat.le_refl 1) (x' := x) (kf_mkM wr _ (fun q => True ∧ q ≠ g) (nn_FV hxn)) (fun _ h => h)
          have e1 : wr.setCells g ((a : Int).toNat * kf.sz + 0) [.float .f32 x] = wr.setCell ⟨g, a, none⟩ (.float .f32 x) := by show wr.setCell ⟨g, a * 1 + 0, none⟩ _ = _; rw [show a * 1 + 0 = a from by omega]
          rw [e1, Int.toNat_natCast] at HS0
          have HS := Lib.hid HS0
          have HXN := Lib.hid hxn
          clear hcl hM hcc hfr HS0 e1 hp h2 hxn
          have HXL := Lib.hid hxl
          clear hxl
          obtain ⟨wo, hwo⟩ : ∃ wo : World, wo = wr := ⟨_, rfl⟩
          subst hwo
          go_wp2_with (go_at_call 30; refine (HC.out).mono ?_; rintro e w' ⟨rfl, rfl⟩)
          go_roundw
          case rel => exact ⟨a + 1, b + 1, xs.set a x, by omega, hlt, by go_num, by go_num, by rw [List.length_set]; exact HXL.out, Lib.hid HS.out.1, Lib.hid (by rw [HX2.out, set_take (by have := HXL.out; omega)]), Lib.hid (fun t ht => by rw [getD_set_ne (by omega)]; exact HE.out t (by omega)), Lib.hid (allNn_set HN.out HXN.out), Lib.hid (HG.out.trans HS.out.2)⟩
          case measure => simp [intOf]; omega
      · obtain rfl : b = F.length := by omega
        obtain ⟨g', cap', cur', e', _, _, _, _, _, _, hH⟩ := row_open HR.out HN.out (by omega)
        injection e' with e1 e2 e3
        clear e2 e3
        injection e1 with e1
        injection e1 with e1 _
        subst e1
        have hcl : ∀ ty, (Builtin.clear_ #[28] ty #[.slice (some ⟨g, a, none⟩) (F.length - a) (cap - a)]).run Try.prog wr = .ok (.tuple #[]) (wr.setCells g a (List.replicate (F.length - a) (.float .f32 0))) :=
          fun ty => Lib.run_clear_slice wr _ _ ty _ Try.underlying28 zeroV rfl rfl g a _ _ (by omega) (fun j hj => by have := (hH (a + j) (by simp; omega)).1; rw [Nat.zero_add] at this; rw [this]; rfl) (fun j hj => by have := (hH (a + j) (by simp; omega)).2; rw [Nat.zero_add] at this; exact this)
        have HO := Lib.hid (row_over HR.out HN.out hxl (by omega) (List.replicate (F.length - a) (.float .f32 0)) (i := a) (by rw [List.length_replicate]; omega))
        rw [List.take_length] at HT
        rw [HT.out, hout] at HO
        clear hH
        have HXL := Lib.hid hxl
        clear hxl
        go_wp2
        go_ret
        exact ⟨_, rfl, HO.out.1, HG.out.trans HO.out.2⟩
end Go.Proofs.Ytggcajillncamaa
namespace Go.Proofs.Ytggcajillncamaa
open Go.RowKit Ieee
open Go.Proofs.YtggcajillncamaaW.PrintWords
set_option maxRecDepth 100000
attribute [local irreducible] wpRel
def plnR (r : Nat) : Bool := fin 3380609024 1233125376 r
theorem plnS_any (r : Nat) (w : World) : Calls Try.prog 32 #[.float .f32 r] w fun e w' => e = .returned (.bool (plnR r)) ∧ w = w' := by
  go_enter Try.func32, Try.ntmps32
  go_wp2
  all_goals (go_ret; refine ⟨?_, rfl⟩; simp [plnR, fin, *])
theorem plnI_any (r : Nat) (w : World) : Calls Try.prog 28 #[.float .f32 r] w fun e w' => e = .returned (.bool (plnR r)) ∧ w = w' := by
  have HB := Lib.hid (fun w => between_any r 3380609024 1233125376 w)
  go_enter Try.func28, Try.ntmps28
  go_wp2_with (go_at_call 31; refine (HB.out _).mono ?_; rintro e w' ⟨rfl, rfl⟩)
  go_ret
  exact ⟨rfl, rfl⟩
theorem isn_of_fin {a b x : Nat} (h : fin a b x = true) : isn x = false := by
  cases hx : isn x
  · rfl
  · unfold fin fle at h
    rw [order_nr a hx] at h
    simp at h
theorem dord_some {x y : Datum} (h : x.isNaN = false) (h' : y.isNaN = false) : (x.order y).isSome = true := by
  cases x <;> cases y <;> simp_all [Datum.isNaN, Datum.order]
/-- Two plain numbers are ordered. -/
theorem pln_gt {p q : Nat} (hp : plnR p = true) (hq : plnR q = true) : flt q p = !fle p q := by
  have h3 : (single.order p q).isSome = true := dord_some (isn_of_fin hp) (isn_of_fin hq)
  unfold fle flt
  rw [single_swap p q]
  revert h3
  cases single.order p q with
  | none => simp
  | some o => cases o <;> simp
def fbB (p q : Nat) : Bool := plnR p && (plnR q && fle p q)
def fbCode (l : List Int) (p q : Nat) : Int := if boxOk l = true then (if fbB p q = true then 0 else 2) else 1
def fbOut (l : List Int) (p q : Nat) : List Nat := if boxOk l = true then (if fbB p q = true then (allF l).filter (fun x => fin p q x) else []) else []
def FbQ (l : List Int) (p q : Nat) (w : World) (e : Ending) (w' : World) : Prop :=
  (∃ v, e = .returned (.tuple #[v, .int .i64 (fbCode l p q)]) ∧ RW kf 26 w' w.heap.size v (fbOut l p q)) ∧ Below w.heap.size w w'
theorem boxCode_any (A : Option Addr) (c : Nat) (l : List Int) (f : Bool) (w : World) (hA : Kd.C ki16 w A l.length l) (hm : l.length ≤ 2000000) :
    Calls Try.prog 27 #[.slice A l.length c, .bool f] w fun e w' => e = .returned (.int .i64 (if boxOk l = true then (if f = true then 0 else 2) else 1)) ∧ w = w' := by
  have HV := Lib.hid (validBox_impl A c l w hA hm)
  clear hA
  cases hb : boxOk l
  · rw [hb] at HV
    clear hb
    go_enter Try.func27, Try.ntmps27
    go_wp2_with (go_at_call 22; refine (HV.out).mono ?_; rintro e w1 ⟨rfl, rfl⟩)
    go_ret
    exact ⟨rfl, rfl⟩
  · rw [hb] at HV
    clear hb
    cases f
    all_goals
      go_enter Try.func27, Try.ntmps27
      go_wp2_with (go_at_call 22; refine (HV.out).mono ?_; rintro e w1 ⟨rfl, rfl⟩)
      go_ret
      exact ⟨rfl, rfl⟩
theorem fbCode_bad {l : List Int} {p q : Nat} (h : ¬ (boxOk l = true ∧ fbB p q = true)) : fbCode l p q ≠ 0 ∧ fbOut l p q = [] := by
  unfold fbCode fbOut
  by_cases h1 : boxOk l = true
  · by_cases h2 : fbB p q = true
    · exact absurd ⟨h1, h2⟩ h
    · rw [if_pos h1, if_pos h1, if_neg h2, if_neg h2]; exact ⟨by decide, rfl⟩
  · rw [if_neg h1, if_neg h1]; exact ⟨by decide, rfl⟩
theorem two_new (w : World) (p q : Nat) : Two ((w.alloc (.cells #[.float .f32 p] 26)).alloc (.cells #[.float .f32 q] 26)) w.heap.size (w.heap.size + 1) p q := by
  refine ⟨?_, ?_⟩
  · exact blk_alloc (heap_alloc_new w _) _
  · have := heap_alloc_new (w.alloc (.cells #[.float .f32 p] 26)) (.cells #[.float .f32 q] 26)
    simpa using this
set_option maxHeartbeats 4000000 in
theorem fb_impl (A : Option Addr) (c : Nat) (l : List Int) (p q : Nat) (w : World) (hA : Kd.C ki16 w A l.length l) (hm : l.length ≤ 1048576) :
    Calls Try.prog 13 #[.slice A l.length c, .float .f32 p, .float .f32 q] w (FbQ l p q w) := by
  have h2 := two_new w p q
  have hb2 : Below w.heap.size w ((w.alloc (.cells #[.float .f32 p] 26)).alloc (.cells #[.float .f32 q] 26)) := balloc (balloc (Below.refl _ _) _) _
  have hsz : ((w.alloc (.cells #[.float .f32 p] 26)).alloc (.cells #[.float .f32 q] 26)).heap.size = w.heap.size + 2 := by simp
  have c0 := cell_of_one h2.1
  have c1 := cell_of_one h2.2
  have HC := Lib.hid (fun f => boxCode_any A c l f _ (Kd.C_below hA hb2) (by omega))
  have HP := Lib.hid plnI_any
  have HB2 := Lib.hid hb2
  have H2 := Lib.hid h2
  clear hb2 h2
  by_cases hok : boxOk l = true ∧ fbB p q = true
  · obtain ⟨hk, hf⟩ := hok
    obtain ⟨hw, h22, h24⟩ := allW_of hk
    have hpq : plnR p = true ∧ plnR q = true ∧ fle p q = true := by unfold fbB at hf; simpa using hf
    obtain ⟨hp, hq, hle⟩ := hpq
    have HF := Lib.hid (factors_any A c l _ (Kd.C_below hA HB2.out) h22 h24 hw)
    have e1 : fbCode l p q = 0 := by unfold fbCode; rw [if_pos hk, if_pos hf]
    have e2 : fbOut l p q = (allF l).filter (fun x => fin p q x) := by unfold fbOut; rw [if_pos hk, if_pos hf]
    have HC2 := Lib.hid (show Calls _ _ _ _ (fun e w' => e = .returned (.int .i64 0) ∧ _ = w') from by have := HC.out true; rw [if_pos hk, if_pos rfl] at this; exact this)
    have HN := Lib.hid (allF_nn hw)
    have h02 := allF_two hk
    have h576 := allF_len (l := l) h24
    unfold FbQ
    rw [e1, e2]
    clear hA e1 e2 HC hk hf hw
    obtain ⟨F, hF⟩ : ∃ F, allF l = F := ⟨_, rfl⟩
    rw [hF] at HF HN h02 h576 ⊢
    clear hF
    go_enter Try.func13, Try.ntmps13
    go_wp2_with fail
    obtain ⟨W, hW⟩ : ∃ W, ((w.alloc (.cells #[.float .f32 p] 26)).alloc (.cells #[.float .f32 q] 26)) = W := ⟨_, rfl⟩
    rw [hW] at c0 c1 HF HC2 HB2 H2 hsz ⊢
    clear hW
    go_at_call 28
    refine (HP.out _ _).mono ?_
    rintro e w' ⟨rfl, rfl⟩
    go_wp2_with fail
    go_at_call 28
    refine (HP.out _ _).mono ?_
    rintro e w' ⟨rfl, rfl⟩
    go_wp2_with fail
    go_at_call 27
    refine (HC2.out).mono ?_
    rintro e w' ⟨rfl, rfl⟩
    go_wp2_with fail
    go_at_call 23
    refine (HF.out).mono ?_
    rintro e w3 ⟨v, rfl, hr, hb3⟩
    have HR := Lib.hid hr
    have k3 := bstep HB2.out hb3
    have HT := Lib.hid (show Two w3 w.heap.size (w.heap.size + 1) p q from ⟨blk_below H2.out.1 hb3, blk_below H2.out.2 hb3⟩)
    clear hr c0 c1
    go_wp2_with fail
    go_at_call 29
    refine (deleteB_any W.heap.size w.heap.size (w.heap.size + 1) p q v F w3 HR.out HN.out (by omega) (by omega) HT.out (fun k hk => by have := HR.out.base_le k hk; omega)).mono ?_
    rintro e w4 ⟨v4, rfl, hr4, hg4⟩
    have HR4 := Lib.hid hr4
    have HG4 := Lib.hid hg4
    clear hr4 hg4
    go_wp2
    go_ret2
    exact ⟨⟨_, rfl, HR4.out.lower (by omega)⟩, k3.grown HG4.out k3.size (fun k hk => by have := HR.out.base_le k hk; omega)⟩
  · obtain ⟨hcd, ho⟩ := fbCode_bad hok
    have key : ∀ f, f = fbB p q → Calls Try.prog 27 #[.slice A l.length c, .bool f] ((w.alloc (.cells #[.float .f32 p] 26)).alloc (.cells #[.float .f32 q] 26)) (fun e w' => e = .returned (.int .i64 (fbCode l p q)) ∧ ((w.alloc (.cells #[.float .f32 p] 26)).alloc (.cells #[.float .f32 q] 26)) = w') := by
      rintro f rfl
      exact HC.out (fbB p q)
    have HK := Lib.hid key
    unfold FbQ
    rw [ho]
    obtain ⟨cd, hcd2⟩ : ∃ cd, fbCode l p q = cd := ⟨_, rfl⟩
    rw [hcd2] at HK hcd ⊢
    clear hA key HC ho hok hcd2
    have hcd3 : (cd == 0) = false := beq_eq_false_iff_ne.2 hcd
    cases hp : plnR p
    · have HK2 := Lib.hid (HK.out false (by unfold fbB; rw [hp]; rfl))
      clear HK
      go_enter Try.func13, Try.ntmps13
      go_wp2_with fail
      obtain ⟨W, hW⟩ : ∃ W, ((w.alloc (.cells #[.float .f32 p] 26)).alloc (.cells #[.float .f32 q] 26)) = W := ⟨_, rfl⟩
      rw [hW] at c0 c1 HK2 HB2 H2 hsz ⊢
      clear hW
      go_at_call 28
      refine (HP.out _ _).mono ?_
      rintro e w' ⟨rfl, rfl⟩
      go_wp2_with (go_at_call 27; refine (HK2.out).mono ?_; rintro e w' ⟨rfl, rfl⟩)
      go_ret2
      exact ⟨⟨_, rfl, RW.nil _ _ _ _⟩, HB2.out⟩
    · cases hq : plnR q
      · have HK2 := Lib.hid (HK.out false (by unfold fbB; rw [hp, hq]; rfl))
        clear HK
        go_enter Try.func13, Try.ntmps13
        go_wp2_with fail
        obtain ⟨W, hW⟩ : ∃ W, ((w.alloc (.cells #[.float .f32 p] 26)).alloc (.cells #[.float .f32 q] 26)) = W := ⟨_, rfl⟩
        rw [hW] at c0 c1 HK2 HB2 H2 hsz ⊢
        clear hW
        go_at_call 28
        refine (HP.out _ _).mono ?_
        rintro e w' ⟨rfl, rfl⟩
        go_wp2_with fail
        go_at_call 28
        refine (HP.out _ _).mono ?_
        rintro e w' ⟨rfl, rfl⟩
        go_wp2_with (go_at_call 27; refine (HK2.out).mono ?_; rintro e w' ⟨rfl, rfl⟩)
        go_ret2
        exact ⟨⟨_, rfl, RW.nil _ _ _ _⟩, HB2.out⟩
      · cases hle : fle p q
        all_goals
          have hk3 := HK.out (fle p q) (by unfold fbB; rw [hp, hq]; rfl)
          rw [hle] at hk3
          have HK2 := Lib.hid hk3
          clear hk3
          clear HK
          go_enter Try.func13, Try.ntmps13
          go_wp2_with fail
          obtain ⟨W, hW⟩ : ∃ W, ((w.alloc (.cells #[.float .f32 p] 26)).alloc (.cells #[.float .f32 q] 26)) = W := ⟨_, rfl⟩
          rw [hW] at c0 c1 HK2 HB2 H2 hsz ⊢
          clear hW
          go_at_call 28
          refine (HP.out _ _).mono ?_
          rintro e w' ⟨rfl, rfl⟩
          go_wp2_with fail
          go_at_call 28
          refine (HP.out _ _).mono ?_
          rintro e w' ⟨rfl, rfl⟩
          go_wp2_with (go_at_call 27; refine (HK2.out).mono ?_; rintro e w' ⟨rfl, rfl⟩)
          go_ret2
          exact ⟨⟨_, rfl, RW.nil _ _ _ _⟩, HB2.out⟩
set_option maxHeartbeats 8000000 in
theorem fb_spec (A : Option Addr) (c : Nat) (l : List Int) (p q : Nat) (w : World) (hA : Kd.C ki16 w A l.length l) (hm : l.length ≤ 1048576) :
    Calls Try.prog 14 #[.slice A l.length c, .float .f32 p, .float .f32 q] w (FbQ l p q w) := by
  have HP := Lib.hid plnS_any
  have HEM := Lib.hid (fun W (h : Below w.heap.size w W) => RW.empty (w := W.alloc (.cells #[] 26)) kf 26 w.heap.size W.heap.size (heap_alloc_new W _) h.size)
  cases hk : boxOk l
  · have HO := Lib.hid (show Calls Try.prog 24 #[.slice A l.length c] w fun e w' => e = .returned (.bool false) ∧ Below w.heap.size w w' by have := l05Ok_any A c l w hA (by omega); rw [hk] at this; exact this)
    have e1 : fbCode l p q = 1 := by unfold fbCode; rw [hk]; rfl
    have e2 : fbOut l p q = [] := by unfold fbOut; rw [hk]; rfl
    unfold FbQ
    rw [e1, e2]
    clear hA e1 e2 hk
    go_enter Try.func14, Try.ntmps14
    go_wp2_with (go_at_call 24; refine (HO.out).mono ?_; rintro e w1 ⟨rfl, hb1⟩)
    go_ret2
    exact ⟨⟨_, rfl, HEM.out _ hb1⟩, balloc hb1 _⟩
  · have HO := Lib.hid (show Calls Try.prog 24 #[.slice A l.length c] w fun e w' => e = .returned (.bool true) ∧ Below w.heap.size w w' by have := l05Ok_any A c l w hA (by omega); rw [hk] at this; exact this)
    have e1 : fbCode l p q = if fbB p q = true then 0 else 2 := by unfold fbCode; rw [if_pos hk]
    have e2 : fbOut l p q = if fbB p q = true then (allF l).filter (fun x => fin p q x) else [] := by unfold fbOut; rw [if_pos hk]
    unfold FbQ
    rw [e1, e2]
    cases hp : plnR p
    · have e3 : fbB p q = false := by unfold fbB; rw [hp]; rfl
      rw [e3, if_neg Bool.false_ne_true, if_neg Bool.false_ne_true]
      clear hA e1 e2 e3 hk
      go_enter Try.func14, Try.ntmps14
      go_wp2_with fail
      go_at_call 24
      refine (HO.out).mono ?_
      rintro e w1 ⟨rfl, hb1⟩
      go_wp2_with (go_at_call 32; refine (HP.out _ _).mono ?_; rintro e w' ⟨rfl, rfl⟩)
      go_ret2
      exact ⟨⟨_, rfl, HEM.out _ hb1⟩, balloc hb1 _⟩
    · cases hq : plnR q
      · have e3 : fbB p q = false := by unfold fbB; rw [hp, hq]; rfl
        rw [e3, if_neg Bool.false_ne_true, if_neg Bool.false_ne_true]
        clear hA e1 e2 e3 hk
        go_enter Try.func14, Try.ntmps14
        go_wp2_with fail
        go_at_call 24
        refine (HO.out).mono ?_
        rintro e w1 ⟨rfl, hb1⟩
        go_wp2_with (go_at_call 32; refine (HP.out _ _).mono ?_; rintro e w' ⟨rfl, rfl⟩)
        go_ret2
        exact ⟨⟨_, rfl, HEM.out _ hb1⟩, balloc hb1 _⟩
      · have hgt := pln_gt hp hq
        cases hle : fle p q
        · have e3 : fbB p q = false := by unfold fbB; rw [hp, hq, hle]; rfl
          rw [e3, if_neg Bool.false_ne_true, if_neg Bool.false_ne_true]
          rw [hle] at hgt
          simp only [Bool.not_false] at hgt
          clear hA e1 e2 e3 hk
          go_enter Try.func14, Try.ntmps14
          go_wp2_with fail
          go_at_call 24
          refine (HO.out).mono ?_
          rintro e w1 ⟨rfl, hb1⟩
          go_wp2_with (go_at_call 32; refine (HP.out _ _).mono ?_; rintro e w' ⟨rfl, rfl⟩)
          go_ret2
          exact ⟨⟨_, rfl, HEM.out _ hb1⟩, balloc hb1 _⟩
        · have e3 : fbB p q = true := by unfold fbB; rw [hp, hq, hle]; rfl
          rw [e3, if_pos rfl, if_pos rfl]
          rw [hle] at hgt
          simp only [Bool.not_true] at hgt
          obtain ⟨hw, h22, h24⟩ := allW_of hk
          have HF := Lib.hid (fun w1 (h : Below w.heap.size w w1) => l05All_any A c l w1 (Kd.C_below hA h) h24 hw)
          have HN := Lib.hid (allF_nn hw)
          have h576 := allF_len (l := l) h24
          clear hA e1 e2 e3 hk hw
          obtain ⟨F, hF⟩ : ∃ F, allF l = F := ⟨_, rfl⟩
          rw [hF] at HF HN h576 ⊢
          clear hF
          obtain ⟨out, hout⟩ : ∃ out, F.filter (fun x => fin p q x) = out := ⟨_, rfl⟩
          rw [hout]
          have HOUT := Lib.hid hout
          clear hout
          go_enter Try.func14, Try.ntmps14
          go_wp2_with fail
          go_at_call 24
          refine (HO.out).mono ?_
          rintro e w1 ⟨rfl, hb1⟩
          go_wp2_with (go_at_call 32; refine (HP.out _ _).mono ?_; rintro e w' ⟨rfl, rfl⟩)
          have HE1 := Lib.hid (HEM.out _ hb1)
          have k2 := balloc hb1 (.cells #[] 26)
          have hs1 : w1.heap.size < (w1.alloc (.cells #[] 26)).heap.size := by simp
          obtain ⟨W, hW⟩ : ∃ W, w1.alloc (.cells #[] 26) = W := ⟨_, rfl⟩
          rw [hW] at k2 HE1 hs1 ⊢
          clear hW
          go_at_call 25
          refine (HF.out _ k2).mono ?_
          rintro e w3 ⟨v, rfl, hr, hb3⟩
          have HR := Lib.hid (RW.toF (hr.lower k2.size))
          have HU := Lib.hid (RW.toF (HE1.out.below hb3))
          have HNE : Hid (NE (.slice (some ⟨w1.heap.size, 0, none⟩) 0 0) v) := Lib.hid (fun k hk he => by have h1 := hr.base_le k he; have h2 : w1.heap.size = k := (by simpa [Value.ownBlock] using hk); omega)
          have k3 := bstep k2 hb3
          obtain ⟨A3, c3, hv3, _, _⟩ := RW.reads hr
          subst hv3
          clear hr HE1 k2 hs1 hb3 hb1
          go_wp2
          go_loopw [8, 10] (fun v i wr => ∃ k : Nat, k ≤ F.length ∧ i = .int .i64 k ∧ Hid (FR wr w.heap.size v ((F.take k).filter fun x => fin p q x)) ∧ Hid (FR wr w.heap.size (.slice A3 F.length c3) F) ∧ Hid (NE v (.slice A3 F.length c3)) ∧ Below w.heap.size w wr) (fun _ i _ => F.length - (intOf i).toNat)
          case atStart => exact ⟨0, Nat.zero_le _, rfl, HU, HR, HNE, k3⟩
          case round =>
            clear HR HU HNE k3
            obtain ⟨k, hk, rfl, HU, HR, HNE, hb⟩ := hrel
            by_cases hlt : k < F.length
            · obtain ⟨A', c', e', _, hC⟩ := RW.reads (RW.ofF HR.out)
              injection e' with e1 e2 e3
              subst e1 e3
              clear e2
              obtain ⟨b, off, rfl, hbl, d0, hxn⟩ := at_nn hC HN.out rfl k hlt
              have HLN := Lib.hid (show ((F.take k).filter fun x => fin p q x).length ≤ 1048576 by
                have h1 := List.length_filter_le (fun x => fin p q x) (F.take k)
                rw [List.length_take] at h1
                omega)
              have HX := Lib.hid (take_filter_succ (B := fun x => fin p q x) hlt)
              obtain ⟨x, hx⟩ : ∃ x, F.getD k 0 = x := ⟨_, rfl⟩
              rw [hx] at d0 hxn HX
              have HV := Lib.hid (nn_FV hxn)
              have hltI : (k : Int) < (F.length : Int) := by omega
              have hk0 : (0 : Int) ≤ (k : Int) := by omega
              clear hC hx hxn
              have hfin : fin p q x = (fle p x && fle x q) := rfl
              cases h1 : fle p x
              · have HX2 := Lib.hid (show (F.take (k + 1)).filter (fun x => fin p q x) = (F.take k).filter (fun x => fin p q x) by rw [HX.out, if_neg (by rw [hfin, h1]; simp)])
                clear hfin hgt hle hp hq
                go_wp2
                go_roundw
                case rel => exact ⟨k + 1, hlt, by go_num, Lib.hid (by rw [HX2.out]; exact HU.out), HR, HNE, hb⟩
                case measure => simp [intOf]; omega
              · cases h2 : fle x q
                · have HX2 := Lib.hid (show (F.take (k + 1)).filter (fun x => fin p q x) = (F.take k).filter (fun x => fin p q x) by rw [HX.out, if_neg (by rw [hfin, h1, h2]; decide)])
                  clear hfin hgt hle hp hq
                  go_wp2
                  go_roundw
                  case rel => exact ⟨k + 1, hlt, by go_num, Lib.hid (by rw [HX2.out]; exact HU.out), HR, HNE, hb⟩
                  case measure => simp [intOf]; omega
                · have HX2 := Lib.hid (show (F.take (k + 1)).filter (fun x => fin p q x) = (F.take k).filter (fun x => fin p q x) ++ [x] by rw [HX.out, if_pos (by rw [hfin, h1, h2]; rfl)])
                  clear hfin hgt hle hp hq HX
                  obtain ⟨ys, hys⟩ : ∃ ys, (F.take k).filter (fun x => fin p q x) = ys := ⟨_, rfl⟩
                  rw [hys] at HX2 HLN HU
                  clear hys
                  go_wp2_with (at_builtin; go_must ((refine apF2 (w0 := w) (o := ⟨some 58, _, _, _, _, _⟩) rfl (.tmp 52) (.tmp 57) rfl u8 (.slice (some ⟨b, off, none⟩) F.length c3) ys F x x ?y58 ?x58 HV.out ?o58 ?u58 HNE.out.symm ?b58 HLN.out ?_; (case y58 => rfl); (case x58 => go_simp); (case o58 => (with_reducible repeat (first | apply FR.alloc | apply FR.drewN | apply FR.drew)); exact HU.out); (case u58 => (with_reducible repeat (first | apply FR.alloc | apply FR.drewN | apply FR.drew)); exact HR.out); (case b58 => (repeat (first | with_reducible exact Below.refl _ _ | with_reducible refine bset ?_ (by first | (simp; done) | (simp; omega) | omega) _ | with_reducible refine balloc ?_ _ | with_reducible refine bdrewN ?_ _ | with_reducible refine bdrew ?_ | with_reducible refine bstep ?_ (by assumption)))); intro v58 w58 ho_ hu_ ne_ hb58; have HO58 := Lib.hid ho_; have HU58 := Lib.hid hu_; have NE58 := Lib.hid ne_; clear ho_ hu_ ne_)))
                  go_roundw
                  case rel => exact ⟨k + 1, hlt, by go_num, Lib.hid (by rw [HX2.out]; exact HO58.out), HU58, Lib.hid (NE58.out.symm), hb58⟩
                  case measure => simp [intOf]; omega
            · obtain rfl : k = F.length := by omega
              rw [List.take_length, HOUT.out] at HU
              clear hgt hle hp hq
              go_wp2
              go_ret2
              exact ⟨⟨_, rfl, RW.ofF HU.out⟩, hb⟩
end Go.Proofs.Ytggcajillncamaa
namespace Go.Proofs.Ytggcajillncamaa
open Go.RowKit Ieee
open Go.Proofs.YtggcajillncamaaW.PrintWords
set_option maxRecDepth 100000
attribute [local irreducible] wpRel
theorem fb_len (l : List Int) (p q : Nat) : (fbOut l p q).length ≤ 576 := by
  unfold fbOut
  split
  · rename_i hk
    split
    · exact Nat.le_trans (List.length_filter_le _ _) (allF_len (allW_of hk).2.2)
    · simp
  · simp
end Go.Proofs.Ytggcajillncamaa
