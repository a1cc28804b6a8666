/- A week's wear: contracts and laws. -/
import Derived.Test.YtljcjgliddhgkaaDoorTooth4
import Derived.Test.YtljcjgliddhgkaaDoorMin
import Derived.Great.Walk
namespace Go.Proofs.YtljcjgliddhgkaaDoor
open Go.RowKit Ieee
set_option maxRecDepth 100000

def amount (l : Nat) : Bool := fin 0 1233125376 l
theorem isAmount_any (a : Nat) (w : World) :
    Calls Tryd.prog 41 #[.float .f32 a] w fun e w' => e = .returned (.bool (amount a)) ∧ w = w' := by
  go_enter Tryd.func41, Tryd.ntmps41
  go_wp2_with (go_at_call 49; refine (between_any _ _ _ _).mono ?_; rintro e w' ⟨rfl, rfl⟩)
  all_goals (go_ret; exact ⟨rfl, rfl⟩)
theorem l03Amount_any (a : Nat) (w : World) :
    Calls Tryd.prog 43 #[.float .f32 a] w fun e w' => e = .returned (.bool (amount a)) ∧ w = w' := by
  go_enter Tryd.func43, Tryd.ntmps43
  go_wp2
  all_goals (go_ret; refine ⟨?_, rfl⟩; simp [amount, fin, *])
theorem toothCode_any (h x y : Nat) (s : Int) (hsl : -128 ≤ s) (hsu : s ≤ 127) (f : Bool) (w : World) :
    Calls Tryd.prog 40 #[.agg #[.float .f32 h, .float .f32 x, .float .f32 y, .int .i8 s], .bool f] w fun e w' => e = .returned (.int .i64 (if okTooth h x y s = true then (if f = true then 0 else 2) else 1)) ∧ Below w.heap.size w w' := by
  go_enter Tryd.func40, Tryd.ntmps40
  go_wp2_with (go_at_call 22; refine (validTooth_implx _ _ _ _ hsl hsu _).mono ?_; rintro e w' ⟨rfl, rfl⟩)
  all_goals (go_ret; refine ⟨by simp_all, ?_⟩)
  all_goals (repeat (first | with_reducible exact Below.refl _ _ | with_reducible refine bset ?_ (by first | (simp; done) | (simp; omega) | omega) _ | with_reducible refine balloc ?_ _ | with_reducible refine bdrewN ?_ _ | with_reducible refine bdrew ?_ | with_reducible refine bstep ?_ (by assumption)))

def wornV (h u l : Nat) : Nat := fmin1 (fadd (cn u) (fdiv (fmul (cn l) (fadd 1065353216 (cn u))) (cn h)))
def toothW (h x y : Nat) (s : Int) (r : Nat) : Value := .agg #[.float .f32 h, .float .f32 (if s = 0 then r else x), .float .f32 (if s = 0 then y else r), .int .i8 s]

theorem worn_val {h u l r14 r15 r18 r21 : Nat} (h14 : FV r14 (fop BinOp.add (cn 1065353216) (cn u))) (h15 : FV r15 (fop BinOp.mul (cn l) (cn r14)))
    (h18 : FV r18 (fop BinOp.quo (cn r15) (cn h))) (h21 : FV r21 (fop BinOp.add (cn u) (cn r18))) : FV (if flt 1065353216 r21 = true then 1065353216 else r21) (wornV h u l) := by
  unfold wornV fmin1
  rw [h14.1] at h15
  rw [h15.1] at h18
  rw [h18.1] at h21
  have e1 : cn 1065353216 = 1065353216 := by decide
  rw [e1] at h21
  have e2 : flt 1065353216 r21 = flt 1065353216 (cn r21) := by
    have := flt_cn 1065353216 r21
    rw [e1] at this
    exact this.symm
  rw [e2, h21.1]
  show FV _ (if flt 1065353216 (fop BinOp.add (cn u) (fop BinOp.quo (fop BinOp.mul (cn l) (fop BinOp.add 1065353216 (cn u))) (cn h))) = true then _ else _)
  split
  · exact ⟨by decide, by decide⟩
  · exact h21
set_option maxHeartbeats 4000000 in
theorem worn0_any (h x y : Nat) (l : Nat) (w : World) :
    Calls Tryd.prog 44 #[.agg #[.float .f32 h, .float .f32 x, .float .f32 y, .int .i8 0], .float .f32 l] w fun e w' => ∃ r, e = .returned (.agg #[.float .f32 h, .float .f32 r, .float .f32 y, .int .i8 0]) ∧ FV r (wornV h x l) ∧ Below w.heap.size w w' := by
  go_enter Tryd.func44, Tryd.ntmps44
  go_wp2_with (first | (refine wpList_fop (o := ⟨some 14, _, _, _, _, _⟩) rfl rfl (by first | exact .inl rfl | exact .inr (.inl rfl) | exact .inr (.inr (.inl rfl)) | exact .inr (.inr (.inr rfl))) rfl rfl ?_; intro r14 n14 h14) | (refine wpList_fop (o := ⟨some 15, _, _, _, _, _⟩) rfl rfl (by first | exact .inl rfl | exact .inr (.inl rfl) | exact .inr (.inr (.inl rfl)) | exact .inr (.inr (.inr rfl))) rfl rfl ?_; intro r15 n15 h15) | (refine wpList_fop (o := ⟨some 18, _, _, _, _, _⟩) rfl rfl (by first | exact .inl rfl | exact .inr (.inl rfl) | exact .inr (.inr (.inl rfl)) | exact .inr (.inr (.inr rfl))) rfl rfl ?_; intro r18 n18 h18) | (refine wpList_fop (o := ⟨some 21, _, _, _, _, _⟩) rfl rfl (by first | exact .inl rfl | exact .inr (.inl rfl) | exact .inr (.inr (.inl rfl)) | exact .inr (.inr (.inr rfl))) rfl rfl ?_; intro r21 n21 h21))
  · have hv := worn_val h14 h15 h18 h21
    rename_i hq
    rw [hq] at hv
    refine bodyPost_ret (v := .agg #[.float .f32 h, .float .f32 1065353216, .float .f32 y, .int .i8 0]) (by simp only [results, Tryd.results44]; go_simp; done) rfl ⟨1065353216, rfl, hv, ?_⟩
    clear hv
    (repeat (first | with_reducible exact Below.refl _ _ | with_reducible refine bset ?_ (by first | (simp; done) | (simp; omega) | omega) _ | with_reducible refine balloc ?_ _ | with_reducible refine bdrewN ?_ _ | with_reducible refine bdrew ?_ | with_reducible refine bstep ?_ (by assumption)))
  · have hv := worn_val h14 h15 h18 h21
    rename_i hq
    rw [hq] at hv
    refine bodyPost_ret (v := .agg #[.float .f32 h, .float .f32 r21, .float .f32 y, .int .i8 0]) (by simp only [results, Tryd.results44]; go_simp; done) rfl ⟨r21, rfl, hv, ?_⟩
    clear hv
    (repeat (first | with_reducible exact Below.refl _ _ | with_reducible refine bset ?_ (by first | (simp; done) | (simp; omega) | omega) _ | with_reducible refine balloc ?_ _ | with_reducible refine bdrewN ?_ _ | with_reducible refine bdrew ?_ | with_reducible refine bstep ?_ (by assumption)))
set_option maxHeartbeats 4000000 in
theorem worn1_any (h x y : Nat) (l : Nat) (w : World) :
    Calls Tryd.prog 44 #[.agg #[.float .f32 h, .float .f32 x, .float .f32 y, .int .i8 1], .float .f32 l] w fun e w' => ∃ r, e = .returned (.agg #[.float .f32 h, .float .f32 x, .float .f32 r, .int .i8 1]) ∧ FV r (wornV h y l) ∧ Below w.heap.size w w' := by
  go_enter Tryd.func44, Tryd.ntmps44
  go_wp2_with (first | (refine wpList_fop (o := ⟨some 14, _, _, _, _, _⟩) rfl rfl (by first | exact .inl rfl | exact .inr (.inl rfl) | exact .inr (.inr (.inl rfl)) | exact .inr (.inr (.inr rfl))) rfl rfl ?_; intro r14 n14 h14) | (refine wpList_fop (o := ⟨some 15, _, _, _, _, _⟩) rfl rfl (by first | exact .inl rfl | exact .inr (.inl rfl) | exact .inr (.inr (.inl rfl)) | exact .inr (.inr (.inr rfl))) rfl rfl ?_; intro r15 n15 h15) | (refine wpList_fop (o := ⟨some 18, _, _, _, _, _⟩) rfl rfl (by first | exact .inl rfl | exact .inr (.inl rfl) | exact .inr (.inr (.inl rfl)) | exact .inr (.inr (.inr rfl))) rfl rfl ?_; intro r18 n18 h18) | (refine wpList_fop (o := ⟨some 21, _, _, _, _, _⟩) rfl rfl (by first | exact .inl rfl | exact .inr (.inl rfl) | exact .inr (.inr (.inl rfl)) | exact .inr (.inr (.inr rfl))) rfl rfl ?_; intro r21 n21 h21))
  · have hv := worn_val h14 h15 h18 h21
    rename_i hq
    rw [hq] at hv
    refine bodyPost_ret (v := .agg #[.float .f32 h, .float .f32 x, .float .f32 1065353216, .int .i8 1]) (by simp only [results, Tryd.results44]; go_simp; done) rfl ⟨1065353216, rfl, hv, ?_⟩
    clear hv
    (repeat (first | with_reducible exact Below.refl _ _ | with_reducible refine bset ?_ (by first | (simp; done) | (simp; omega) | omega) _ | with_reducible refine balloc ?_ _ | with_reducible refine bdrewN ?_ _ | with_reducible refine bdrew ?_ | with_reducible refine bstep ?_ (by assumption)))
  · have hv := worn_val h14 h15 h18 h21
    rename_i hq
    rw [hq] at hv
    refine bodyPost_ret (v := .agg #[.float .f32 h, .float .f32 x, .float .f32 r21, .int .i8 1]) (by simp only [results, Tryd.results44]; go_simp; done) rfl ⟨r21, rfl, hv, ?_⟩
    clear hv
    (repeat (first | with_reducible exact Below.refl _ _ | with_reducible refine bset ?_ (by first | (simp; done) | (simp; omega) | omega) _ | with_reducible refine balloc ?_ _ | with_reducible refine bdrewN ?_ _ | with_reducible refine bdrew ?_ | with_reducible refine bstep ?_ (by assumption)))
theorem wornU_val {h u l r15 r16 r21 r22 r23 : Nat} (h15 : FV r15 (fop BinOp.add (cn 1065353216) (cn u))) (h16 : FV r16 (fop BinOp.mul (cn l) (cn r15)))
    (h21 : FV r21 (fop BinOp.quo (cn r16) (cn h))) (h22 : FV r22 (fop BinOp.add (cn u) (cn r21))) (h23 : FV r23 (fmin1 (cn r22))) : FV r23 (wornV h u l) := by
  unfold wornV
  rw [h15.1] at h16
  rw [h16.1] at h21
  rw [h21.1] at h22
  rw [h22.1] at h23
  have e1 : cn 1065353216 = 1065353216 := by decide
  rw [e1] at h23
  exact h23
set_option maxHeartbeats 2000000 in
theorem use0_any (b off : Nat) (h x y : Nat) (l : Nat) (w : World) (hlt : b < w.heap.size) (hfz : ∀ k, w.frozen? ⟨b, k, none⟩ = false)
    (c0 : w.cell? ⟨b, off, none⟩ = some (.float .f32 h)) (c1 : w.cell? ⟨b, off + 1, none⟩ = some (.float .f32 x)) (c2 : w.cell? ⟨b, off + 2, none⟩ = some (.float .f32 y)) (c3 : w.cell? ⟨b, off + 3, none⟩ = some (.int .i8 0)) :
    Calls Tryd.prog 42 #[.pointer (some ⟨b, off, none⟩), .float .f32 l] w fun e w' => ∃ r n, e = .returned (.tuple #[]) ∧ FV r (wornV h x l) ∧ w' = (w.drewN n).setCell ⟨b, off + 1, none⟩ (.float .f32 r) := by
  go_enter Tryd.func42, Tryd.ntmps42
  go_wp2_with (go_at_call 45; refine (wear_any b off x y _ (by simp) _ c1 c2 c3).mono ?_; rintro e w' ⟨rfl, n2, rfl⟩)
  first | refine region_tailN (DIs (.bool true)) 20 (by kernel_rfl) (by kernel_rfl) ?_ | refine region_tail (DIs (.bool true)) 20 (by kernel_rfl) (by kernel_rfl) ?_
  repeat (first | (refine wpRel_plain (o := ⟨some 15, _, _, _, _, _⟩) rfl (fun K hK => ?_); refine relOp_fop (drewN_Drew_closed _) rfl (by first | exact .inl rfl | exact .inr (.inl rfl) | exact .inr (.inr (.inl rfl)) | exact .inr (.inr (.inr rfl))) rfl rfl (fun r15 h15 => hK _ ?_); clear hK K) | (refine wpRel_plain (o := ⟨some 16, _, _, _, _, _⟩) rfl (fun K hK => ?_); refine relOp_fop (drewN_Drew_closed _) rfl (by first | exact .inl rfl | exact .inr (.inl rfl) | exact .inr (.inr (.inl rfl)) | exact .inr (.inr (.inr rfl))) rfl rfl (fun r16 h16 => hK _ ?_); clear hK K) | (refine wpRel_plain (o := ⟨some 21, _, _, _, _, _⟩) rfl (fun K hK => ?_); refine relOp_fop (drewN_Drew_closed _) rfl (by first | exact .inl rfl | exact .inr (.inl rfl) | exact .inr (.inr (.inl rfl)) | exact .inr (.inr (.inr rfl))) rfl rfl (fun r21 h21 => hK _ ?_); clear hK K) | (refine wpRel_plain (o := ⟨some 22, _, _, _, _, _⟩) rfl (fun K hK => ?_); refine relOp_fop (drewN_Drew_closed _) rfl (by first | exact .inl rfl | exact .inr (.inl rfl) | exact .inr (.inr (.inl rfl)) | exact .inr (.inr (.inr rfl))) rfl rfl (fun r22 h22 => hK _ ?_); clear hK K) | (refine wpRel_plain (o := ⟨some 23, _, _, _, _, _⟩) rfl (fun K hK => ?_); refine relOp_min1 (drewN_Drew_closed _) rfl h22.2 rfl rfl (fun r23 h23 => hK _ ?_); clear hK K) | (refine wpRel_plain rfl (fun K hK => ?_); intro w' hw'; obtain ⟨n', rfl⟩ := hw'; go_simp; refine ⟨Drew.mk _ _, hK _ ?_⟩; clear hK K n'))
  (refine wpRel_nil ?_; intro w' hw'; obtain ⟨nq, rfl⟩ := hw')
  simp only [List.drop]
  go_wp2
  have hv := wornU_val h15 h16 h21 h22 h23
  exact Go.Great.bodyPost_end0 (by kernel_rfl) rfl ⟨_, _, rfl, by simpa [wearV] using hv, rfl⟩
set_option maxHeartbeats 2000000 in
theorem use1_any (b off : Nat) (h x y : Nat) (l : Nat) (w : World) (hlt : b < w.heap.size) (hfz : ∀ k, w.frozen? ⟨b, k, none⟩ = false)
    (c0 : w.cell? ⟨b, off, none⟩ = some (.float .f32 h)) (c1 : w.cell? ⟨b, off + 1, none⟩ = some (.float .f32 x)) (c2 : w.cell? ⟨b, off + 2, none⟩ = some (.float .f32 y)) (c3 : w.cell? ⟨b, off + 3, none⟩ = some (.int .i8 1)) :
    Calls Tryd.prog 42 #[.pointer (some ⟨b, off, none⟩), .float .f32 l] w fun e w' => ∃ r n, e = .returned (.tuple #[]) ∧ FV r (wornV h y l) ∧ w' = (w.drewN n).setCell ⟨b, off + 2, none⟩ (.float .f32 r) := by
  go_enter Tryd.func42, Tryd.ntmps42
  go_wp2_with (go_at_call 45; refine (wear_any b off x y _ (by simp) _ c1 c2 c3).mono ?_; rintro e w' ⟨rfl, n2, rfl⟩)
  first | refine region_tailN (DIs (.bool true)) 20 (by kernel_rfl) (by kernel_rfl) ?_ | refine region_tail (DIs (.bool true)) 20 (by kernel_rfl) (by kernel_rfl) ?_
  repeat (first | (refine wpRel_plain (o := ⟨some 15, _, _, _, _, _⟩) rfl (fun K hK => ?_); refine relOp_fop (drewN_Drew_closed _) rfl (by first | exact .inl rfl | exact .inr (.inl rfl) | exact .inr (.inr (.inl rfl)) | exact .inr (.inr (.inr rfl))) rfl rfl (fun r15 h15 => hK _ ?_); clear hK K) | (refine wpRel_plain (o := ⟨some 16, _, _, _, _, _⟩) rfl (fun K hK => ?_); refine relOp_fop (drewN_Drew_closed _) rfl (by first | exact .inl rfl | exact .inr (.inl rfl) | exact .inr (.inr (.inl rfl)) | exact .inr (.inr (.inr rfl))) rfl rfl (fun r16 h16 => hK _ ?_); clear hK K) | (refine wpRel_plain (o := ⟨some 21, _, _, _, _, _⟩) rfl (fun K hK => ?_); refine relOp_fop (drewN_Drew_closed _) rfl (by first | exact .inl rfl | exact .inr (.inl rfl) | exact .inr (.inr (.inl rfl)) | exact .inr (.inr (.inr rfl))) rfl rfl (fun r21 h21 => hK _ ?_); clear hK K) | (refine wpRel_plain (o := ⟨some 22, _, _, _, _, _⟩) rfl (fun K hK => ?_); refine relOp_fop (drewN_Drew_closed _) rfl (by first | exact .inl rfl | exact .inr (.inl rfl) | exact .inr (.inr (.inl rfl)) | exact .inr (.inr (.inr rfl))) rfl rfl (fun r22 h22 => hK _ ?_); clear hK K) | (refine wpRel_plain (o := ⟨some 23, _, _, _, _, _⟩) rfl (fun K hK => ?_); refine relOp_min1 (drewN_Drew_closed _) rfl h22.2 rfl rfl (fun r23 h23 => hK _ ?_); clear hK K) | (refine wpRel_plain rfl (fun K hK => ?_); intro w' hw'; obtain ⟨n', rfl⟩ := hw'; go_simp; refine ⟨Drew.mk _ _, hK _ ?_⟩; clear hK K n'))
  (refine wpRel_nil ?_; intro w' hw'; obtain ⟨nq, rfl⟩ := hw')
  simp only [List.drop]
  go_wp2
  have hv := wornU_val h15 h16 h21 h22 h23
  exact Go.Great.bodyPost_end0 (by kernel_rfl) rfl ⟨_, _, rfl, by simpa [wearV] using hv, rfl⟩
end Go.Proofs.YtljcjgliddhgkaaDoor
