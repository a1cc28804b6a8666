/- Changes of teeth: as a kind; appends of changes and of teeth; a tooth at the beginning of a week, and behind it. Worlds that differ in one block and in new ones; a row of teeth written in place. A week of the reference. A week of the program: teeth changed, then worn, in place. -/
import Derived.Test.YtgdaompppclnlaaTeeth
import Derived.Test.YtgdaompppclnlaaRow
import Derived.Test.YtgdaompppclnlaaTorq
import Derived.Test.YtgdaompppclnlaaTooth6
import Derived.Test.YtgdaompppclnlaaGrG
import Derived.Test.YtgdaompppclnlaaTeeth4
import Derived.Test.YtgdaompppclnlaaTooth4
namespace Go.Proofs.Ytgdaompppclnlaa
open Go.RowKit Ieee
open Go.Proofs.YtgdaompppclnlaaW.PrintWords
set_option maxRecDepth 100000
attribute [local irreducible] wpRel

def kb : Kd Bool where
  sz := 1
  E := []
  K := fun _ x cs => cs = [.bool x]
  M := fun _ _ _ x cs => cs = [.bool x]
  K_len := by rintro w x cs rfl; rfl
  K_one := by rintro w x cs rfl u hu; rw [List.mem_singleton.1 hu]; rfl
  K_below := fun _ h => h
  K_of_M := fun h => h
  M_mono := fun _ h => h
  M_bound := fun h => h
  M_move := fun _ h => h
  M_lower := fun _ h => h
abbrev Chg := Int × Int × Bool
/-- A change: week, pair, new. -/
def kC : Kd Chg := Kd.pair ki16 (Kd.pair ki8 kb)
def cB (x : Chg) : Prop := (-32768 ≤ x.1 ∧ x.1 ≤ 32767) ∧ i8B x.2.1
theorem kC_open {w : World} {x : Chg} {cs : List Value} (h : kC.K w x cs) : cs = [.int .i16 x.1, .int .i8 x.2.1, .bool x.2.2] ∧ cB x := by
  obtain ⟨_, _, rfl, ⟨rfl, h1, h2⟩, _, _, rfl, ⟨rfl, h3, h4⟩, rfl⟩ := h
  exact ⟨rfl, ⟨h1, h2⟩, h3, h4⟩
theorem kC_openM {w : World} {base : Nat} {ok : Nat → Prop} {x : Chg} {cs : List Value} (h : kC.M w base ok x cs) : cs = [.int .i16 x.1, .int .i8 x.2.1, .bool x.2.2] ∧ cB x := kC_open (w := w) (kC.K_of_M h)
theorem kC_mkM (w : World) (base : Nat) (ok : Nat → Prop) {a b : Int} {c : Bool} (h : cB (a, b, c)) : kC.M w base ok (a, b, c) [.int .i16 a, .int .i8 b, .bool c] :=
  ⟨[.int .i16 a], [.int .i8 b, .bool c], rfl, ⟨rfl, h.1.1, h.1.2⟩, [.int .i8 b], [.bool c], rfl, ⟨rfl, h.2.1, h.2.2⟩, rfl⟩
theorem info_change : (Try.prog.info? 47).map (fun i => (i.zero, i.size, i.bytes)) = some (some (.agg #[.int .i16 0, .int .i8 0, .bool false]), 3, 4) := by kernel_rfl

section
variable {ops : Array Oper} {rest : List Oper} {o : Oper} {a : Act} {Q : Exit → Act → World → Prop}
/-- append(v, x) of one change. -/
theorem apC {w0 W : World} {p q : Int} {c : Bool} (hgd : o.guard = none) (s x : Operand) (ho : o.op = .call { callee := .builtin .append, args := #[s, x], argTypes := #[33, 33] })
    (v : Value) (xs : List Chg) (hs : a.eval s = v) (hx : a.eval x = .slice (some ⟨W.heap.size, 0, none⟩) 1 1)
    (HO : RW kC 47 W w0.heap.size v xs) (HB : Below w0.heap.size w0 W) (hl : xs.length ≤ 1048576) (hp : cB (p, q, c))
    (h : ∀ v1 w1, RW kC 47 w1 w0.heap.size v1 (xs ++ [(p, q, c)]) → Below w0.heap.size w0 w1 → W.grownBy w1 v.ownBlock → (v1.ownBlock = v.ownBlock ∨ ∃ b, v1.ownBlock = some b ∧ W.heap.size ≤ b) → wpList Try.prog ops Q rest (a.put o.dst v1) w1) :
    wpList Try.prog ops Q (o :: rest) a (W.alloc (.cells #[.int .i16 p, .int .i8 q, .bool c] 47)) :=
  Kd.R_append kC (w0 := w0) w0.heap.size hgd s x 33 47 (.agg #[.int .i16 0, .int .i8 0, .bool false]) 4 ho Try.underlying33 info_change rfl (by decide) (by decide) v xs (p, q, c) [.int .i16 p, .int .i8 q, .bool c] (fun _ => True) (fun _ => False) hs hx (kC_mkM _ _ _ hp) (fun _ h => h.elim) (fun _ _ => trivial) HO HB HB.size (by omega) h
/-- append(v, x) of one tooth. -/
theorem apT {w0 W : World} {r p q : Nat} {d : Int} (hgd : o.guard = none) (s x : Operand) (ho : o.op = .call { callee := .builtin .append, args := #[s, x], argTypes := #[27, 27] })
    (v : Value) (xs : List Tth) (hs : a.eval s = v) (hx : a.eval x = .slice (some ⟨W.heap.size, 0, none⟩) 1 1)
    (HO : RW kT 44 W w0.heap.size v xs) (HB : Below w0.heap.size w0 W) (hl : xs.length ≤ 1048576) (y : Tth) (hy : FV r y.1 ∧ FV p y.2.1 ∧ FV q y.2.2.1 ∧ d = y.2.2.2 ∧ i8B d)
    (h : ∀ v1 w1, RW kT 44 w1 w0.heap.size v1 (xs ++ [y]) → Below w0.heap.size w0 w1 → W.grownBy w1 v.ownBlock → (v1.ownBlock = v.ownBlock ∨ ∃ b, v1.ownBlock = some b ∧ W.heap.size ≤ b) → wpList Try.prog ops Q rest (a.put o.dst v1) w1) :
    wpList Try.prog ops Q (o :: rest) a (W.alloc (.cells #[.float .f32 r, .float .f32 p, .float .f32 q, .int .i8 d] 44)) := by
  obtain ⟨y1, y2, y3, y4⟩ := y
  obtain ⟨h1, h2, h3, h4, h5⟩ := hy
  have h4' : d = y4 := h4
  subst h4'
  exact Kd.R_append kT (w0 := w0) w0.heap.size hgd s x 27 44 (.agg #[.float .f32 0, .float .f32 0, .float .f32 0, .int .i8 0]) 16 ho Try.underlying27 info_tooth rfl (by decide) (by decide) v xs (y1, y2, y3, d) [.float .f32 r, .float .f32 p, .float .f32 q, .int .i8 d] (fun _ => True) (fun _ => False) hs hx (kT_mkM _ _ _ h1 h2 h3 h5) (fun _ h => h.elim) (fun _ _ => trivial) HO HB HB.size (by omega) h
end

/-- A tooth at the beginning of a week, whether it has been changed, and whether it is new. -/
def chT (lim : Nat) (x : Tth) : Tth × Bool × Bool :=
  if flt lim (wearV x.2.1 x.2.2.1 x.2.2.2) = true then
    (if flt lim (wearV x.2.1 x.2.2.1 (1 - x.2.2.2)) = true then ((x.1, 0, 0, 0), true, true) else ((x.1, x.2.1, x.2.2.1, 1 - x.2.2.2), true, false))
  else (x, false, false)
def sideT (x : Tth) : Prop := x.2.2.2 = 0 ∨ x.2.2.2 = 1
theorem chT_side {lim : Nat} {x : Tth} (h : sideT x) : sideT (chT lim x).1 := by
  unfold chT
  split
  · split
    · exact .inl rfl
    · unfold sideT at *; dsimp only; omega
  · exact h
/-- A tooth behind a week. -/
def wornT (x : Tth) (l : Nat) : Tth := if x.2.2.2 = 0 then (x.1, wornV x.1 x.2.1 l, x.2.2.1, x.2.2.2) else (x.1, x.2.1, wornV x.1 x.2.2.1 l, x.2.2.2)
theorem wornT_side {l : Nat} {x : Tth} (h : sideT x) : sideT (wornT x l) := by
  unfold wornT
  split <;> exact h
theorem wornV_all (h u l : Nat) : wornV (cn h) (cn u) (cn l) = wornV h u l := by unfold wornV; simp only [cn_cn]
theorem wornV_FV {h u l a b c : Nat} (h1 : FV h a) (h2 : FV u b) (h3 : FV l c) : wornV h u l = wornV a b c := by rw [← h1.1, ← h2.1, ← h3.1, wornV_all]
theorem flt_FVs {r s x y : Nat} (h1 : FV r x) (h2 : FV s y) : flt r s = flt x y := by rw [← h1.1, ← h2.1, flt_cn]
theorem wearV_FV {p q a b : Nat} (s : Int) (h1 : FV p a) (h2 : FV q b) : FV (wearV p q s) (wearV a b s) := by
  unfold wearV
  split
  · exact h1
  · exact h2
/-- Words of a tooth. -/
def TW (r p q : Nat) (s : Int) (x : Tth) : Prop := FV r x.1 ∧ FV p x.2.1 ∧ FV q x.2.2.1 ∧ s = x.2.2.2
def ChQ (o : Tth × Bool × Bool) (w : World) (e : Ending) (w' : World) : Prop :=
  ∃ r p q s, e = .returned (.tuple #[.agg #[.float .f32 r, .float .f32 p, .float .f32 q, .int .i8 s], .bool o.2.1, .bool o.2.2]) ∧ TW r p q s o.1 ∧ Below w.heap.size w w'
def WoQ (x : Tth) (w : World) (e : Ending) (w' : World) : Prop :=
  ∃ r p q s, e = .returned (.agg #[.float .f32 r, .float .f32 p, .float .f32 q, .int .i8 s]) ∧ TW r p q s x ∧ Below w.heap.size w w'
set_option maxHeartbeats 8000000 in
theorem changed_any (r p q : Nat) (s : Int) (x : Tth) (hx : TW r p q s x) (hs : sideT x) (l lim : Nat) (hl : FV l lim) (w : World) :
    Calls Try.prog 56 #[.agg #[.float .f32 r, .float .f32 p, .float .f32 q, .int .i8 s], .float .f32 l] w (ChQ (chT lim x) w) := by
  have hb0 := fun (w : World) => run_build (P := Try.prog) w 44 #[(0, .float .f32 r)] #[.float .f32 r, .float .f32 0, .float .f32 0, .int .i8 0] (by kernel_rfl)
  obtain ⟨x1, x2, x3, x4⟩ := x
  obtain ⟨h1, h2, h3, h4⟩ := hx
  have h4' : s = x4 := h4
  subst h4'
  have hf := flt_FVs hl (wearV_FV s h2 h3)
  have hg := flt_FVs hl (wearV_FV (1 - s) h2 h3)
  have hs2 : s = 0 ∨ s = 1 := hs
  have e1 : chT lim (x1, x2, x3, s) = if flt l (wearV p q s) = true then (if flt l (wearV p q (1 - s)) = true then ((x1, 0, 0, 0), true, true) else ((x1, x2, x3, 1 - s), true, false)) else ((x1, x2, x3, s), false, false) := by
    unfold chT; rw [hf, hg]
  have H1 := Lib.hid h1
  have H2 := Lib.hid h2
  have H3 := Lib.hid h3
  rw [e1]
  clear e1 hf hg h1 h2 h3 h4 hl hs
  cases hp : flt l (wearV p q s)
  · rcases hs2 with rfl | rfl
    · have hp' : flt l p = false := hp
      clear hp
      go_enter Try.func56, Try.ntmps56
      go_wp2
      refine bodyPost_ret (v := .tuple #[.agg #[.float .f32 r, .float .f32 p, .float .f32 q, .int .i8 0], .bool false, .bool false]) (by simp only [results, Try.results56]; go_simp; done) rfl ⟨r, p, q, 0, rfl, ⟨H1.out, H2.out, H3.out, rfl⟩, ?_⟩
      (repeat (first | with_reducible exact Below.refl _ _ | with_reducible refine bset ?_ (by first | (simp; done) | (simp; omega) | omega) _ | with_reducible refine balloc ?_ _ | with_reducible refine bdrewN ?_ _ | with_reducible refine bdrew ?_ | with_reducible refine bstep ?_ (by assumption)))
    · have hp' : flt l q = false := hp
      clear hp
      go_enter Try.func56, Try.ntmps56
      go_wp2
      refine bodyPost_ret (v := .tuple #[.agg #[.float .f32 r, .float .f32 p, .float .f32 q, .int .i8 1], .bool false, .bool false]) (by simp only [results, Try.results56]; go_simp; done) rfl ⟨r, p, q, 1, rfl, ⟨H1.out, H2.out, H3.out, rfl⟩, ?_⟩
      (repeat (first | with_reducible exact Below.refl _ _ | with_reducible refine bset ?_ (by first | (simp; done) | (simp; omega) | omega) _ | with_reducible refine balloc ?_ _ | with_reducible refine bdrewN ?_ _ | with_reducible refine bdrew ?_ | with_reducible refine bstep ?_ (by assumption)))
  · cases hq : flt l (wearV p q (1 - s))
    · rcases hs2 with rfl | rfl
      · have hp' : flt l p = true := hp
        have hq' : flt l q = false := hq
        clear hp hq
        go_enter Try.func56, Try.ntmps56
        go_wp2
        refine bodyPost_ret (v := .tuple #[.agg #[.float .f32 r, .float .f32 p, .float .f32 q, .int .i8 1], .bool true, .bool false]) (by simp only [results, Try.results56]; go_simp; done) rfl ⟨r, p, q, 1, rfl, ⟨H1.out, H2.out, H3.out, rfl⟩, ?_⟩
        (repeat (first | with_reducible exact Below.refl _ _ | with_reducible refine bset ?_ (by first | (simp; done) | (simp; omega) | omega) _ | with_reducible refine balloc ?_ _ | with_reducible refine bdrewN ?_ _ | with_reducible refine bdrew ?_ | with_reducible refine bstep ?_ (by assumption)))
      · have hp' : flt l q = true := hp
        have hq' : flt l p = false := hq
        clear hp hq
        go_enter Try.func56, Try.ntmps56
        go_wp2
        refine bodyPost_ret (v := .tuple #[.agg #[.float .f32 r, .float .f32 p, .float .f32 q, .int .i8 0], .bool true, .bool false]) (by simp only [results, Try.results56]; go_simp; done) rfl ⟨r, p, q, 0, rfl, ⟨H1.out, H2.out, H3.out, rfl⟩, ?_⟩
        (repeat (first | with_reducible exact Below.refl _ _ | with_reducible refine bset ?_ (by first | (simp; done) | (simp; omega) | omega) _ | with_reducible refine balloc ?_ _ | with_reducible refine bdrewN ?_ _ | with_reducible refine bdrew ?_ | with_reducible refine bstep ?_ (by assumption)))
    · rcases hs2 with rfl | rfl
      · have hp' : flt l p = true := hp
        have hq' : flt l q = true := hq
        clear hp hq
        go_enter Try.func56, Try.ntmps56
        go_wp2
        refine bodyPost_ret (v := .tuple #[.agg #[.float .f32 r, .float .f32 0, .float .f32 0, .int .i8 0], .bool true, .bool true]) (by simp only [results, Try.results56]; go_simp; done) rfl ⟨r, 0, 0, 0, rfl, ⟨H1.out, FV_zero, FV_zero, rfl⟩, ?_⟩
        (repeat (first | with_reducible exact Below.refl _ _ | with_reducible refine bset ?_ (by first | (simp; done) | (simp; omega) | omega) _ | with_reducible refine balloc ?_ _ | with_reducible refine bdrewN ?_ _ | with_reducible refine bdrew ?_ | with_reducible refine bstep ?_ (by assumption)))
      · have hp' : flt l q = true := hp
        have hq' : flt l p = true := hq
        clear hp hq
        go_enter Try.func56, Try.ntmps56
        go_wp2
        refine bodyPost_ret (v := .tuple #[.agg #[.float .f32 r, .float .f32 0, .float .f32 0, .int .i8 0], .bool true, .bool true]) (by simp only [results, Try.results56]; go_simp; done) rfl ⟨r, 0, 0, 0, rfl, ⟨H1.out, FV_zero, FV_zero, rfl⟩, ?_⟩
        (repeat (first | with_reducible exact Below.refl _ _ | with_reducible refine bset ?_ (by first | (simp; done) | (simp; omega) | omega) _ | with_reducible refine balloc ?_ _ | with_reducible refine bdrewN ?_ _ | with_reducible refine bdrew ?_ | with_reducible refine bstep ?_ (by assumption)))
theorem worn_any (r p q : Nat) (s : Int) (x : Tth) (hx : TW r p q s x) (hs : sideT x) (l lv : Nat) (hl : FV l lv) (w : World) :
    Calls Try.prog 58 #[.agg #[.float .f32 r, .float .f32 p, .float .f32 q, .int .i8 s], .float .f32 l] w (WoQ (wornT x lv) w) := by
  obtain ⟨x1, x2, x3, x4⟩ := x
  obtain ⟨h1, h2, h3, h4⟩ := hx
  have h4' : s = x4 := h4
  subst h4'
  have hs2 : s = 0 ∨ s = 1 := hs
  rcases hs2 with rfl | rfl
  · refine (worn0_any r p q l w).mono ?_
    rintro e w' ⟨u, rfl, hu, hb⟩
    exact ⟨r, u, q, 0, rfl, ⟨h1, by rw [wornV_FV h1 h2 hl] at hu; exact hu, h3, rfl⟩, hb⟩
  · refine (worn1_any r p q l w).mono ?_
    rintro e w' ⟨u, rfl, hu, hb⟩
    exact ⟨r, p, u, 1, rfl, ⟨h1, h2, by rw [wornV_FV h1 h3 hl] at hu; exact hu, rfl⟩, hb⟩
end Go.Proofs.Ytgdaompppclnlaa
namespace Go.Proofs.Ytgdaompppclnlaa
open Go.RowKit Ieee
open Go.Proofs.YtgdaompppclnlaaW.PrintWords
set_option maxRecDepth 100000
attribute [local irreducible] wpRel

section
variable {w : World} {base g n c : Nat} {xs : List Tth}
/-- The cells of tooth k of a row of the call's own. -/
theorem at_RT (h : RW kT 44 w base (.slice (some ⟨g, 0, none⟩) n c) xs) (hn : xs.length = n) (k : Nat) (hk : k < n) :
    ∃ r p q s, w.cell? ⟨g, k * 4, none⟩ = some (.float .f32 r) ∧ w.cell? ⟨g, k * 4 + 1, none⟩ = some (.float .f32 p) ∧ w.cell? ⟨g, k * 4 + 2, none⟩ = some (.float .f32 q) ∧ w.cell? ⟨g, k * 4 + 3, none⟩ = some (.int .i8 s) ∧
      w.frozen? ⟨g, k * 4, none⟩ = false ∧ w.frozen? ⟨g, k * 4 + 1, none⟩ = false ∧ w.frozen? ⟨g, k * 4 + 2, none⟩ = false ∧ w.frozen? ⟨g, k * 4 + 3, none⟩ = false ∧ TW r p q s (xs.getD k zT) ∧ i8B s ∧ base ≤ g ∧ g < w.heap.size := by
  subst hn
  obtain ⟨g', cap, hv, hge, hglt, _⟩ := Kd.R_form h.out (by omega)
  obtain ⟨hgg, _, _⟩ : some (⟨g, 0, none⟩ : Addr) = some ⟨g', 0, none⟩ ∧ xs.length = xs.length ∧ c = cap := by injection hv with a b c; exact ⟨a, b, c⟩
  have hg2 : g = g' := by injection hgg with hgg; injection hgg
  subst hg2
  obtain ⟨ce, hcl, hM, hcc, hfr⟩ := Kd.R_elem h.out zT (k : Int) (by omega) (by omega)
  obtain ⟨r, p, q, rfl, h1, h2, h3, h4⟩ := kT_openM hM
  rw [Int.toNat_natCast] at h1 h2 h3 h4 hcc hfr
  exact ⟨r, p, q, _, hcc 0 _ rfl, hcc 1 _ rfl, hcc 2 _ rfl, hcc 3 _ rfl, hfr 0, hfr 1, hfr 2, hfr 3, ⟨h1, h2, h3, rfl⟩, h4, hge, hglt⟩
/-- All four cells of tooth k written. -/
theorem RT_set4 (h : RW kT 44 w base (.slice (some ⟨g, 0, none⟩) n c) xs) (hn : xs.length = n) (k : Nat) (hk : k < n) {r p q : Nat} {s : Int} {y : Tth} (hy : TW r p q s y) (h8 : i8B s) :
    RW kT 44 ((((w.setCell ⟨g, k * 4, none⟩ (.float .f32 r)).setCell ⟨g, k * 4 + 1, none⟩ (.float .f32 p)).setCell ⟨g, k * 4 + 2, none⟩ (.float .f32 q)).setCell ⟨g, k * 4 + 3, none⟩ (.int .i8 s)) base (.slice (some ⟨g, 0, none⟩) n c) (xs.set k y) := by
  subst hn
  obtain ⟨y1, y2, y3, y4⟩ := y
  obtain ⟨h1, h2, h3, h4⟩ := hy
  have h4' : s = y4 := h4
  subst h4'
  obtain ⟨ce, hcl, hM, hcc, hfr⟩ := Kd.R_elem h.out zT (k : Int) (by omega) (by omega)
  have := (Kd.R_seg h.out (k : Int) (by omega) (by omega) (seg := [.float .f32 r, .float .f32 p, .float .f32 q, .int .i8 s]) (j := 0) hcl hcc (show 4 ≤ 4 from Nat.le_refl 4) (x' := (y1, y2, y3, s)) (by
    have hl4 : ce.length = 4 := hcl
    rw [show ce.take 0 ++ [.float .f32 r, .float .f32 p, .float .f32 q, .int .i8 s] ++ ce.drop (0 + [Value.float .f32 r, .float .f32 p, .float .f32 q, .int .i8 s].length) = [.float .f32 r, .float .f32 p, .float .f32 q, .int .i8 s] from by simp [hl4]]
    exact kT_mkM w _ (fun q => True ∧ q ≠ g) h1 h2 h3 h8) (fun _ h => h)).1
  exact this
/-- The first wear of tooth k written. -/
theorem RT_set1 (h : RW kT 44 w base (.slice (some ⟨g, 0, none⟩) n c) xs) (hn : xs.length = n) (k : Nat) (hk : k < n) {u v : Nat} (hu : FV u v) {y : Tth} (hy : y = ((xs.getD k zT).1, v, (xs.getD k zT).2.2.1, (xs.getD k zT).2.2.2)) :
    RW kT 44 (w.setCell ⟨g, k * 4 + 1, none⟩ (.float .f32 u)) base (.slice (some ⟨g, 0, none⟩) n c) (xs.set k y) := by
  subst hn
  subst hy
  obtain ⟨ce, hcl, hM, hcc, hfr⟩ := Kd.R_elem h.out zT (k : Int) (by omega) (by omega)
  obtain ⟨r, p, q, rfl, h1, h2, h3, h4⟩ := kT_openM hM
  rw [Int.toNat_natCast] at h1 h2 h3 h4
  exact (Kd.R_seg h.out (k : Int) (by omega) (by omega) (seg := [.float .f32 u]) (j := 1) hcl hcc (show 2 ≤ 4 by omega) (x' := ((xs.getD k zT).1, v, (xs.getD k zT).2.2.1, (xs.getD k zT).2.2.2)) (kT_mkM w _ (fun q => True ∧ q ≠ g) h1 hu h3 h4) (fun _ h => h)).1
/-- The second wear of tooth k written. -/
theorem RT_set2 (h : RW kT 44 w base (.slice (some ⟨g, 0, none⟩) n c) xs) (hn : xs.length = n) (k : Nat) (hk : k < n) {u v : Nat} (hu : FV u v) {y : Tth} (hy : y = ((xs.getD k zT).1, (xs.getD k zT).2.1, v, (xs.getD k zT).2.2.2)) :
    RW kT 44 (w.setCell ⟨g, k * 4 + 2, none⟩ (.float .f32 u)) base (.slice (some ⟨g, 0, none⟩) n c) (xs.set k y) := by
  subst hn
  subst hy
  obtain ⟨ce, hcl, hM, hcc, hfr⟩ := Kd.R_elem h.out zT (k : Int) (by omega) (by omega)
  obtain ⟨r, p, q, rfl, h1, h2, h3, h4⟩ := kT_openM hM
  rw [Int.toNat_natCast] at h1 h2 h3 h4
  exact (Kd.R_seg h.out (k : Int) (by omega) (by omega) (seg := [.float .f32 u]) (j := 2) hcl hcc (show 3 ≤ 4 by omega) (x' := ((xs.getD k zT).1, (xs.getD k zT).2.1, v, (xs.getD k zT).2.2.2)) (kT_mkM w _ (fun q => True ∧ q ≠ g) h1 h2 hu h4) (fun _ h => h)).1
end
section
variable {ops : Array Oper} {rest : List Oper} {o : Oper} {a : Act} {Q : Exit → Act → World → Prop}
/-- append(v, x) of one change, whichever base. -/
theorem apCb (base : Nat) {W : World} {p q : Int} {c : Bool} (hgd : o.guard = none) (s x : Operand) (ho : o.op = .call { callee := .builtin .append, args := #[s, x], argTypes := #[33, 33] })
    (v : Value) (xs : List Chg) (hs : a.eval s = v) (hx : a.eval x = .slice (some ⟨W.heap.size, 0, none⟩) 1 1)
    (HO : RW kC 47 W base v xs) (hb : base ≤ W.heap.size) (hl : xs.length ≤ 1048576) (hp : cB (p, q, c))
    (h : ∀ v1 w1, RW kC 47 w1 base v1 (xs ++ [(p, q, c)]) → W.grownBy w1 v.ownBlock → (v1.ownBlock = v.ownBlock ∨ ∃ b, v1.ownBlock = some b ∧ W.heap.size ≤ b) → wpList Try.prog ops Q rest (a.put o.dst v1) w1) :
    wpList Try.prog ops Q (o :: rest) a (W.alloc (.cells #[.int .i16 p, .int .i8 q, .bool c] 47)) :=
  Kd.R_append kC (w0 := W) base hgd s x 33 47 (.agg #[.int .i16 0, .int .i8 0, .bool false]) 4 ho Try.underlying33 info_change rfl (by decide) (by decide) v xs (p, q, c) [.int .i16 p, .int .i8 q, .bool c] (fun _ => True) (fun _ => False) hs hx (kC_mkM _ _ _ hp) (fun _ h => h.elim) (fun _ _ => trivial) HO (Below.refl _ _) hb (by omega) fun v1 w1 h1 _ h2 h3 => h v1 w1 h1 h2 h3
end
end Go.Proofs.Ytgdaompppclnlaa
namespace Go.Proofs.Ytgdaompppclnlaa
open Go.RowKit Ieee
open Go.Proofs.YtgdaompppclnlaaW.PrintWords
set_option maxRecDepth 100000
attribute [local irreducible] wpRel

/-- The load of pair i. -/
def loadV (t : List (Int × Int × Nat)) (x : Nat) (i : Nat) : Nat := fminc 1233125376 (sizeV (torV t x (i + 1)))
def wkT (t : List (Int × Int × Nat)) (l : List Tth) (x lim : Nat) (i : Nat) : Tth := wornT (chT lim (l.getD i zT)).1 (loadV t x i)
/-- The first n teeth behind a week. -/
def weekL (t : List (Int × Int × Nat)) (l : List Tth) (x lim n : Nat) : List Tth := (List.range n).map (wkT t l x lim)
theorem weekL_succ (t : List (Int × Int × Nat)) (l : List Tth) (x lim n : Nat) : weekL t l x lim (n + 1) = weekL t l x lim n ++ [wkT t l x lim n] := by simp [weekL, List.range_succ]
theorem weekL_length (t : List (Int × Int × Nat)) (l : List Tth) (x lim n : Nat) : (weekL t l x lim n).length = n := by simp [weekL]
/-- The changes among the first n teeth. -/
def chgL (num : Int) (lim : Nat) (l : List Tth) : Nat → List Chg
  | 0 => []
  | n + 1 => if (chT lim (l.getD n zT)).2.1 = true then chgL num lim l n ++ [(num, IntKind.i8.wrap (n : Int), (chT lim (l.getD n zT)).2.2)] else chgL num lim l n
theorem chgL_le (num : Int) (lim : Nat) (l : List Tth) (n : Nat) : (chgL num lim l n).length ≤ n := by
  induction n with
  | zero => simp [chgL]
  | succ n ih =>
    rw [chgL]
    split
    · rw [List.length_append]; simp; omega
    · omega
theorem chgL_miss {num : Int} {lim : Nat} {l : List Tth} {n : Nat} {y : Tth} {fr : Bool} (h : (y, false, fr) = chT lim (l.getD n zT)) : chgL num lim l (n + 1) = chgL num lim l n := by
  rw [chgL, ← h]; rfl
theorem chgL_hit {num : Int} {lim : Nat} {l : List Tth} {n : Nat} {y : Tth} {fr : Bool} (h : (y, true, fr) = chT lim (l.getD n zT)) : chgL num lim l (n + 1) = chgL num lim l n ++ [(num, IntKind.i8.wrap (n : Int), fr)] := by
  rw [chgL, ← h]; rfl
def sidesT (l : List Tth) : Prop := ∀ i, i < l.length → sideT (l.getD i zT)
def WkQ (t : List (Int × Int × Nat)) (l : List Tth) (x lim : Nat) (num : Int) (w : World) (e : Ending) (w' : World) : Prop :=
  ∃ u v, e = .returned (.tuple #[u, v]) ∧ RW kT 44 w' w.heap.size u (weekL t l x lim l.length) ∧ RW kC 47 w' w.heap.size v (chgL num lim l l.length) ∧ Below w.heap.size w w'
theorem ne_tc : (44 : Nat) ≠ 47 := by decide
theorem ne_ct : (47 : Nat) ≠ 44 := by decide
theorem ne_fc : (31 : Nat) ≠ 47 := by decide
theorem ne_ft' : (31 : Nat) ≠ 44 := by decide
theorem TW_8 {r p q : Nat} {s : Int} {x : Tth} (h : TW r p q s x) (hs : sideT x) : i8B s := by
  obtain ⟨_, _, _, h4⟩ := h
  unfold sideT at hs
  unfold i8B
  omega
theorem heap_two (w : World) (a b : Obj) : ((w.alloc a).alloc b).heap[w.heap.size + 1]? = some b := by
  have := heap_alloc_new (w.alloc a) b
  simpa using this

set_option maxHeartbeats 16000000 in
theorem week_spec (A B : Option Addr) (c c' : Nat) (t : List (Int × Int × Nat)) (l : List Tth) (x r0 : Nat) (hr0 : FV r0 x) (q0 lim : Nat) (hq0 : FV q0 lim) (num : Int) (hnum : -32768 ≤ num ∧ num ≤ 32767) (w : World)
    (hA : Kd.C kP w A t.length t) (hB : Kd.C kT w B l.length l) (hl : l.length = t.length) (hm : t.length ≤ 1048575) (hs : sidesT l) :
    Calls Try.prog 35 #[.slice A t.length c, .slice B l.length c', .float .f32 r0, .float .f32 q0, .int .i16 num] w (WkQ t l x lim num w) := by
  have HT := Lib.hid (torques_spec A c t x r0 hr0 w hA (by omega))
  have HB := Lib.hid hB
  have HL := Lib.hid hl
  have HS := Lib.hid hs
  have HQ := Lib.hid hq0
  have HN := Lib.hid hnum
  have hm2 : l.length ≤ 1048575 := by omega
  clear hA hB hl hs hr0 hq0 hm hnum
  go_enter Try.func35, Try.ntmps35
  go_wp2_with fail
  go_at_call 55
  refine (HT.out).mono ?_
  rintro e w1 ⟨tv, rfl, hT, hb1⟩
  clear HT
  have HE0 := Lib.hid ((RW.empty kT 44 (w := w1.alloc (.cells #[] 44)) w.heap.size w1.heap.size (heap_alloc_new w1 _) hb1.size).alloc (.cells #[] 47))
  have HE1 := Lib.hid (RW.empty kC 47 (w := (w1.alloc (.cells #[] 44)).alloc (.cells #[] 47)) w.heap.size (w1.heap.size + 1) (heap_two w1 _ _) (by have := hb1.size; omega))
  have HT0 := Lib.hid (((RW.ofF hT).alloc (.cells #[] 44)).alloc (.cells #[] 47))
  clear hT
  go_wp2
  go_loopw [13, 14, 15] (fun ov cv i wr => ∃ k : Nat, k ≤ l.length ∧ i = .int .i64 k ∧ Hid (RW kT 44 wr w.heap.size ov (weekL t l x lim k)) ∧ Hid (RW kC 47 wr w.heap.size cv (chgL num lim l k)) ∧ Hid (RW kf 31 wr w.heap.size tv (torL t x t.length)) ∧ Below w.heap.size w wr) (fun _ _ i _ => l.length - (intOf i).toNat)
  case atStart => exact ⟨0, Nat.zero_le _, rfl, HE0, HE1, HT0, by (repeat (first | with_reducible exact Below.refl _ _ | with_reducible refine bset ?_ (by first | (simp; done) | (simp; omega) | omega) _ | with_reducible refine balloc ?_ _ | with_reducible refine bdrewN ?_ _ | with_reducible refine bdrew ?_ | with_reducible refine bstep ?_ (by assumption)))⟩
  case round =>
    clear HE0 HE1 HT0
    obtain ⟨k, hk, rfl, H1, H2, H3, hb⟩ := hrel
    by_cases hlt : k < l.length
    · obtain ⟨b, off, r, p, q, s, rfl, hbl, c0, c1, c2, c3, hx, hr, hp, hq, h8⟩ := at_kT HB.out k hlt
      have d0 := (bc hb b (off + k * 4) hbl).trans c0
      have d1 := (bc hb b (off + k * 4 + 1) hbl).trans c1
      have d2 := (bc hb b (off + k * 4 + 2) hbl).trans c2
      have d3 := (bc hb b (off + k * 4 + 3) hbl).trans c3
      have htw : TW r p q s (l.getD k zT) := by rw [hx]; exact ⟨⟨rfl, hr⟩, ⟨rfl, hp⟩, ⟨rfl, hq⟩, rfl⟩
      have HCh := Lib.hid (changed_any r p q s _ htw (HS.out k hlt) q0 lim HQ.out wr)
      have HSd := Lib.hid (chT_side (lim := lim) (HS.out k hlt))
      clear c0 c1 c2 c3 hx hr hp hq h8 htw
      obtain ⟨gT, cT, xT, rfl, hgT, eT, hxT⟩ := at_FR' H3.out.toF (t.length + 1) (torL_length _ _ _) (k + 1) (by have := HL.out; omega)
      rw [torL_get _ _ (by have := HL.out; omega)] at hxT
      have HX := Lib.hid hxT
      have hk1 : ((k : Int) + 1) < (t.length : Int) + 1 := by have := HL.out; omega
      have hz0 : wr.heap.size < wr.heap.size + 1 := Nat.lt_succ_self _
      clear hxT
      obtain ⟨o, ho⟩ : ∃ o, o = chT lim (l.getD k zT) := ⟨_, rfl⟩
      rw [← ho] at HCh HSd
      obtain ⟨y, ch, fr⟩ := o
      have HO := Lib.hid ho
      clear ho
      go_wp2_with fail
      go_at_call 56
      refine (HCh.out).mono ?_
      rintro e w2 ⟨r2, p2, q2, s2, rfl, hTW, hb2⟩
      have HY := Lib.hid hTW
      clear hTW HCh
      have hb22 := bstep hb hb2
      have K1 := Lib.hid (H1.out.below hb2)
      have K2 := Lib.hid (H2.out.below hb2)
      have K3 := Lib.hid (H3.out.below hb2)
      have lc : ∀ j, u14.ownBlock = some j → j < w2.heap.size := fun j hj => K2.out.lt j hj
      have nec : some w2.heap.size ≠ u14.ownBlock := fun he => by have := lc _ he.symm; omega
      have HNE := Lib.hid nec
      have eT2 : w2.cell? ⟨gT, k + 1, none⟩ = some (.float .f32 xT) := (bc hb2 gT (k + 1) hgT).trans eT
      have hgT2 : gT < w2.heap.size := Nat.lt_of_lt_of_le hgT hb2.size
      have HLC := Lib.hid (show (chgL num lim l k).length ≤ 1048576 by have := chgL_le num lim l k; omega)
      have HLW := Lib.hid (show (weekL t l x lim k).length ≤ 1048576 by rw [weekL_length]; omega)
      clear lc nec eT hgT H1 H2 H3 d0 d1 d2 d3
      cases ch
      · go_wp2_with fail
        go_at_call 57
        refine (l01Size_any xT _ HX.out _).mono ?_
        rintro e w' ⟨⟨rs, rfl, hrs⟩, rfl⟩
        have HRS := Lib.hid hrs
        clear hrs
        cases hq : flt 1233125376 rs
        · have HLd := Lib.hid (fminc_miss numM HRS.out hq)
          have HWo := Lib.hid (worn_any r2 p2 q2 s2 y HY.out HSd.out rs _ HLd.out)
          clear HLd
          go_wp2_with fail
          go_at_call 58
          refine (HWo.out _).mono ?_
          rintro e w5 ⟨r5, p5, q5, s5, rfl, hTW5, hb5⟩
          have HY5 := Lib.hid hTW5
          have hs5 : sideT (wornT y (fminc 1233125376 (sizeV (torV t x (k + 1))))) := wornT_side HSd.out
          have HWK := Lib.hid (show wornT y (fminc 1233125376 (sizeV (torV t x (k + 1)))) = wkT t l x lim k by unfold wkT loadV; rw [← HO.out])
          have HY6 := Lib.hid (show FV r5 (wkT t l x lim k).1 ∧ FV p5 (wkT t l x lim k).2.1 ∧ FV q5 (wkT t l x lim k).2.2.1 ∧ s5 = (wkT t l x lim k).2.2.2 ∧ i8B s5 by rw [← HWK.out]; exact ⟨hTW5.1, hTW5.2.1, hTW5.2.2.1, hTW5.2.2.2, TW_8 hTW5 hs5⟩)
          have hb55 : Below w.heap.size w w5 := bstep (by (repeat (first | with_reducible exact Below.refl _ _ | with_reducible refine bset ?_ (by first | (simp; done) | (simp; omega) | omega) _ | with_reducible refine balloc ?_ _ | with_reducible refine bdrewN ?_ _ | with_reducible refine bdrew ?_ | with_reducible refine bstep ?_ (by assumption)))) hb5
          have M1 := Lib.hid ((K1.out.alloc (.cells #[.float .f32 r2, .float .f32 p2, .float .f32 q2, .int .i8 s2] 44)).below hb5)
          have M2 := Lib.hid ((K2.out.alloc (.cells #[.float .f32 r2, .float .f32 p2, .float .f32 q2, .int .i8 s2] 44)).below hb5)
          have M3 := Lib.hid ((K3.out.alloc (.cells #[.float .f32 r2, .float .f32 p2, .float .f32 q2, .int .i8 s2] 44)).below hb5)
          clear hTW5 hs5 HWo HY5 HWK
          go_wp2_with (at_builtin; go_must ((refine apT (w0 := w) (o := ⟨some 63, _, _, _, _, _⟩) rfl (.tmp 58) (.tmp 62) rfl u13 (weekL t l x lim k) ?y63 ?x63 ?o63 ?b63 HLW.out (wkT t l x lim k) HY6.out ?_; (case y63 => rfl); (case x63 => go_simp); (case o63 => (with_reducible repeat (first | apply RW.alloc | apply RW.drewN | apply RW.drew)); exact M1.out); (case b63 => (repeat (first | with_reducible exact Below.refl _ _ | with_reducible refine bset ?_ (by first | (simp; done) | (simp; omega) | omega) _ | with_reducible refine balloc ?_ _ | with_reducible refine bdrewN ?_ _ | with_reducible refine bdrew ?_ | with_reducible refine bstep ?_ (by assumption)))); intro v63 w63 ho_ hb63 hg_ hat_; have HO63 := Lib.hid ho_; have HG63 := Lib.hid (And.intro hg_ hat_); clear ho_ hg_ hat_)))
          have R2 := Lib.hid (M2.out.grown rfl HG63.out.1 (M2.out.ne_type M1.out ne_ct))
          have R3 := Lib.hid (M3.out.grown rfl HG63.out.1 (M3.out.ne_type M1.out ne_ft'))
          go_roundw
          case rel => exact ⟨k + 1, hlt, by go_num, Lib.hid (by rw [weekL_succ]; exact HO63.out), Lib.hid (by rw [chgL_miss HO.out]; exact R2.out), R3, hb63⟩
          case measure => simp [intOf]; omega
        · have HLd := Lib.hid (fminc_hit numM HRS.out hq)
          have HWo := Lib.hid (worn_any r2 p2 q2 s2 y HY.out HSd.out 1233125376 _ HLd.out)
          clear HLd
          go_wp2_with fail
          go_at_call 58
          refine (HWo.out _).mono ?_
          rintro e w5 ⟨r5, p5, q5, s5, rfl, hTW5, hb5⟩
          have HY5 := Lib.hid hTW5
          have hs5 : sideT (wornT y (fminc 1233125376 (sizeV (torV t x (k + 1))))) := wornT_side HSd.out
          have HWK := Lib.hid (show wornT y (fminc 1233125376 (sizeV (torV t x (k + 1)))) = wkT t l x lim k by unfold wkT loadV; rw [← HO.out])
          have HY6 := Lib.hid (show FV r5 (wkT t l x lim k).1 ∧ FV p5 (wkT t l x lim k).2.1 ∧ FV q5 (wkT t l x lim k).2.2.1 ∧ s5 = (wkT t l x lim k).2.2.2 ∧ i8B s5 by rw [← HWK.out]; exact ⟨hTW5.1, hTW5.2.1, hTW5.2.2.1, hTW5.2.2.2, TW_8 hTW5 hs5⟩)
          have hb55 : Below w.heap.size w w5 := bstep (by (repeat (first | with_reducible exact Below.refl _ _ | with_reducible refine bset ?_ (by first | (simp; done) | (simp; omega) | omega) _ | with_reducible refine balloc ?_ _ | with_reducible refine bdrewN ?_ _ | with_reducible refine bdrew ?_ | with_reducible refine bstep ?_ (by assumption)))) hb5
          have M1 := Lib.hid ((K1.out.alloc (.cells #[.float .f32 r2, .float .f32 p2, .float .f32 q2, .int .i8 s2] 44)).below hb5)
          have M2 := Lib.hid ((K2.out.alloc (.cells #[.float .f32 r2, .float .f32 p2, .float .f32 q2, .int .i8 s2] 44)).below hb5)
          have M3 := Lib.hid ((K3.out.alloc (.cells #[.float .f32 r2, .float .f32 p2, .float .f32 q2, .int .i8 s2] 44)).below hb5)
          clear hTW5 hs5 HWo HY5 HWK
          go_wp2_with (at_builtin; go_must ((refine apT (w0 := w) (o := ⟨some 63, _, _, _, _, _⟩) rfl (.tmp 58) (.tmp 62) rfl u13 (weekL t l x lim k) ?y63 ?x63 ?o63 ?b63 HLW.out (wkT t l x lim k) HY6.out ?_; (case y63 => rfl); (case x63 => go_simp); (case o63 => (with_reducible repeat (first | apply RW.alloc | apply RW.drewN | apply RW.drew)); exact M1.out); (case b63 => (repeat (first | with_reducible exact Below.refl _ _ | with_reducible refine bset ?_ (by first | (simp; done) | (simp; omega) | omega) _ | with_reducible refine balloc ?_ _ | with_reducible refine bdrewN ?_ _ | with_reducible refine bdrew ?_ | with_reducible refine bstep ?_ (by assumption)))); intro v63 w63 ho_ hb63 hg_ hat_; have HO63 := Lib.hid ho_; have HG63 := Lib.hid (And.intro hg_ hat_); clear ho_ hg_ hat_)))
          have R2 := Lib.hid (M2.out.grown rfl HG63.out.1 (M2.out.ne_type M1.out ne_ct))
          have R3 := Lib.hid (M3.out.grown rfl HG63.out.1 (M3.out.ne_type M1.out ne_ft'))
          go_roundw
          case rel => exact ⟨k + 1, hlt, by go_num, Lib.hid (by rw [weekL_succ]; exact HO63.out), Lib.hid (by rw [chgL_miss HO.out]; exact R2.out), R3, hb63⟩
          case measure => simp [intOf]; omega
      · have hcB : cB (num, IntKind.i8.wrap (k : Int), fr) := ⟨HN.out, by have := wf_wrap .i8 (k : Int); simpa [i8B, Lit.wf, IntKind.min, IntKind.max, IntKind.signed, IntKind.bits] using this⟩
        have HCB := Lib.hid hcB
        clear hcB
        go_wp2_with (at_builtin; go_must ((refine apC (w0 := w) (o := ⟨some 49, _, _, _, _, _⟩) rfl (.tmp 42) (.tmp 48) rfl u14 (chgL num lim l k) ?y49 ?x49 ?o49 ?b49 HLC.out HCB.out ?_; (case y49 => rfl); (case x49 => go_simp); (case o49 => (with_reducible repeat (first | apply RW.alloc | apply RW.drewN | apply RW.drew)); exact K2.out); (case b49 => (repeat (first | with_reducible exact Below.refl _ _ | with_reducible refine bset ?_ (by first | (simp; done) | (simp; omega) | omega) _ | with_reducible refine balloc ?_ _ | with_reducible refine bdrewN ?_ _ | with_reducible refine bdrew ?_ | with_reducible refine bstep ?_ (by assumption)))); intro v49 w49 ho_ hb49 hg_ hat_; have HO49 := Lib.hid ho_; have HG49 := Lib.hid (And.intro hg_ hat_); clear ho_ hg_ hat_); have g0 : w49.cell? ⟨w2.heap.size, 0, none⟩ = some (.float .f32 r2) := cell_grown HG49.out.1 (by go_simp) HNE.out; have g1 : w49.cell? ⟨w2.heap.size, 1, none⟩ = some (.float .f32 p2) := cell_grown HG49.out.1 (by go_simp) HNE.out; have g2 : w49.cell? ⟨w2.heap.size, 2, none⟩ = some (.float .f32 q2) := cell_grown HG49.out.1 (by go_simp) HNE.out; have g3 : w49.cell? ⟨w2.heap.size, 3, none⟩ = some (.int .i8 s2) := cell_grown HG49.out.1 (by go_simp) HNE.out; have eT3 : w49.cell? ⟨gT, k + 1, none⟩ = some (.float .f32 xT) := cell_grown HG49.out.1 (by go_simp) (K3.out.ne_type K2.out ne_fc gT rfl)))
        have W1 := Lib.hid ((K1.out.alloc (.cells #[.float .f32 r2, .float .f32 p2, .float .f32 q2, .int .i8 s2] 44)).grown rfl HG49.out.1 (K1.out.ne_type K2.out ne_tc))
        have W3 := Lib.hid ((K3.out.alloc (.cells #[.float .f32 r2, .float .f32 p2, .float .f32 q2, .int .i8 s2] 44)).grown rfl HG49.out.1 (K3.out.ne_type K2.out ne_fc))
        go_at_call 57
        refine (l01Size_any xT _ HX.out _).mono ?_
        rintro e w' ⟨⟨rs, rfl, hrs⟩, rfl⟩
        have HRS := Lib.hid hrs
        clear hrs
        cases hq : flt 1233125376 rs
        · have HLd := Lib.hid (fminc_miss numM HRS.out hq)
          have HWo := Lib.hid (worn_any r2 p2 q2 s2 y HY.out HSd.out rs _ HLd.out)
          clear HLd
          go_wp2_with fail
          go_at_call 58
          refine (HWo.out _).mono ?_
          rintro e w5 ⟨r5, p5, q5, s5, rfl, hTW5, hb5⟩
          have HY5 := Lib.hid hTW5
          have hs5 : sideT (wornT y (fminc 1233125376 (sizeV (torV t x (k + 1))))) := wornT_side HSd.out
          have HWK := Lib.hid (show wornT y (fminc 1233125376 (sizeV (torV t x (k + 1)))) = wkT t l x lim k by unfold wkT loadV; rw [← HO.out])
          have HY6 := Lib.hid (show FV r5 (wkT t l x lim k).1 ∧ FV p5 (wkT t l x lim k).2.1 ∧ FV q5 (wkT t l x lim k).2.2.1 ∧ s5 = (wkT t l x lim k).2.2.2 ∧ i8B s5 by rw [← HWK.out]; exact ⟨hTW5.1, hTW5.2.1, hTW5.2.2.1, hTW5.2.2.2, TW_8 hTW5 hs5⟩)
          have hb55 : Below w.heap.size w w5 := bstep (by (repeat (first | with_reducible exact Below.refl _ _ | with_reducible refine bset ?_ (by first | (simp; done) | (simp; omega) | omega) _ | with_reducible refine balloc ?_ _ | with_reducible refine bdrewN ?_ _ | with_reducible refine bdrew ?_ | with_reducible refine bstep ?_ (by assumption)))) hb5
          have M1 := Lib.hid (W1.out.below hb5)
          have M2 := Lib.hid (HO49.out.below hb5)
          have M3 := Lib.hid (W3.out.below hb5)
          clear hTW5 hs5 HWo HY5 HWK
          go_wp2_with (at_builtin; go_must ((refine apT (w0 := w) (o := ⟨some 63, _, _, _, _, _⟩) rfl (.tmp 58) (.tmp 62) rfl u13 (weekL t l x lim k) ?y63 ?x63 ?o63 ?b63 HLW.out (wkT t l x lim k) HY6.out ?_; (case y63 => rfl); (case x63 => go_simp); (case o63 => (with_reducible repeat (first | apply RW.alloc | apply RW.drewN | apply RW.drew)); exact M1.out); (case b63 => (repeat (first | with_reducible exact Below.refl _ _ | with_reducible refine bset ?_ (by first | (simp; done) | (simp; omega) | omega) _ | with_reducible refine balloc ?_ _ | with_reducible refine bdrewN ?_ _ | with_reducible refine bdrew ?_ | with_reducible refine bstep ?_ (by assumption)))); intro v63 w63 ho_ hb63 hg_ hat_; have HO63 := Lib.hid ho_; have HG63 := Lib.hid (And.intro hg_ hat_); clear ho_ hg_ hat_)))
          have R2 := Lib.hid (M2.out.grown rfl HG63.out.1 (M2.out.ne_type M1.out ne_ct))
          have R3 := Lib.hid (M3.out.grown rfl HG63.out.1 (M3.out.ne_type M1.out ne_ft'))
          go_roundw
          case rel => exact ⟨k + 1, hlt, by go_num, Lib.hid (by rw [weekL_succ]; exact HO63.out), Lib.hid (by rw [chgL_hit HO.out]; exact R2.out), R3, hb63⟩
          case measure => simp [intOf]; omega
        · have HLd := Lib.hid (fminc_hit numM HRS.out hq)
          have HWo := Lib.hid (worn_any r2 p2 q2 s2 y HY.out HSd.out 1233125376 _ HLd.out)
          clear HLd
          go_wp2_with fail
          go_at_call 58
          refine (HWo.out _).mono ?_
          rintro e w5 ⟨r5, p5, q5, s5, rfl, hTW5, hb5⟩
          have HY5 := Lib.hid hTW5
          have hs5 : sideT (wornT y (fminc 1233125376 (sizeV (torV t x (k + 1))))) := wornT_side HSd.out
          have HWK := Lib.hid (show wornT y (fminc 1233125376 (sizeV (torV t x (k + 1)))) = wkT t l x lim k by unfold wkT loadV; rw [← HO.out])
          have HY6 := Lib.hid (show FV r5 (wkT t l x lim k).1 ∧ FV p5 (wkT t l x lim k).2.1 ∧ FV q5 (wkT t l x lim k).2.2.1 ∧ s5 = (wkT t l x lim k).2.2.2 ∧ i8B s5 by rw [← HWK.out]; exact ⟨hTW5.1, hTW5.2.1, hTW5.2.2.1, hTW5.2.2.2, TW_8 hTW5 hs5⟩)
          have hb55 : Below w.heap.size w w5 := bstep (by (repeat (first | with_reducible exact Below.refl _ _ | with_reducible refine bset ?_ (by first | (simp; done) | (simp; omega) | omega) _ | with_reducible refine balloc ?_ _ | with_reducible refine bdrewN ?_ _ | with_reducible refine bdrew ?_ | with_reducible refine bstep ?_ (by assumption)))) hb5
          have M1 := Lib.hid (W1.out.below hb5)
          have M2 := Lib.hid (HO49.out.below hb5)
          have M3 := Lib.hid (W3.out.below hb5)
          clear hTW5 hs5 HWo HY5 HWK
          go_wp2_with (at_builtin; go_must ((refine apT (w0 := w) (o := ⟨some 63, _, _, _, _, _⟩) rfl (.tmp 58) (.tmp 62) rfl u13 (weekL t l x lim k) ?y63 ?x63 ?o63 ?b63 HLW.out (wkT t l x lim k) HY6.out ?_; (case y63 => rfl); (case x63 => go_simp); (case o63 => (with_reducible repeat (first | apply RW.alloc | apply RW.drewN | apply RW.drew)); exact M1.out); (case b63 => (repeat (first | with_reducible exact Below.refl _ _ | with_reducible refine bset ?_ (by first | (simp; done) | (simp; omega) | omega) _ | with_reducible refine balloc ?_ _ | with_reducible refine bdrewN ?_ _ | with_reducible refine bdrew ?_ | with_reducible refine bstep ?_ (by assumption)))); intro v63 w63 ho_ hb63 hg_ hat_; have HO63 := Lib.hid ho_; have HG63 := Lib.hid (And.intro hg_ hat_); clear ho_ hg_ hat_)))
          have R2 := Lib.hid (M2.out.grown rfl HG63.out.1 (M2.out.ne_type M1.out ne_ct))
          have R3 := Lib.hid (M3.out.grown rfl HG63.out.1 (M3.out.ne_type M1.out ne_ft'))
          go_roundw
          case rel => exact ⟨k + 1, hlt, by go_num, Lib.hid (by rw [weekL_succ]; exact HO63.out), Lib.hid (by rw [chgL_hit HO.out]; exact R2.out), R3, hb63⟩
          case measure => simp [intOf]; omega
    · have hkl : k = l.length := by omega
      subst hkl
      go_wp2
      go_ret2
      exact ⟨_, _, rfl, H1.out, H2.out, hb⟩
end Go.Proofs.Ytgdaompppclnlaa
namespace Go.Proofs.Ytgdaompppclnlaa
open Go.RowKit Ieee
open Go.Proofs.YtgdaompppclnlaaW.PrintWords
set_option maxRecDepth 100000
attribute [local irreducible] wpRel

section
variable {α : Type}
/-- The first k by f, the others by h. -/
def mixL (f h : Nat → α) (n k : Nat) : List α := (List.range n).map fun i => if i < k then f i else h i
theorem mixL_length (f h : Nat → α) (n k : Nat) : (mixL f h n k).length = n := by simp [mixL]
theorem mixL_get (f h : Nat → α) {n k i : Nat} (hi : i < n) : (mixL f h n k)[i]? = some (if i < k then f i else h i) := by simp [mixL, hi]
theorem mixL_at (f h : Nat → α) {n k : Nat} (hk : k < n) (z : α) : (mixL f h n k).getD k z = h k := by
  rw [List.getD_eq_getElem?_getD, mixL_get f h hk, if_neg (by omega)]; rfl
theorem mixL_set (f h : Nat → α) {n k : Nat} (hk : k < n) : (mixL f h n k).set k (f k) = mixL f h n (k + 1) := by
  apply List.ext_getElem?
  intro i
  rw [List.getElem?_set]
  by_cases hi : i < n
  · rw [mixL_get f h hi, mixL_get f h hi]
    by_cases hki : k = i
    · subst hki
      rw [if_pos rfl, if_pos (by rw [mixL_length]; exact hi), if_pos (Nat.lt_succ_self k)]
    · rw [if_neg hki]
      by_cases hlt : i < k
      · rw [if_pos hlt, if_pos (by omega)]
      · rw [if_neg hlt, if_neg (by omega)]
  · rw [List.getElem?_eq_none (by rw [mixL_length]; omega), List.getElem?_eq_none (by rw [mixL_length]; omega), if_neg (by omega)]
theorem mixL_skip (f h : Nat → α) {n k : Nat} (he : f k = h k) : mixL f h n (k + 1) = mixL f h n k := by
  apply List.ext_getElem?
  intro i
  by_cases hi : i < n
  · rw [mixL_get f h hi, mixL_get f h hi]
    by_cases hki : k = i
    · subst hki
      rw [if_pos (Nat.lt_succ_self k), if_neg (by omega), he]
    · by_cases hlt : i < k
      · rw [if_pos hlt, if_pos (by omega)]
      · rw [if_neg hlt, if_neg (by omega)]
  · rw [List.getElem?_eq_none (by rw [mixL_length]; omega), List.getElem?_eq_none (by rw [mixL_length]; omega)]
theorem mixL_zero (f h : Nat → α) (n : Nat) : mixL f h n 0 = (List.range n).map h := by simp [mixL]
theorem mixL_full (f h : Nat → α) (n : Nat) : mixL f h n n = (List.range n).map f := by
  unfold mixL
  apply List.map_congr_left
  intro i hi
  rw [if_pos (List.mem_range.1 hi)]
theorem map_getD (l : List α) (z : α) : (List.range l.length).map (fun i => l.getD i z) = l := by
  apply List.ext_getElem?
  intro i
  by_cases hi : i < l.length
  · simp [hi, List.getD_eq_getElem?_getD]
  · rw [List.getElem?_eq_none (by simpa using Nat.le_of_not_lt hi), List.getElem?_eq_none (by omega)]
end
def chgT (lim : Nat) (l : List Tth) (i : Nat) : Tth := (chT lim (l.getD i zT)).1
def midL (lim : Nat) (l : List Tth) (k : Nat) : List Tth := mixL (chgT lim l) (fun i => l.getD i zT) l.length k
def finL (t : List (Int × Int × Nat)) (l : List Tth) (x lim k : Nat) : List Tth := mixL (wkT t l x lim) (chgT lim l) l.length k
theorem midL_length (lim : Nat) (l : List Tth) (k : Nat) : (midL lim l k).length = l.length := mixL_length _ _ _ _
theorem finL_length (t : List (Int × Int × Nat)) (l : List Tth) (x lim k : Nat) : (finL t l x lim k).length = l.length := mixL_length _ _ _ _
theorem midL_zero (lim : Nat) (l : List Tth) : midL lim l 0 = l := by unfold midL; rw [mixL_zero, map_getD]
theorem finL_zero (t : List (Int × Int × Nat)) (l : List Tth) (x lim : Nat) : finL t l x lim 0 = midL lim l l.length := by unfold finL midL; rw [mixL_zero, mixL_full]
theorem finL_full (t : List (Int × Int × Nat)) (l : List Tth) (x lim : Nat) : finL t l x lim l.length = weekL t l x lim l.length := by unfold finL weekL; rw [mixL_full]
def WkiQ (t : List (Int × Int × Nat)) (l : List Tth) (x lim : Nat) (num : Int) (base g c : Nat) (w : World) (e : Ending) (w' : World) : Prop :=
  ∃ v, e = .returned v ∧ RW kC 47 w' w.heap.size v (chgL num lim l l.length) ∧ RW kT 44 w' base (.slice (some ⟨g, 0, none⟩) l.length c) (weekL t l x lim l.length) ∧ Gr g w w'
theorem chT_miss {lim q0 : Nat} {x : Tth} {p q : Nat} {s : Int} (hq0 : FV q0 lim) (h2 : FV p x.2.1) (h3 : FV q x.2.2.1) (h4 : s = x.2.2.2) (h : flt q0 (wearV p q s) = false) : chT lim x = (x, false, false) := by
  subst h4
  unfold chT
  rw [← flt_FVs hq0 (wearV_FV x.2.2.2 h2 h3), h]
  rfl
theorem chT_turn {lim q0 : Nat} {x : Tth} {p q : Nat} {s : Int} (hq0 : FV q0 lim) (h2 : FV p x.2.1) (h3 : FV q x.2.2.1) (h4 : s = x.2.2.2) (h : flt q0 (wearV p q s) = true) (h' : flt q0 (wearV p q (1 - s)) = false) : chT lim x = ((x.1, x.2.1, x.2.2.1, 1 - s), true, false) := by
  subst h4
  unfold chT
  rw [← flt_FVs hq0 (wearV_FV x.2.2.2 h2 h3), h, ← flt_FVs hq0 (wearV_FV (1 - x.2.2.2) h2 h3), h']
  rfl
theorem chT_new {lim q0 : Nat} {x : Tth} {p q : Nat} {s : Int} (hq0 : FV q0 lim) (h2 : FV p x.2.1) (h3 : FV q x.2.2.1) (h4 : s = x.2.2.2) (h : flt q0 (wearV p q s) = true) (h' : flt q0 (wearV p q (1 - s)) = true) : chT lim x = ((x.1, 0, 0, 0), true, true) := by
  subst h4
  unfold chT
  rw [← flt_FVs hq0 (wearV_FV x.2.2.2 h2 h3), h, ← flt_FVs hq0 (wearV_FV (1 - x.2.2.2) h2 h3), h']
  rfl
/-- A tooth used for a week, in place. -/
def UseQ (v : Nat) (a : Addr) (w : World) (e : Ending) (w' : World) : Prop := ∃ u n, e = .returned (.tuple #[]) ∧ FV u v ∧ w' = (w.drewN n).setCell a (.float .f32 u)

attribute [local irreducible] World.setCell
set_option maxHeartbeats 4000000 in
theorem week_impl (A : Option Addr) (c g c' : Nat) (t : List (Int × Int × Nat)) (l : List Tth) (x r0 : Nat) (hr0 : FV r0 x) (q0 lim : Nat) (hq0 : FV q0 lim) (num : Int) (hnum : -32768 ≤ num ∧ num ≤ 32767) (base : Nat) (w : World)
    (hA : ∀ w', Gr g w w' → Kd.C kP w' A t.length t) (hT : RW kT 44 w base (.slice (some ⟨g, 0, none⟩) l.length c') l) (hl : l.length = t.length) (h1 : 1 ≤ t.length) (hm : t.length ≤ 1048575) (hs : sidesT l) :
    Calls Try.prog 31 #[.slice A t.length c, .slice (some ⟨g, 0, none⟩) l.length c', .float .f32 r0, .float .f32 q0, .int .i16 num] w (WkiQ t l x lim num base g c' w) := by
  have hg0 : g < w.heap.size := hT.lt g rfl
  have HTo := Lib.hid (fun w' hw' => torques_impl A c t x r0 hr0 w' (hA w' hw') (by omega))
  have HT0 := Lib.hid (show RW kT 44 (w.alloc (.cells #[] 47)) base (.slice (some ⟨g, 0, none⟩) l.length c') (midL lim l 0) by rw [midL_zero]; exact hT.alloc _)
  have HC0 := Lib.hid (RW.empty kC 47 (w := w.alloc (.cells #[] 47)) w.heap.size w.heap.size (heap_alloc_new w _) (Nat.le_refl _))
  have HL := Lib.hid hl
  have HS := Lib.hid hs
  have HQ := Lib.hid hq0
  have HN := Lib.hid hnum
  have HL1 := Lib.hid h1
  have hm2 : l.length ≤ 1048575 := by omega
  clear hA hT hl hs hr0 hq0 hm hnum h1
  go_enter Try.func31, Try.ntmps31
  go_wp2
  go_loopw [11, 21] (fun cv i wr => ∃ k : Nat, k ≤ l.length ∧ i = .int .i64 k ∧ Hid (RW kT 44 wr base (.slice (some ⟨g, 0, none⟩) l.length c') (midL lim l k)) ∧ Hid (RW kC 47 wr w.heap.size cv (chgL num lim l k)) ∧ Hid (Gr g w wr)) (fun _ i _ => l.length - (intOf i).toNat)
  case atStart => exact ⟨0, Nat.zero_le _, rfl, HT0, HC0, Lib.hid ((Gr.refl g w).alloc _)⟩
  case round =>
    clear HT0 HC0
    obtain ⟨k, hk, rfl, H1, H2, H3⟩ := hrel
    by_cases hlt : k < l.length
    · obtain ⟨r, p, q, s, c0, c1, c2, c3, f0, f1, f2, f3, htw, h8, hge, hgl⟩ := at_RT H1.out (midL_length _ _ _) k hlt
      rw [show (midL lim l k).getD k zT = l.getD k zT from mixL_at _ _ hlt _] at htw
      have hsd : s = 0 ∨ s = 1 := by rw [htw.2.2.2]; exact HS.out k hlt
      have hs0 : 0 ≤ s ∧ s ≤ 1 := by omega
      have hsd2 : 1 - s = 0 ∨ 1 - s = 1 := by omega
      have HTW := Lib.hid htw
      have HSD := Lib.hid hsd
      have HSD2 := Lib.hid hsd2
      have hwz : w.heap.size ≤ wr.heap.size := H3.out.size
      have HLC := Lib.hid (show (chgL num lim l k).length ≤ 1048576 by have := chgL_le num lim l k; omega)
      have hnG : ∀ j, u11.ownBlock = some j → j ≠ g := fun j hj he => H2.out.ne_type H1.out ne_ct j hj (by rw [he]; rfl)
      have hlC : ∀ j, u11.ownBlock = some j → j < wr.heap.size := fun j hj => H2.out.lt j hj
      have hgl1 : g < wr.heap.size + 1 := by omega
      have hgl2 : g < wr.heap.size + 1 + 1 := by omega
      have hgl3 : g < wr.heap.size + 1 + 1 + 1 := by omega
      have hgl4 : ¬ g = wr.heap.size + 1 + 1 := by omega
      have HNG := Lib.hid hnG
      have HLC2 := Lib.hid hlC
      clear htw hsd hsd2 hnG hlC
      go_wp2_with fail
      go_at_call 37
      refine (wear_any g (k * 4) p q s HSD.out _ c1 c2 c3).mono ?_
      rintro e w2 ⟨rfl, n2, rfl⟩
      have hgd : g < (wr.drewN n2).heap.size := hgl
      cases hq : flt q0 (wearV p q s)
      · have HCh := Lib.hid (chT_miss HQ.out HTW.out.2.1 HTW.out.2.2.1 HTW.out.2.2.2 hq)
        go_wp2
        go_roundw
        case rel => exact ⟨k + 1, hlt, by go_num, Lib.hid (by unfold midL; rw [mixL_skip (he := by show (chT lim (l.getD k zT)).1 = _; rw [HCh.out])]; exact H1.out.drewN _), Lib.hid (by rw [chgL_miss HCh.out.symm]; exact H2.out.drewN _), Lib.hid (H3.out.drewN _)⟩
        case measure => simp [intOf]; omega
      · go_wp2_with fail
        go_at_call 49
        refine (turned_any g (k * 4) r p q s hs0.1 hs0.2 (wr.drewN n2) hgl c0 c1 c2 c3).mono ?_
        rintro e w' ⟨rfl, rfl⟩
        go_wp2_with fail
        go_at_call 37
        refine (wear_any _ 0 p q (1 - s) HSD2.out _ (by go_simp) (by go_simp) (by go_simp)).mono ?_
        rintro e w' ⟨rfl, n3, rfl⟩
        cases hq2 : flt q0 (wearV p q (1 - s))
        · have HCh := Lib.hid (chT_turn HQ.out HTW.out.2.1 HTW.out.2.2.1 HTW.out.2.2.2 hq hq2)
          have hcB : cB (num, IntKind.i8.wrap (k : Int), false) := ⟨HN.out, b8 _⟩
          have HCB := Lib.hid hcB
          have HY : Hid (TW r p q (1 - s) (chgT lim l k) ∧ i8B (1 - s)) := Lib.hid (by unfold chgT; rw [HCh.out]; exact ⟨⟨HTW.out.1, HTW.out.2.1, HTW.out.2.2.1, rfl⟩, by unfold i8B; omega⟩)
          clear hcB
          go_wp2_with (at_builtin; go_must (have hnG := HNG.out; have hnB : ∀ j, u11.ownBlock = some j → j ≠ wr.heap.size + 2 := fun j hj => (by have := HLC2.out j hj; omega); (refine apCb w.heap.size (o := ⟨some 53, _, _, _, _, _⟩) rfl (.tmp 46) (.tmp 52) rfl u11 (chgL num lim l k) ?y53 ?x53 ?o53 ?b53 HLC.out HCB.out ?_; (case y53 => rfl); (case x53 => go_simp); (case o53 => (repeat (first | with_reducible exact H2.out | with_reducible apply RW.alloc | with_reducible apply RW.drewN | with_reducible apply RW.drew | with_reducible refine RW.setOut ?_ rfl (by first | exact hnB | exact hnG | exact hnT) _))); (case b53 => (first | (simp; done) | (simp; omega) | omega)); intro v53 w53 ho_ hg_ hat_; have HO53 := Lib.hid ho_; have HG53 := Lib.hid (And.intro hg_ hat_); clear ho_ hg_ hat_); have hnT : ∀ j, (Value.slice (some ⟨g, 0, none⟩) l.length c').ownBlock = some j → j ≠ wr.heap.size + 2 := fun j hj => (by have : g = j := Option.some.inj hj; omega); have hlm := midL_length lim l k; have R1 : Hid (RW kT 44 w53 base (.slice (some ⟨g, 0, none⟩) l.length c') ((midL lim l k).set k (chgT lim l k))) := Lib.hid (RW.grown (by refine RT_set4 ?_ hlm k hlt HY.out.1 HY.out.2; (repeat (first | with_reducible exact H1.out | with_reducible apply RW.alloc | with_reducible apply RW.drewN | with_reducible apply RW.drew | with_reducible refine RW.setOut ?_ rfl (by first | exact hnB | exact hnG | exact hnT) _))) rfl HG53.out.1 (fun j hj he => hnG j he.symm (Option.some.inj hj).symm)); have R2 : Hid (Gr g w w53) := Lib.hid (Gr.grown (by (repeat (first | with_reducible exact H3.out | with_reducible refine Gr.alloc ?_ _ | with_reducible refine Gr.drewN ?_ _ | with_reducible refine Gr.set ?_ (by first | exact .inl rfl | (right; simp; omega) | (right; omega)) _ ))) HG53.out.1 (fun j hj => .inr (H2.out.base_le j hj))); clear hnG hnB hnT hlm))
          go_roundw
          case rel => exact ⟨k + 1, hlt, by go_num, Lib.hid (by have := R1.out; unfold midL at this ⊢; rw [mixL_set _ _ hlt] at this; exact this), Lib.hid (by rw [chgL_hit HCh.out.symm]; exact HO53.out), R2⟩
          case measure => simp [intOf]; omega
        · have HCh := Lib.hid (chT_new HQ.out HTW.out.2.1 HTW.out.2.2.1 HTW.out.2.2.2 hq hq2)
          have hb0 := fun (w : World) => run_build (P := Try.prog) w 44 #[(0, .float .f32 r)] #[.float .f32 r, .float .f32 0, .float .f32 0, .int .i8 0] (by kernel_rfl)
          have hcB : cB (num, IntKind.i8.wrap (k : Int), true) := ⟨HN.out, b8 _⟩
          have HCB := Lib.hid hcB
          have HY : Hid (TW r 0 0 0 (chgT lim l k) ∧ i8B 0) := Lib.hid (by unfold chgT; rw [HCh.out]; exact ⟨⟨HTW.out.1, FV_zero, FV_zero, rfl⟩, by unfold i8B; omega⟩)
          clear hcB
          go_wp2_with (at_builtin; go_must (have hnG := HNG.out; have hnB : ∀ j, u11.ownBlock = some j → j ≠ wr.heap.size + 2 := fun j hj => (by have := HLC2.out j hj; omega); (refine apCb w.heap.size (o := ⟨some 53, _, _, _, _, _⟩) rfl (.tmp 46) (.tmp 52) rfl u11 (chgL num lim l k) ?y53 ?x53 ?o53 ?b53 HLC.out HCB.out ?_; (case y53 => rfl); (case x53 => go_simp); (case o53 => (repeat (first | with_reducible exact H2.out | with_reducible apply RW.alloc | with_reducible apply RW.drewN | with_reducible apply RW.drew | with_reducible refine RW.setOut ?_ rfl (by first | exact hnB | exact hnG | exact hnT) _))); (case b53 => (first | (simp; done) | (simp; omega) | omega)); intro v53 w53 ho_ hg_ hat_; have HO53 := Lib.hid ho_; have HG53 := Lib.hid (And.intro hg_ hat_); clear ho_ hg_ hat_); have hnT : ∀ j, (Value.slice (some ⟨g, 0, none⟩) l.length c').ownBlock = some j → j ≠ wr.heap.size + 2 := fun j hj => (by have : g = j := Option.some.inj hj; omega); have hlm := midL_length lim l k; have R1 : Hid (RW kT 44 w53 base (.slice (some ⟨g, 0, none⟩) l.length c') ((midL lim l k).set k (chgT lim l k))) := Lib.hid (RW.grown (by refine RT_set4 ?_ hlm k hlt HY.out.1 HY.out.2; (repeat (first | with_reducible exact H1.out | with_reducible apply RW.alloc | with_reducible apply RW.drewN | with_reducible apply RW.drew | with_reducible refine RW.setOut ?_ rfl (by first | exact hnB | exact hnG | exact hnT) _))) rfl HG53.out.1 (fun j hj he => hnG j he.symm (Option.some.inj hj).symm)); have R2 : Hid (Gr g w w53) := Lib.hid (Gr.grown (by (repeat (first | with_reducible exact H3.out | with_reducible refine Gr.alloc ?_ _ | with_reducible refine Gr.drewN ?_ _ | with_reducible refine Gr.set ?_ (by first | exact .inl rfl | (right; simp; omega) | (right; omega)) _ ))) HG53.out.1 (fun j hj => .inr (H2.out.base_le j hj))); clear hnG hnB hnT hlm))
          go_roundw
          case rel => exact ⟨k + 1, hlt, by go_num, Lib.hid (by have := R1.out; unfold midL at this ⊢; rw [mixL_set _ _ hlt] at this; exact this), Lib.hid (by rw [chgL_hit HCh.out.symm]; exact HO53.out), R2⟩
          case measure => simp [intOf]; omega
    · have hkl : k = l.length := by omega
      subst hkl
      go_wp2_with fail
      go_at_call 50
      refine (HTo.out _ H3.out).mono ?_
      rintro e w2 ⟨tv, rfl, hT2, hb2⟩
      obtain ⟨gT, cT, xT, rfl, hgT, eT, hxT⟩ := at_FR' hT2 (t.length + 1) (torL_length _ _ _) 0 (Nat.succ_pos _)
      have hcT : t.length + 1 ≤ cT := by
        obtain ⟨A2, c2, hv2, hc2, _⟩ := hT2.reads
        rw [torL_length] at hc2
        injection hv2 with _ _ hv2
        omega
      have hc1 : ¬ cT = 1 := by have := HL1.out; omega
      have hc0 : 1 < cT := by have := HL1.out; omega
      have F3 := Lib.hid (RW.ofF hT2)
      have F1 := Lib.hid (H1.out.below hb2)
      have F2 := Lib.hid (H2.out.below hb2)
      have G2 := Lib.hid (H3.out.step hb2)
      clear hT2 hxT eT H1 H2 H3 HTo
      go_wp2
      have F10 := Lib.hid (show RW kT 44 w2 base (.slice (some ⟨g, 0, none⟩) l.length c') (finL t l x lim 0) by rw [finL_zero]; exact F1.out)
      clear F1 hb2 hgT
      go_loopw [60] (fun i wz => ∃ k : Nat, k ≤ t.length ∧ i = .int .i64 k ∧ Hid (RW kT 44 wz base (.slice (some ⟨g, 0, none⟩) l.length c') (finL t l x lim k)) ∧ Hid (RW kC 47 wz w.heap.size u11 (chgL num lim l l.length)) ∧ Hid (∃ b, RW kf 31 wz b (.slice (some ⟨gT, 0, none⟩) (t.length + 1) cT) (torL t x t.length)) ∧ Hid (Gr g w wz)) (fun i _ => t.length - (intOf i).toNat)
      case atStart => exact ⟨0, Nat.zero_le _, rfl, F10, F2, Lib.hid ⟨_, F3.out⟩, G2⟩
      case round =>
        clear F10 F2 F3 G2
        obtain ⟨k, hk, rfl, H1, H2, H3, H4⟩ := hrel
        by_cases hlt2 : k < t.length
        · have hlk : k < l.length := by have := HL.out; omega
          obtain ⟨r, p, q, s, c0, c1, c2, c3, f0, f1, f2, f3, htw, h8, hge, hgl⟩ := at_RT H1.out (finL_length _ _ _ _ _) k hlk
          rw [show (finL t l x lim k).getD k zT = chgT lim l k from mixL_at _ _ hlk _] at htw
          have hsd : s = 0 ∨ s = 1 := by rw [htw.2.2.2]; exact chT_side (lim := lim) (HS.out k hlk)
          have HTW := Lib.hid htw
          obtain ⟨bT, hT3⟩ := H3.out
          obtain ⟨g2, cT2, xT2, hv2, hgT, eT, hxT⟩ := at_FR' hT3.toF (t.length + 1) (torL_length _ _ _) (k + 1) (by omega)
          rw [torL_get _ _ (by omega)] at hxT
          obtain ⟨hgg, hcc⟩ : gT = g2 ∧ cT = cT2 := by injection hv2 with a b c; injection a with a; injection a with a; exact ⟨a, c⟩
          subst hgg
          have eT1 : wr.cell? ⟨gT, 1 + k, none⟩ = some (.float .f32 xT2) := by rw [Nat.add_comm]; exact eT
          have HX := Lib.hid hxT
          have hfz : ∀ j, wr.frozen? ⟨g, j, none⟩ = false := by
            obtain ⟨cells, hc⟩ := Kd.R_typed H1.out.out g rfl
            exact fun j => blk_frozen hc j
          have HFZ := Lib.hid hfz
          have hwz : w.heap.size ≤ wr.heap.size := H4.out.size
          have hnG : ∀ j, u11.ownBlock = some j → j ≠ g := fun j hj he => H2.out.ne_type H1.out ne_ct j hj (by rw [he]; rfl)
          have hnT : ∀ j, (Value.slice (some ⟨gT, 0, none⟩) (t.length + 1) cT).ownBlock = some j → j ≠ g := fun j hj he => hT3.ne_type H1.out ne_ft' j hj (by rw [he]; rfl)
          have HNG := Lib.hid hnG
          have HNT := Lib.hid hnT
          have HT3 := Lib.hid hT3
          clear htw hxT hfz hnG hnT hv2 hcc hT3 f0 f1 f2 f3
          obtain ⟨wo, hwo⟩ : ∃ wo : World, wo = wr := ⟨_, rfl⟩
          subst hwo
          rcases hsd with rfl | rfl
          · go_wp2
            first | refine region_tailN (DFv (sizeV (torV t x (k + 1)))) 6 (by kernel_rfl) (by kernel_rfl) ?_ | refine region_tail (DFv (sizeV (torV t x (k + 1)))) 6 (by kernel_rfl) (by kernel_rfl) ?_
            repeat (first | (refine wpRel_plain rfl (fun K hK => ?_); intro w' hw'; obtain ⟨n', rfl⟩ := hw'; go_simp; refine ⟨?_, fun v hv => ?_⟩; (go_at_call 52; refine (size_any _ _ HX.out _).mono ?_; rintro e w'' ⟨r_, rfl, hr_, hd_⟩; exact ⟨_, rfl, ⟨r_, rfl, hr_⟩, (Drew.mk _ _).trans hd_⟩); obtain ⟨r69, rfl, h69⟩ := hv; (refine hK _ ?_; clear hK K n')) | (refine wpRel_plain (o := ⟨some 70, _, _, _, _, _⟩) rfl (fun K hK => ?_); refine relOp_minc (drewN_Drew_closed _) numM rfl h69.2 rfl rfl (fun r70 h70 => hK _ ?_); clear hK K) | (refine wpRel_plain rfl (fun K hK => ?_); intro w' hw'; obtain ⟨n', rfl⟩ := hw'; go_simp; refine ⟨Drew.mk _ _, hK _ ?_⟩; clear hK K n'))
            (refine wpRel_nil ?_; intro w' hw'; obtain ⟨nq, rfl⟩ := hw')
            simp only [List.drop]
            have hld : FV r70 (loadV t x k) := by rw [h69.1] at h70; exact h70
            have HLD := Lib.hid hld
            clear h69 h70 hld
            go_wp2_with fail
            go_at_call 51
            refine (use0_any g (k * 4) r p q r70 (wo.drewN nq) hgl HFZ.out c0 c1 c2 c3).mono ?_
            rintro e w' ⟨u, n4, rfl, hu, rfl⟩
            have hu2 : FV u (wornV (chgT lim l k).1 (chgT lim l k).2.1 (loadV t x k)) := by rw [← wornV_FV HTW.out.1 HTW.out.2.1 HLD.out]; exact hu
            have HU := Lib.hid hu2
            clear hu hu2
            have hs4 : (chgT lim l k).2.2.2 = 0 := HTW.out.2.2.2.symm
            have HY := Lib.hid (show wkT t l x lim k = ((chgT lim l k).1, wornV (chgT lim l k).1 (chgT lim l k).2.1 (loadV t x k), (chgT lim l k).2.2.1, (0 : Int)) by show wornT (chgT lim l k) (loadV t x k) = _; unfold wornT; rw [hs4]; rfl)
            have HAT := Lib.hid (show (finL t l x lim k).getD k zT = chgT lim l k from mixL_at _ _ hlk _)
            have HS4 := Lib.hid hs4
            clear hs4
            have R1 := Lib.hid (RT_set1 (H1.out.drewN (nq + n4)) (finL_length _ _ _ _ _) k hlk HU.out (y := wkT t l x lim k) (by rw [HAT.out, HY.out, HS4.out]))
            have R2 := Lib.hid (RW.setOut (o := k * 4 + 1) (H2.out.drewN (nq + n4)) rfl HNG.out (.float .f32 u))
            have R3 := Lib.hid (RW.setOut (o := k * 4 + 1) (HT3.out.drewN (nq + n4)) rfl HNT.out (.float .f32 u))
            have R4 := Lib.hid ((H4.out.drewN (nq + n4)).set (b := g) (o := k * 4 + 1) (.inl rfl) (.float .f32 u))
            go_wp2
            go_roundw
            case rel => exact ⟨k + 1, hlt2, by go_num, Lib.hid (by have := R1.out; unfold finL at this ⊢; rw [mixL_set _ _ hlk] at this; exact this), R2, Lib.hid ⟨_, R3.out⟩, R4⟩
            case measure => simp [intOf]; omega
          · go_wp2
            first | refine region_tailN (DFv (sizeV (torV t x (k + 1)))) 6 (by kernel_rfl) (by kernel_rfl) ?_ | refine region_tail (DFv (sizeV (torV t x (k + 1)))) 6 (by kernel_rfl) (by kernel_rfl) ?_
            repeat (first | (refine wpRel_plain rfl (fun K hK => ?_); intro w' hw'; obtain ⟨n', rfl⟩ := hw'; go_simp; refine ⟨?_, fun v hv => ?_⟩; (go_at_call 52; refine (size_any _ _ HX.out _).mono ?_; rintro e w'' ⟨r_, rfl, hr_, hd_⟩; exact ⟨_, rfl, ⟨r_, rfl, hr_⟩, (Drew.mk _ _).trans hd_⟩); obtain ⟨r69, rfl, h69⟩ := hv; (refine hK _ ?_; clear hK K n')) | (refine wpRel_plain (o := ⟨some 70, _, _, _, _, _⟩) rfl (fun K hK => ?_); refine relOp_minc (drewN_Drew_closed _) numM rfl h69.2 rfl rfl (fun r70 h70 => hK _ ?_); clear hK K) | (refine wpRel_plain rfl (fun K hK => ?_); intro w' hw'; obtain ⟨n', rfl⟩ := hw'; go_simp; refine ⟨Drew.mk _ _, hK _ ?_⟩; clear hK K n'))
            (refine wpRel_nil ?_; intro w' hw'; obtain ⟨nq, rfl⟩ := hw')
            simp only [List.drop]
            have hld : FV r70 (loadV t x k) := by rw [h69.1] at h70; exact h70
            have HLD := Lib.hid hld
            clear h69 h70 hld
            go_wp2_with fail
            go_at_call 51
            refine (use1_any g (k * 4) r p q r70 (wo.drewN nq) hgl HFZ.out c0 c1 c2 c3).mono ?_
            rintro e w' ⟨u, n4, rfl, hu, rfl⟩
            have hu2 : FV u (wornV (chgT lim l k).1 (chgT lim l k).2.2.1 (loadV t x k)) := by rw [← wornV_FV HTW.out.1 HTW.out.2.2.1 HLD.out]; exact hu
            have HU := Lib.hid hu2
            clear hu hu2
            have hs4 : (chgT lim l k).2.2.2 = 1 := HTW.out.2.2.2.symm
            have HY := Lib.hid (show wkT t l x lim k = ((chgT lim l k).1, (chgT lim l k).2.1, wornV (chgT lim l k).1 (chgT lim l k).2.2.1 (loadV t x k), (1 : Int)) by show wornT (chgT lim l k) (loadV t x k) = _; unfold wornT; rw [hs4]; rfl)
            have HAT := Lib.hid (show (finL t l x lim k).getD k zT = chgT lim l k from mixL_at _ _ hlk _)
            have HS4 := Lib.hid hs4
            clear hs4
            have R1 := Lib.hid (RT_set2 (H1.out.drewN (nq + n4)) (finL_length _ _ _ _ _) k hlk HU.out (y := wkT t l x lim k) (by rw [HAT.out, HY.out, HS4.out]))
            have R2 := Lib.hid (RW.setOut (o := k * 4 + 2) (H2.out.drewN (nq + n4)) rfl HNG.out (.float .f32 u))
            have R3 := Lib.hid (RW.setOut (o := k * 4 + 2) (HT3.out.drewN (nq + n4)) rfl HNT.out (.float .f32 u))
            have R4 := Lib.hid ((H4.out.drewN (nq + n4)).set (b := g) (o := k * 4 + 2) (.inl rfl) (.float .f32 u))
            go_wp2
            go_roundw
            case rel => exact ⟨k + 1, hlt2, by go_num, Lib.hid (by have := R1.out; unfold finL at this ⊢; rw [mixL_set _ _ hlk] at this; exact this), R2, Lib.hid ⟨_, R3.out⟩, R4⟩
            case measure => simp [intOf]; omega
        · have hkt : k = l.length := by have := HL.out; omega
          subst hkt
          rw [finL_full] at H1
          go_wp2
          go_ret
          exact ⟨_, rfl, H2.out, H1.out, H4.out⟩
end Go.Proofs.Ytgdaompppclnlaa
