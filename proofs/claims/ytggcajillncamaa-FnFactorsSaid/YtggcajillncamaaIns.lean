/- A wheel put into a box of the call's own: slices.Insert and slices.Clone. A box copied; a wheel added: plain. -/
import Derived.Test.YtggcajillncamaaInsT
import Derived.Test.YtggcajillncamaaBin
import Derived.Test.YtggcajillncamaaAim
import Derived.Test.YtggcajillncamaaBst
import Derived.Lib.SliceRun
namespace Go.Proofs.Ytggcajillncamaa
open Go.RowKit Go.Lib
open Go.Proofs.YtggcajillncamaaW.PrintWords
set_option maxRecDepth 100000
def enc16 (x : Int) : Value := .int .i16 x
def in16 (l : List Int) : Prop := ∀ v ∈ l, -32768 ≤ v ∧ v ≤ 32767
/-- An own row of whole numbers, its block laid open. -/
theorem row_open16 {w : World} {base : Nat} {v : Value} {xs : List Int} (h : RW ki16 40 w base v xs) (hp : 0 < xs.length) :
    ∃ g cap cur, v = .slice (some ⟨g, 0, none⟩) xs.length cap ∧ base ≤ g ∧ g < w.heap.size ∧ w.heap[g]? = some (.cells cur 40 (0, 0)) ∧ xs.length ≤ cap ∧ cap ≤ maxLen ∧ cur.size = cap ∧ (∀ j, j < xs.length → cur[j]? = some (enc16 (xs.getD j 0))) ∧ in16 xs := by
  have hR := h
  obtain ⟨_, inner, ⟨_, ho⟩, _⟩ := h
  rcases ho with ⟨_, hz⟩ | ⟨g, cap, cur, hv, hb, hc, h1, h2, h3, _⟩
  · exact absurd hz (by omega)
  · subst hv
    have hg : g < w.heap.size := (Array.getElem?_eq_some_iff.1 hc).1
    have key : ∀ j, j < xs.length → cur[j]? = some (enc16 (xs.getD j 0)) ∧ -32768 ≤ xs.getD j 0 ∧ xs.getD j 0 ≤ 32767 := fun j hj => by
      obtain ⟨ce, hcl, hM, hcc, hfr⟩ := Kd.R_elem hR 0 (j : Int) (by omega) (by omega)
      obtain ⟨rfl, hb1, hb2⟩ := ki_openM hM
      have e0 : (j : Int).toNat * ki16.sz + 0 = j := by show j * 1 + 0 = j; omega
      have x0 := hcc 0 _ rfl
      rw [e0] at x0
      rw [Int.toNat_natCast] at x0 hb1 hb2
      refine ⟨?_, hb1, hb2⟩
      rw [← blk_cell hc]; exact x0
    refine ⟨g, cap, cur, rfl, hb, hg, hc, h1, h2, (by rw [h3]; show cap * 1 = cap; omega), fun j hj => (key j hj).1, fun v hv => ?_⟩
    obtain ⟨j, hj, rfl⟩ := List.getElem_of_mem hv
    have := (key j hj).2
    rwa [List.getD_eq_getElem?_getD, List.getElem?_eq_getElem hj] at this
/-- .. and shut again. -/
theorem row_shut16 {w : World} {base g cap : Nat} {cur : Array Value} {ys : List Int} (hb : base ≤ g) (hc : w.heap[g]? = some (.cells cur 40 (0, 0))) (h1 : ys.length ≤ cap) (h2 : cap ≤ maxLen) (h3 : cur.size = cap) (hn : in16 ys)
    (hcell : cur.toList.take ys.length = ys.map enc16) : RW ki16 40 w base (.slice (some ⟨g, 0, none⟩) ys.length cap) ys := by
  refine ⟨fun _ _ => trivial, cur.toList.take (ys.length * 1), ⟨?_, .inr ⟨g, cap, cur, rfl, hb, hc, h1, h2, ?_, rfl⟩⟩, ?_⟩
  · show (cur.toList.take (ys.length * 1)).length = ys.length * 1
    rw [List.length_take]
    simp; omega
  · show cur.size = cap * 1
    omega
  · refine ⟨?_, fun j p hj => ?_⟩
    · show (cur.toList.take (ys.length * 1)).length = ys.length * 1
      rw [List.length_take]
      simp; omega
    · have hj' : j < ys.length := (List.getElem?_eq_some_iff.1 hj).1
      have hpm : p ∈ ys := List.mem_of_getElem? hj
      have h4 := hn p hpm
      refine ⟨?_, h4.1, h4.2⟩
      show ((cur.toList.take (ys.length * 1)).drop (j * 1)).take 1 = _
      rw [Nat.mul_one, Nat.mul_one, hcell]
      have e : (ys.map enc16)[j]? = some (enc16 p) := by rw [List.getElem?_map, hj]; rfl
      rw [List.take_one, List.head?_drop, e]
      rfl
theorem take_of_cells {cur : Array Value} {xs : List Int} {cap : Nat} (h3 : cur.size = cap) (h1 : xs.length ≤ cap) (h : ∀ j, j < xs.length → cur[j]? = some (enc16 (xs.getD j 0))) : cur.toList.take xs.length = xs.map enc16 := by
  apply List.ext_getElem?
  intro j
  by_cases hj : j < xs.length
  · rw [List.getElem?_take_of_lt hj, Array.getElem?_toList, h j hj, List.getElem?_map, List.getElem?_eq_getElem hj, List.getD_eq_getElem?_getD, List.getElem?_eq_getElem hj]
    rfl
  · rw [List.getElem?_eq_none (by rw [List.length_take]; omega), List.getElem?_eq_none (by simp; omega)]
/-- One wheel more. -/
def insL (l : List Int) (i : Nat) (z : Int) : List Int := l.take i ++ z :: l.drop i
theorem insL_len {l : List Int} {i : Nat} (h : i ≤ l.length) (z : Int) : (insL l i z).length = l.length + 1 := by
  unfold insL
  rw [List.length_append, List.length_cons, List.length_take, List.length_drop]
  omega
theorem insL_in {l : List Int} {i : Nat} {z : Int} (h : in16 l) (h1 : -32768 ≤ z) (h2 : z ≤ 32767) : in16 (insL l i z) := fun v hv => by
  rcases List.mem_append.1 hv with hv | hv
  · exact h v (List.mem_of_mem_take hv)
  · rcases List.mem_cons.1 hv with rfl | hv
    · exact ⟨h1, h2⟩
    · exact h v (List.mem_of_mem_drop hv)
theorem insL_map (l : List Int) (i : Nat) (z : Int) : (insL l i z).map enc16 = (l.map enc16).take i ++ enc16 z :: (l.map enc16).drop i := by
  unfold insL
  rw [List.map_append, List.map_cons, List.map_take, List.map_drop]
theorem one16 {l : List Int} : ∀ v ∈ l.map enc16, v.oneCell' = true := fun v hv => by
  obtain ⟨x, _, rfl⟩ := List.mem_map.1 hv
  rfl
/-- The cells behind the two copies: room in place. -/
theorem shift_take {C cs : List Value} {Z : Value} {n i : Nat} (hcs : C.take n = cs) (hcl : cs.length = n) (hi : i ≤ n) (hC : n + 1 ≤ C.length) :
    ((((C.take (i + 1) ++ cs.drop i ++ C.drop (i + 1 + (cs.drop i).length)).take i) ++ [Z] ++ (C.take (i + 1) ++ cs.drop i ++ C.drop (i + 1 + (cs.drop i).length)).drop (i + 1))).take (n + 1) = cs.take i ++ Z :: cs.drop i := by
  have e1 : (C.take (i + 1) ++ cs.drop i ++ C.drop (i + 1 + (cs.drop i).length)).take i = cs.take i := by
    rw [List.append_assoc, List.take_append_of_le_length (by rw [List.length_take]; omega), List.take_take, Nat.min_eq_left (by omega), ← hcs, List.take_take, Nat.min_eq_left hi]
  have e2 : (C.take (i + 1) ++ cs.drop i ++ C.drop (i + 1 + (cs.drop i).length)).drop (i + 1) = cs.drop i ++ C.drop (i + 1 + (cs.drop i).length) := by
    rw [List.append_assoc, List.drop_append_of_le_length (by rw [List.length_take]; omega)]
    rw [List.drop_eq_nil_of_le (by rw [List.length_take]; omega), List.nil_append]
  rw [e1, e2, List.append_assoc, List.singleton_append]
  have e3 : cs.take i ++ Z :: (cs.drop i ++ C.drop (i + 1 + (cs.drop i).length)) = (cs.take i ++ Z :: cs.drop i) ++ C.drop (i + 1 + (cs.drop i).length) := by simp
  rw [e3]
  exact List.take_left' (by rw [List.length_append, List.length_cons, List.length_take, List.length_drop]; omega)
/-- .. and a new block. -/
theorem grow_take {R cs : List Value} {Z : Value} {n i : Nat} (hcl : cs.length = n) (hi : i ≤ n) (hR : R.take i = cs.take i) (hl : n + 1 ≤ R.length) :
    (((R.take i ++ [Z] ++ R.drop (i + 1)).take (i + 1)) ++ cs.drop i ++ (R.take i ++ [Z] ++ R.drop (i + 1)).drop (i + 1 + (cs.drop i).length)).take (n + 1) = cs.take i ++ Z :: cs.drop i := by
  have e1 : (R.take i ++ [Z] ++ R.drop (i + 1)).take (i + 1) = cs.take i ++ [Z] := by
    rw [List.take_left' (by rw [List.length_append, List.length_take]; simp; omega), hR]
  rw [e1]
  rw [List.take_left' (by simp only [List.length_append, List.length_take, List.length_drop, List.length_singleton]; omega)]
  simp
theorem bcells {B g : Nat} {a w : World} (h : Below B a w) (hg : B ≤ g) (vs : List Value) (o : Nat) : Below B a (w.setCells g o vs) := by
  obtain ⟨s1, s2, s3, s4⟩ := setCells_same g vs o w
  exact ⟨s1.trans h.os, s2.trans h.tape, s3.trans h.output, by rw [s4]; exact h.size, fun k hk => (setCells_far vs o k (by omega)).trans (h.block k hk)⟩
section
set_option maxHeartbeats 2000000
theorem insert_any {w : World} {base i : Nat} {v : Value} {l : List Int} {z : Int} (h : RW ki16 40 w base v l) (hp : 0 < l.length) (hm : l.length ≤ 1000) (hi : i ≤ l.length) (hbw : base ≤ w.heap.size) (h1 : -32768 ≤ z) (h2 : z ≤ 32767) :
    Calls Try.prog 38 #[v, .int .i64 i, .slice (some ⟨w.heap.size, 0, none⟩) 1 1] (w.alloc (.cells #[.int .i16 z] 40)) fun e w' => ∃ v', e = .returned v' ∧ RW ki16 40 w' base v' (insL l i z) ∧ Below base w w' := by
  obtain ⟨g, cap, cur, rfl, hbg, hg, hc, hcap, hmax, hcs, hcell, hin⟩ := row_open16 h hp
  have hC := take_of_cells hcs hcap hcell
  have hc' := blk_alloc hc (.cells #[.int .i16 z] 40)
  have hnew := heap_alloc_new w (.cells #[.int .i16 z] 40)
  have hbW : Below base w (w.alloc (.cells #[.int .i16 z] 40)) := (Below.refl base w).alloc hbw _
  have hWs : (w.alloc (.cells #[.int .i16 z] 40)).heap.size = w.heap.size + 1 := by simp
  obtain ⟨W, hW⟩ : ∃ W, w.alloc (.cells #[.int .i16 z] 40) = W := ⟨_, rfl⟩
  rw [hW] at hc' hnew hbW hWs ⊢
  clear hW h
  have hlen : (l.map enc16).length = l.length := by simp
  have hCl : cur.toList.length = cap := by simp [hcs]
  have hcs1 : ∀ j u, (l.map enc16)[j]? = some u → W.cell? ⟨g, 0 + j, none⟩ = some u := fun j u hj => by
    rw [Nat.zero_add, blk_cell hc']
    have hj' : j < l.length := by have := (List.getElem?_eq_some_iff.1 hj).1; omega
    rw [hcell j hj', ← hj, List.getElem?_map, List.getElem?_eq_getElem hj', List.getD_eq_getElem?_getD, List.getElem?_eq_getElem hj']
    rfl
  have hvs1 : ∀ j u, [enc16 z][j]? = some u → W.cell? ⟨w.heap.size, 0 + j, none⟩ = some u := fun j u hj => by
    rw [Nat.zero_add, blk_cell hnew]
    rw [← hj]
    cases j <;> rfl
  have h1v : ∀ u ∈ [enc16 z], u.oneCell' = true := fun u hu => by rw [List.mem_singleton.1 hu]; rfl
  have hout : (insL l i z).map enc16 = (l.map enc16).take i ++ enc16 z :: (l.map enc16).drop i := insL_map l i z
  have hol := insL_len hi z
  unfold maxLen at hmax
  by_cases hroom : l.length + 1 ≤ cap
  · have hsp : ∀ j, j < l.length + 1 → (W.cell? ⟨g, 0 + j, none⟩).isSome = true := fun j hj => by
      rw [Nat.zero_add, blk_cell hc', Array.getElem?_eq_getElem (by omega)]; rfl
    have hfz : ∀ j, j < l.length + 1 → W.frozen? ⟨g, 0 + j, none⟩ = false := fun j _ => blk_frozen hc' _
    by_cases hlt : i < l.length
    · refine (ins_shift g 0 l.length cap i w.heap.size 0 1 1 (l.map enc16) [enc16 z] W hlt (by omega) hroom (by omega) (by omega) hlen rfl hcs1 hsp hfz hvs1 one16 h1v 40 40 1 cap ?_ ?_ (by omega) (blk_frozen hnew _) (blk_frozen hnew _)).mono ?_
      · simp [World.shape?, hnew]
      · simp [World.shape?, hc', hcs]
      · rintro e w' ⟨rfl, rfl⟩
        obtain ⟨c1, b1, b2, b3⟩ := setCells_row ((l.map enc16).drop i) (0 + (i + 1)) W.drew cur (blk_drew hc') (by rw [List.length_drop, hlen]; omega)
        obtain ⟨c2, d1, d2, d3⟩ := setCells_row [enc16 z] (0 + i) _ c1 b1 (by show 0 + i + 1 ≤ c1.size; omega)
        refine ⟨_, rfl, ?_, ?_⟩
        · rw [← hol]
          refine row_shut16 hbg d1 (by omega) hmax (by omega) (insL_in hin h1 h2) ?_
          rw [hol, hout, d3, b3]
          simp only [Nat.zero_add, List.length_singleton]
          exact shift_take hC hlen hi (by omega)
        · exact bcells (bcells hbW.drew hbg _ _) hbg _ _
    · obtain rfl : i = l.length := by omega
      refine (ins_end_room g 0 l.length cap w.heap.size 0 1 1 [enc16 z] W (by omega) hroom (by omega) rfl (fun j hj => by rw [Nat.add_assoc]; exact hsp _ (by omega)) (fun j hj => by rw [Nat.add_assoc]; exact hfz _ (by omega)) hvs1 h1v).mono ?_
      rintro e w' ⟨rfl, rfl⟩
      obtain ⟨c2, d1, d2, d3⟩ := setCells_row [enc16 z] (0 + l.length) W cur hc' (by show 0 + l.length + 1 ≤ cur.size; omega)
      refine ⟨_, rfl, ?_, bcells hbW hbg _ _⟩
      rw [← hol]
      refine row_shut16 hbg d1 (by omega) hmax (by omega) (insL_in hin h1 h2) ?_
      rw [hol, hout, d3]
      simp only [Nat.zero_add, List.length_singleton]
      rw [hC, List.take_left' (by rw [List.length_append, hlen]; rfl), List.take_of_length_le (by omega), List.drop_eq_nil_of_le (by omega)]
  · have hG : l.length + 1 ≤ grownCap W (l.length + 1) cap 40 := grownCap_ge W _ _ _
    have hG63 : grownCap W (l.length + 1) cap 40 ≤ maxLen := grownCap_le_maxLen W (l.length + 1) cap 40 (by unfold maxLen; omega)
    have hbW2 : base ≤ W.heap.size := by omega
    by_cases hlt : i < l.length
    · refine (ins_grow g 0 l.length cap i w.heap.size 0 1 1 (l.map enc16) [enc16 z] W hlt (by omega) hcap (by omega) (by omega) hlen rfl hcs1 hvs1 one16 h1v).mono ?_
      rintro e w' ⟨rfl, rfl⟩
      obtain ⟨G, hGe⟩ : ∃ G, grownCap W (l.length + 1) cap 40 = G := ⟨_, rfl⟩
      rw [hGe] at hG hG63 ⊢
      obtain ⟨ROW, hROW⟩ : ∃ ROW : Array Value, ((l.map enc16).take i).toArray ++ Builtin.zeroCells (Value.int .i16 0).cells (l.length + 1 - i) ++ Builtin.zeroCells (Value.int .i16 0).cells (G - (l.length + 1)) = ROW := ⟨_, rfl⟩
      have hRs : ROW.size = G := by
        rw [← hROW]
        simp [Builtin.zeroCells, Value.cells]
        omega
      have hRt : ROW.toList.take i = (l.map enc16).take i := by
        rw [← hROW]
        simp only [Array.toList_append, List.append_assoc]
        exact List.take_left' (by rw [List.length_take, hlen]; omega)
      rw [hROW]
      clear hROW hGe
      have hn0 := heap_alloc_new W (.cells ROW 40)
      obtain ⟨c1, b1, b2, b3⟩ := setCells_row [enc16 z] i ((W.alloc (.cells ROW 40)).drew) ROW (blk_drew hn0) (by show i + 1 ≤ ROW.size; omega)
      obtain ⟨c2, d1, d2, d3⟩ := setCells_row ((l.map enc16).drop i) (i + 1) _ c1 (blk_drew b1) (by rw [List.length_drop, hlen]; omega)
      refine ⟨_, rfl, ?_, bcells (bcells (hbW.alloc hbW2 _).drew hbW2 _ _).drew hbW2 _ _⟩
      rw [← hol]
      refine row_shut16 hbW2 d1 (by omega) hG63 (by omega) (insL_in hin h1 h2) ?_
      rw [hol, hout, d3, b3]
      simp only [List.length_singleton]
      exact grow_take hlen hi hRt (by have h5 : ROW.toList.length = ROW.size := Array.length_toList; omega)
    · obtain rfl : i = l.length := by omega
      refine (ins_end_grow (some ⟨g, 0, none⟩) l.length cap w.heap.size 0 1 1 (l.map enc16) [enc16 z] W (by omega) hcap (by omega) (by omega) hlen rfl (fun h => by cases h) (fun a ha j u hj => by injection ha with ha; subst ha; rw [Addr.add_lit]; exact hcs1 j u hj) hvs1 h1v).mono ?_
      rintro e w' ⟨rfl, rfl⟩
      obtain ⟨G, hGe⟩ : ∃ G, grownCap W (l.length + 1) cap 40 = G := ⟨_, rfl⟩
      rw [hGe] at hG hG63 ⊢
      obtain ⟨ROW, hROW⟩ : ∃ ROW : Array Value, (l.map enc16 ++ [enc16 z]).toArray ++ Builtin.zeroCells (Value.int .i16 0).cells (G - (l.length + 1)) = ROW := ⟨_, rfl⟩
      have hRs : ROW.size = G := by
        rw [← hROW]
        simp [Builtin.zeroCells, Value.cells]
        omega
      have hRt : ROW.toList.take (l.length + 1) = l.map enc16 ++ [enc16 z] := by
        rw [← hROW, Array.toList_append]
        exact List.take_left' (by simp)
      rw [hROW]
      clear hROW hGe
      have hn0 := heap_alloc_new W.drew (.cells ROW 40)
      refine ⟨_, rfl, ?_, hbW.drew.alloc hbW2 _⟩
      rw [← hol]
      refine row_shut16 hbW2 hn0 (by omega) hG63 hRs (insL_in hin h1 h2) ?_
      rw [hol, hout, hRt, List.take_of_length_le (by omega), List.drop_eq_nil_of_le (by omega)]
end
end Go.Proofs.Ytggcajillncamaa
namespace Go.Proofs.Ytggcajillncamaa
open Go.RowKit Ieee
open Go.Proofs.YtggcajillncamaaW.PrintWords
set_option maxRecDepth 100000
attribute [local irreducible] wpRel
section
variable {ops : Array Oper} {rest : List Oper} {o : Oper} {a : Act} {Q : Exit → Act → World → Prop}
/-- append(v, ys...) of whole numbers, whichever base. -/
theorem catW (base : Nat) {W : World} (hgd : o.guard = none) (s x : Operand) (ho : o.op = .call { callee := .builtin .append, args := #[s, x], argTypes := #[24, 24] })
    (v : Value) (xs ys : List Int) (A : Option Addr) (m c : Nat) (hs : a.eval s = v) (hx : a.eval x = .slice A m c)
    (HO : RW ki16 40 W base v xs) (HR : Kd.C ki16 W A m ys) (hb : base ≤ W.heap.size) (hl : xs.length + m ≤ 2097152)
    (h : ∀ v1 w1, RW ki16 40 w1 base v1 (xs ++ ys) → W.grownBy w1 v.ownBlock → (v1.ownBlock = v.ownBlock ∨ ∃ b, v1.ownBlock = some b ∧ W.heap.size ≤ b) → wpList Try.prog ops Q rest (a.put o.dst v1) w1) :
    wpList Try.prog ops Q (o :: rest) a W :=
  Kd.R_append_rows ki16 (Rr := ki16.K W) (w0 := W) base hgd s x 24 40 (.int .i16 0) 2 ho Try.underlying24 info_i16 rfl (by decide) (by decide) v xs ys A m c (fun _ => True) (fun _ => False) hs hx HO HR (fun _ _ h => h) (fun _ h => h.elim) (fun _ _ => trivial) (Below.refl _ _) hb (by omega) fun v1 w1 h1 _ h2 h3 => h v1 w1 h1 h2 h3
end
/-- A slice that is not nil, compared with nil. -/
@[go_sem high] theorem run_nil16 (ad : Addr) (n c : Nat) (w : World) : Sem.run Try.prog (binOp .eql 24 (.slice (some ad) n c) (.slice none 0 0)) w = .ok (.bool false) w :=
  Lib.run_eql_slice_nil w 24 40 (some ad) n c 0 0 Try.underlying24
/-- slices.Clone of a row that is not nil. -/
theorem clone16_any (b off c : Nat) (l : List Int) (w : World) (hB : Kd.C ki16 w (some ⟨b, off, none⟩) l.length l) (hm : l.length ≤ 1000) :
    Calls Try.prog 39 #[.slice (some ⟨b, off, none⟩) l.length c] w fun e w' => ∃ v, e = .returned v ∧ RW ki16 40 w' w.heap.size v l ∧ Below w.heap.size w w' := by
  have b0 : Below w.heap.size w (w.alloc (.cells #[] 40)) := balloc (Below.refl _ _) _
  have HB := Lib.hid (Kd.C_below hB b0)
  have HE := Lib.hid (RW.empty (w := w.alloc (.cells #[] 40)) ki16 40 w.heap.size w.heap.size (heap_alloc_new w _) (Nat.le_refl _))
  have B0 := Lib.hid b0
  clear hB b0
  go_enter Try.func39, Try.ntmps39
  go_wp2_with (at_builtin; go_must (refine catW w.heap.size (o := ⟨some 7, _, _, _, _, _⟩) rfl (.tmp 5) (.tmp 6) rfl (.slice (some ⟨w.heap.size, 0, none⟩) 0 0) [] l (some ⟨b, off, none⟩) l.length c ?cy7 ?cx7 HE.out HB.out B0.out.size (by simp; omega) ?_; (case cy7 => rfl); (case cx7 => rfl); intro v1 w1 h1 hg1 _; have H1 := Lib.hid h1; have hb1 := (B0.out).grown hg1 B0.out.size (fun k hk => HE.out.base_le k hk); clear h1 hg1))
  go_ret
  exact ⟨_, rfl, H1.out, hb1⟩
/-- How far the best pair is off, of the box with one wheel more. -/
def awV (l : List Int) (t : Nat) (n : Int) : Nat := (bst (insL l (plc l n) n) t).2.2
/-- The best wheel to add among the first k ones: its teeth and how far the best pair is off then. -/
def aw (l : List Int) (t : Nat) : Nat → Option (Int × Nat)
  | 0 => none
  | k + 1 => if isW l (6 + k) = true then aw l t k else
    match aw l t k with
    | none => some (6 + k, awV l t (6 + k))
    | some s => if flt (awV l t (6 + k)) s.2 = true then some (6 + k, awV l t (6 + k)) else some s
end Go.Proofs.Ytggcajillncamaa
