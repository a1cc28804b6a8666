/- An own row of numbers from nought up, sorted and compacted by the library. -/
import Derived.Test.YtidcnkjgbleoiaaSoZ
import Derived.Test.YtidcnkjgbleoiaaSoK
import Derived.Test.YtidcnkjgbleoiaaSrtL
import Derived.Test.YtidcnkjgbleoiaaRow
import Derived.Sort.Grow
namespace Go.Proofs.Ytidcnkjgbleoiaa
open Go.RowKit Ieee
open Go.Proofs.YtidcnkjgbleoiaaW.PrintWords
set_option maxRecDepth 100000
attribute [local irreducible] wpRel
theorem FV_nn {r x : Nat} (h : FV r x) (hx : nn x) : r = x := by
  cases hn : isn r
  · rw [← h.1, cn_of_not hn]
  · have := h.1
    rw [cn_of_isn hn] at this
    subst this
    have h2 := nn_isn hx
    rw [isn_nanW] at h2
    cases h2
/-- An own row of numbers, its block laid open. -/
theorem row_open {w : World} {base : Nat} {v : Value} {xs : List Nat} (h : RW kf 32 w base v xs) (hn : allNn xs) (hp : 0 < xs.length) :
    ∃ g cap cur, v = .slice (some ⟨g, 0, none⟩) xs.length cap ∧ base ≤ g ∧ g < w.heap.size ∧ w.heap[g]? = some (.cells cur 32 (0, 0)) ∧ xs.length ≤ cap ∧ cap ≤ maxLen ∧ cur.size = cap ∧ Go.Sort.Holds (Value.float .f32) w g 0 xs.toArray := by
  have hR := h
  obtain ⟨_, inner, ⟨_, ho⟩, _⟩ := h
  rcases ho with ⟨_, hz⟩ | ⟨g, cap, cur, hv, hb, hc, h1, h2, h3, _⟩
  · exact absurd hz (by omega)
  · subst hv
    have hg : g < w.heap.size := (Array.getElem?_eq_some_iff.1 hc).1
    refine ⟨g, cap, cur, rfl, hb, hg, hc, h1, h2, (by rw [h3]; show cap * 1 = cap; omega), fun j hj => ?_⟩
    have hj' : j < xs.length := by simpa using hj
    obtain ⟨ce, hcl, hM, hcc, hfr⟩ := Kd.R_elem hR 0 (j : Int) (by omega) (by omega)
    obtain ⟨r2, rfl, hr⟩ := kf_openM hM
    have hx : xs.getD j 0 = xs[j] := by rw [List.getD_eq_getElem?_getD, List.getElem?_eq_getElem hj']; rfl
    have e0 : (j : Int).toNat * kf.sz + 0 = 0 + j := by show j * 1 + 0 = 0 + j; omega
    have x0 := hcc 0 _ rfl
    have f0 := hfr 0
    rw [e0] at x0 f0
    rw [Int.toNat_natCast, hx] at hr
    have hrx := FV_nn hr (hn _ (List.getElem_mem hj'))
    refine ⟨?_, f0⟩
    rw [x0, hrx, getElem!_pos xs.toArray j hj]
    simp
/-- .. and shut again. -/
theorem row_shut {w : World} {base g cap : Nat} {cur : Array Value} {ys : List Nat} (hb : base ≤ g) (hc : w.heap[g]? = some (.cells cur 32 (0, 0))) (h1 : ys.length ≤ cap) (h2 : cap ≤ maxLen) (h3 : cur.size = cap) (hn : allNn ys)
    (hcell : ∀ j, j < ys.length → cur[j]? = some (.float .f32 (ys.getD j 0))) : RW kf 32 w base (.slice (some ⟨g, 0, none⟩) ys.length cap) ys := by
  refine ⟨fun _ _ => trivial, cur.toList.take (ys.length * 1), ⟨?_, .inr ⟨g, cap, cur, rfl, hb, hc, h1, h2, ?_, rfl⟩⟩, ?_⟩
  · show (cur.toList.take (ys.length * 1)).length = ys.length * 1
    rw [List.length_take]
    simp; omega
  · show cur.size = cap * 1
    omega
  · refine ⟨?_, fun j p hj => ?_⟩
    · show (cur.toList.take (ys.length * 1)).length = ys.length * 1
      rw [List.length_take]
      simp; omega
    · have hj' : j < ys.length := (List.getElem?_eq_some_iff.1 hj).1
      have hp : ys.getD j 0 = p := by rw [List.getD_eq_getElem?_getD, hj]; rfl
      have hcj := hcell j hj'
      rw [hp] at hcj
      have hpn : nn p := by rw [← hp, List.getD_eq_getElem?_getD, List.getElem?_eq_getElem hj']; exact hn _ (List.getElem_mem hj')
      refine ⟨p, ?_, nn_FV hpn⟩
      show ((cur.toList.take (ys.length * 1)).drop (j * 1)).take 1 = _
      have hjs : j < cur.size := by omega
      rw [Nat.mul_one, Nat.mul_one]
      have e : (cur.toList.take ys.length)[j]? = some (.float .f32 p) := by rw [List.getElem?_take_of_lt hj', Array.getElem?_toList]; exact hcj
      rw [List.take_one, List.head?_drop, e]
      rfl
theorem heap_put {w : World} {g n : Nat} {os : Array Obj} {cur : Array Value} {e : TypeId} {fr : Nat × Nat} (d : Array Nat) (hb : w.heap[g]? = some (.cells cur e fr)) :
    (Go.Sort.grow (Go.Sort.putRow (Value.float .f32) (Go.Sort.ahead w n) g 0 d) os).heap[g]? = some (.cells (Go.Sort.putCells (Value.float .f32) 0 d cur) e fr) := by
  have hg : g < w.heap.size := (Array.getElem?_eq_some_iff.1 hb).1
  rw [Go.Sort.heap_grow_old _ _ (by simpa using hg)]
  simp [Go.Sort.putRow, Go.Sort.mapBlock, Go.Sort.ahead, Array.getElem?_modify, hb, Go.Sort.onCells]
theorem grown_put {w : World} {g n : Nat} {os : Array Obj} (d : Array Nat) : w.grownBy (Go.Sort.grow (Go.Sort.putRow (Value.float .f32) (Go.Sort.ahead w n) g 0 d) os) (some g) := by
  refine ⟨rfl, rfl, rfl, by simp, fun k hk hne => ?_⟩
  rw [Go.Sort.heap_grow_old _ _ (by simpa using hk)]
  have : g ≠ k := fun e => hne (by rw [e])
  simp [Go.Sort.putRow, Go.Sort.mapBlock, Go.Sort.ahead, Array.getElem?_modify, this]
theorem put_cell {cur : Array Value} {d : Array Nat} {j : Nat} (hj : j < d.size) (hs : d.size ≤ cur.size) : (Go.Sort.putCells (Value.float .f32) 0 d cur)[j]? = some (.float .f32 d[j]!) := by
  simp [Go.Sort.putCells, hj, show j < cur.size by omega]
theorem put_size (cur : Array Value) (d : Array Nat) : (Go.Sort.putCells (Value.float .f32) 0 d cur).size = cur.size := by simp [Go.Sort.putCells]
theorem srtL_len {l : List Nat} (hl : allNn l) : (srtL l).length = l.length := (srtL_spec hl).1.length_eq
theorem srtL_nn {l : List Nat} (hl : allNn l) : allNn (srtL l) := fun x hx => hl x ((srtL_spec hl).1.mem_iff.1 hx)
theorem sort_any {w : World} {base : Nat} {v : Value} {xs : List Nat} (h : RW kf 32 w base v xs) (hn : allNn xs) (hp : 0 < xs.length) (hm : xs.length ≤ 1048576) :
    Calls Try.prog 36 #[v] w fun e w' => e = .returned (.tuple #[]) ∧ RW kf 32 w' base v (srtL xs) ∧ w.grownBy w' v.ownBlock := by
  obtain ⟨g, cap, cur, rfl, hb, hg, hc, h1, h2, h3, hH⟩ := row_open h hn hp
  have := Srt.sort_top g 0 cap xs.toArray w hH hg (by simp; omega)
  rw [List.size_toArray] at this
  refine this.mono ?_
  rintro e w' ⟨rfl, n, os, rfl⟩
  have hlen := srtL_len hn
  have hsz : (Go.Sort.sort ltF xs.toArray).size = xs.length := by rw [← hlen]; simp [srtL]
  refine ⟨rfl, ?_, grown_put _⟩
  have hr := row_shut (w := Go.Sort.grow (Go.Sort.putRow (Value.float .f32) (Go.Sort.ahead w n) g 0 (Go.Sort.sort ltF xs.toArray)) os) hb (heap_put _ hc) (ys := srtL xs) (by omega) h2 (by rw [put_size]; exact h3) (srtL_nn hn) (fun j hj => by
    rw [put_cell (by omega) (by omega), getElem!_pos _ j (by omega), List.getD_eq_getElem?_getD, List.getElem?_eq_getElem hj]
    simp [srtL])
  rw [hlen] at hr
  exact hr
theorem get_mid {d : Array Nat} {pre l : List Nat} {a : Nat} (h : d.toList = pre ++ a :: l) : d[pre.length]! = a := by
  obtain ⟨xs⟩ := d
  have h' : xs = pre ++ a :: l := h
  subst h'
  rw [getElem!_pos _ _ (by simp)]
  simp
theorem cptF_eq : ∀ (l : List Nat) (a : Nat), nn a → allNn l → ∀ (pre : List Nat) (d : Array Nat), d.toList = pre ++ a :: l →
    ((List.range' (pre.length + 1) l.length).filter (Go.Lib.keeps d)).map (d[·]!) = cpt.cptF a l
  | [], a, _, _, pre, d, _ => by simp [cpt.cptF]
  | b :: l, a, ha, hl, pre, d, hd => by
    have hb := hl b List.mem_cons_self
    have ih := cptF_eq l b hb (fun x hx => hl x (List.mem_cons_of_mem _ hx)) (pre ++ [a]) d (by rw [hd]; simp)
    have e0 : d[pre.length]! = a := get_mid hd
    have e1 : d[pre.length + 1]! = b := by
      have := get_mid (pre := pre ++ [a]) (l := l) (a := b) (d := d) (by rw [hd]; simp)
      rwa [List.length_append] at this
    rw [List.length_cons, List.range'_succ, List.filter_cons]
    have hk : Go.Lib.keeps d (pre.length + 1) = !feq a b := by
      unfold Go.Lib.keeps
      rw [Nat.add_sub_cancel, e1, e0, nn_feq ha hb]
      by_cases e : a = b
      · subst e; simp
      · rw [decide_eq_true (.inr (fun h => e h.symm)), decide_eq_false e]; rfl
    have e2 : (pre ++ [a]).length = pre.length + 1 := by simp
    rw [e2] at ih
    rw [hk]
    unfold cpt.cptF
    cases hf : feq a b
    · simp only [Bool.not_false, if_true, Bool.false_eq_true, if_false, List.map_cons, e1]
      rw [← ih]
    · simp only [Bool.not_true, Bool.false_eq_true, if_false, if_true]
      rw [ih]
      have hab : a = b := by rw [nn_feq ha hb] at hf; simpa using hf
      rw [hab]
theorem compact_cpt {l : List Nat} (hl : allNn l) : Go.Lib.compactUpTo l.toArray l.length = cpt l := by
  cases l with
  | nil => rfl
  | cons a l =>
    unfold Go.Lib.compactUpTo cpt
    rw [List.range_eq_range', List.length_cons, List.range'_succ, List.filter_cons, Go.Lib.keeps_lt_one _ 0 (by decide)]
    simp only [if_true, List.map_cons]
    congr 1
    exact cptF_eq l a (hl a List.mem_cons_self) (fun x hx => hl x (List.mem_cons_of_mem _ hx)) [] _ rfl
theorem cpt_len : ∀ l : List Nat, (cpt l).length ≤ l.length
  | [] => Nat.le_refl _
  | a :: l => by
    have key : ∀ (l : List Nat) (a : Nat), (cpt.cptF a l).length ≤ l.length := by
      intro l
      induction l with
      | nil => intro a; simp [cpt.cptF]
      | cons b l ih =>
        intro a
        unfold cpt.cptF
        split
        · have := ih a; simp; omega
        · have := ih b; simp; omega
    have := key l a
    simp [cpt]; omega
theorem cpt_mem : ∀ (l : List Nat) (x : Nat), x ∈ cpt l → x ∈ l := by
  have key : ∀ (l : List Nat) (a x : Nat), x ∈ cpt.cptF a l → x ∈ l := by
    intro l
    induction l with
    | nil => intro a x h; simp [cpt.cptF] at h
    | cons b l ih =>
      intro a x h
      unfold cpt.cptF at h
      split at h
      · exact List.mem_cons_of_mem _ (ih a x h)
      · rcases List.mem_cons.1 h with e | h
        · subst e; exact List.mem_cons_self
        · exact List.mem_cons_of_mem _ (ih b x h)
  intro l x h
  cases l with
  | nil => simp [cpt] at h
  | cons a l =>
    rw [cpt] at h
    rcases List.mem_cons.1 h with e | h
    · subst e; exact List.mem_cons_self
    · exact List.mem_cons_of_mem _ (key l a x h)
theorem cpt_nn {l : List Nat} (hl : allNn l) : allNn (cpt l) := fun x hx => hl x (cpt_mem l x hx)
theorem compact_any {w : World} {base : Nat} {v : Value} {xs : List Nat} (h : RW kf 32 w base v xs) (hn : allNn xs) (hp : 0 < xs.length) (hm : xs.length ≤ 1048576) :
    Calls Try.prog 37 #[v] w fun e w' => ∃ v', e = .returned v' ∧ RW kf 32 w' base v' (cpt xs) ∧ v'.ownBlock = v.ownBlock ∧ w.grownBy w' v.ownBlock := by
  obtain ⟨g, cap, cur, rfl, hb, hg, hc, h1, h2, h3, hH⟩ := row_open h hn hp
  have := Srt.wk_Compact g 0 cap xs.toArray w hH (by simp; omega) (by simpa using h1) (fun j => by
    by_cases hj : j < xs.length
    · rw [getElem!_pos _ j (by simpa using hj)]
      simp only [List.getElem_toArray]
      exact hn _ (List.getElem_mem hj)
    · rw [getElem!_neg _ j (by simpa using hj)]
      show (0 : Nat) ≤ _
      decide)
  rw [List.size_toArray, compact_cpt hn] at this
  refine this.mono ?_
  rintro e w' ⟨rfl, n, rfl⟩
  have hl := cpt_len xs
  have hgr := Go.Sort.grow_empty (Go.Sort.putRow (Value.float .f32) (Go.Sort.ahead w n) g 0 (cpt xs ++ List.replicate (xs.length - (cpt xs).length) 0).toArray)
  rw [← hgr]
  refine ⟨_, rfl, ?_, rfl, grown_put _⟩
  exact row_shut hb (heap_put _ hc) (by omega) h2 (by rw [put_size]; exact h3) (cpt_nn hn) (fun j hj => by
    rw [put_cell (by simp; omega) (by simp; omega), getElem!_pos _ j (by simp; omega), List.getD_eq_getElem?_getD, List.getElem?_eq_getElem hj]
    simp only [List.getElem_toArray]
    rw [List.getElem_append_left hj]; rfl)
end Go.Proofs.Ytidcnkjgbleoiaa
