/- Rows of texts. Texts cut at one byte: plain. Texts cut at one byte: the model's function. -/
import Derived.Test.YtljcjgliddhgkaaDoorRow
import Derived.Test.YtljcjgliddhgkaaDoorAp
import Derived.Lib.Strings
import Derived.Lib.SplitLaws
import Derived.Lib.Split
import Derived.Lib.Join
import Derived.Lib.IndexBytes
import Derived.Test.YtljcjgliddhgkaaDoorDrwA
namespace Go.Proofs.YtljcjgliddhgkaaDoor
open Go.RowKit Ieee
open Go.Proofs.YtljcjgliddhgkaaDoorW.PrintWords
set_option maxRecDepth 100000
/-- A text in a row of texts. -/
def kS : Kd (List UInt8) where
  sz := 1
  E := []
  K := fun _ x cs => cs = [.string ⟨x.toArray⟩]
  M := fun _ _ _ x cs => cs = [.string ⟨x.toArray⟩]
  K_len := by rintro w x cs rfl; rfl
  K_one := by rintro w x cs rfl u hu; rw [List.mem_singleton.1 hu]; rfl
  K_below := fun _ h => h
  K_of_M := fun h => h
  M_mono := fun _ h => h
  M_bound := fun h => h
  M_move := fun _ h => h
  M_lower := fun _ h => h
section
variable {ops : Array Oper} {rest : List Oper} {o : Oper} {a : Act} {Q : Exit → Act → World → Prop}
theorem info_str : (Tryd.prog.info? 9).map (fun i => (i.zero, i.size, i.bytes)) = some (some (.string ByteArray.empty), 1, 16) := by kernel_rfl
/-- append(v, x) of one text, whichever base. -/
theorem apSb (base : Nat) {W : World} {z : List UInt8} (hgd : o.guard = none) (s x : Operand) (ho : o.op = .call { callee := .builtin .append, args := #[s, x], argTypes := #[56, 56] })
    (v : Value) (xs : List (List UInt8)) (hs : a.eval s = v) (hx : a.eval x = .slice (some ⟨W.heap.size, 0, none⟩) 1 1)
    (HO : RW kS 9 W base v xs) (hb : base ≤ W.heap.size) (hl : xs.length ≤ 1048576)
    (h : ∀ v1 w1, RW kS 9 w1 base v1 (xs ++ [z]) → W.grownBy w1 v.ownBlock → (v1.ownBlock = v.ownBlock ∨ ∃ b, v1.ownBlock = some b ∧ W.heap.size ≤ b) → wpList Tryd.prog ops Q rest (a.put o.dst v1) w1) :
    wpList Tryd.prog ops Q (o :: rest) a (W.alloc (.cells #[.string ⟨z.toArray⟩] 9)) :=
  Kd.R_append kS (w0 := W) base hgd s x 56 9 (.string ByteArray.empty) 16 ho Tryd.underlying56 info_str rfl (by decide) (by decide) v xs z [.string ⟨z.toArray⟩] (fun _ => True) (fun _ => False) hs hx rfl (fun _ h => h.elim) (fun _ _ => trivial) HO (Below.refl _ _) hb (by omega) fun v1 w1 h1 _ h2 h3 => h v1 w1 h1 h2 h3
end
section
variable {ops : Array Oper} {rest : List Oper} {o : Oper} {a : Act} {Q : Exit → Act → World → Prop}
/-- append(v, x) of one text as it stands. -/
theorem apSz (base : Nat) {W : World} {z : ByteArray} (hgd : o.guard = none) (s x : Operand) (ho : o.op = .call { callee := .builtin .append, args := #[s, x], argTypes := #[56, 56] })
    (v : Value) (xs : List (List UInt8)) (hs : a.eval s = v) (hx : a.eval x = .slice (some ⟨W.heap.size, 0, none⟩) 1 1)
    (HO : RW kS 9 W base v xs) (hb : base ≤ W.heap.size) (hl : xs.length ≤ 1048576)
    (h : ∀ v1 w1, RW kS 9 w1 base v1 (xs ++ [z.data.toList]) → W.grownBy w1 v.ownBlock → (v1.ownBlock = v.ownBlock ∨ ∃ b, v1.ownBlock = some b ∧ W.heap.size ≤ b) → wpList Tryd.prog ops Q rest (a.put o.dst v1) w1) :
    wpList Tryd.prog ops Q (o :: rest) a (W.alloc (.cells #[.string z] 9)) :=
  apSb base (z := z.data.toList) hgd s x ho v xs hs hx HO hb hl h
end
/-- One text of a row. -/
theorem at_kS {w : World} {A : Option Addr} {n : Nat} {xs : List (List UInt8)} (h : Kd.C kS w A n xs) (j : Nat) (hj : j < n) :
    ∃ b off, A = some ⟨b, off, none⟩ ∧ b < w.heap.size ∧ w.cell? ⟨b, off + j, none⟩ = some (.string ⟨(xs.getD j []).toArray⟩) := by
  obtain ⟨b, off, cs, e, hb, _, hK, hc⟩ := C_at h (show 0 < kS.sz by decide) [] j hj
  have hK' : cs = [.string ⟨(xs.getD j []).toArray⟩] := hK
  subst hK'
  have h1 := hc 0 _ rfl
  rw [show off + j * kS.sz + 0 = off + j from by show off + j * 1 + 0 = _; omega] at h1
  exact ⟨b, off, e, hb, h1⟩
end Go.Proofs.YtljcjgliddhgkaaDoor
namespace Go.Proofs.YtljcjgliddhgkaaDoor
set_option maxRecDepth 100000

/-- A text cut at a byte. -/
def splC (c : UInt8) : List UInt8 → List (List UInt8)
  | [] => [[]]
  | b :: l => if b = c then [] :: splC c l else ((b :: (splC c l).headD []) :: (splC c l).tail)
theorem splC_cons (c : UInt8) (l : List UInt8) : ∃ h t, splC c l = h :: t := by
  cases l with
  | nil => exact ⟨[], [], rfl⟩
  | cons b l =>
    unfold splC
    split
    · exact ⟨_, _, rfl⟩
    · exact ⟨_, _, rfl⟩
theorem splitK_one (c : UInt8) : ∀ s : List UInt8, Go.Lib.splitK [c] 0 (Go.Lib.count s [c]) s = splC c s := by
  intro s
  induction s with
  | nil => rfl
  | cons b l ih =>
    by_cases hb : b = c
    · subst hb
      have hi : Go.Lib.index (b :: l) [b] = 0 := by unfold Go.Lib.index; rw [if_pos (by simp)]
      rw [Go.Lib.count_cons_eq, Nat.add_comm, Go.Lib.splitK, hi, splC, if_pos rfl]
      rw [if_neg (by decide)]
      show (b :: l).take 0 :: Go.Lib.splitK [b] 0 (Go.Lib.count l [b]) ((b :: l).drop 1) = _
      rw [List.take_zero, List.drop_succ_cons, List.drop_zero, ih]
    · rw [Go.Lib.count_cons_ne b c l hb, splC, if_neg hb]
      cases hk : Go.Lib.count l [c] with
      | zero =>
        rw [hk] at ih
        rw [← ih]
        rfl
      | succ k =>
        rw [hk] at ih
        have hne : ¬ (Go.Lib.index l [c] == -1) = true := fun h => by
          have := Go.Lib.count_miss (by simpa using h : Go.Lib.index l [c] = -1)
          omega
        have hi : Go.Lib.index (b :: l) [c] = Go.Lib.index l [c] + 1 := by
          rw [Go.Lib.index, if_neg (by simp; exact fun h => hb h.symm), if_neg hne]
        have hge := Go.Lib.index_ge l [c]
        obtain ⟨i, hii⟩ : ∃ i : Nat, Go.Lib.index l [c] = i := ⟨(Go.Lib.index l [c]).toNat, by have : Go.Lib.index l [c] ≠ -1 := fun e => hne (by rw [e]; decide); omega⟩
        rw [Go.Lib.splitK, if_neg hne, hii] at ih
        rw [Go.Lib.splitK, hi, hii, if_neg (by simp; omega), ← ih]
        have e1 : ((i : Int) + 1).toNat = i + 1 := by omega
        have e2 : ((i : Int)).toNat = i := by omega
        rw [e1, e2]
        simp [List.take_succ_cons, List.headD, List.tail]
theorem split_one (c : UInt8) (s : List UInt8) : Go.Lib.split s [c] = splC c s := splitK_one c s
theorem splC_none (c : UInt8) : ∀ p : List UInt8, c ∉ p → splC c p = [p] := by
  intro p
  induction p with
  | nil => intro _; rfl
  | cons b l ih =>
    intro h
    have h1 : b ≠ c := fun e => h (by rw [e]; exact List.mem_cons_self)
    have h2 : c ∉ l := fun e => h (List.mem_cons_of_mem _ e)
    rw [splC, if_neg h1, ih h2]
    rfl
theorem splC_app (c : UInt8) (r : List UInt8) : ∀ p : List UInt8, c ∉ p → splC c (p ++ c :: r) = p :: splC c r := by
  intro p
  induction p with
  | nil => intro _; rw [List.nil_append, splC, if_pos rfl]
  | cons b l ih =>
    intro h
    have h1 : b ≠ c := fun e => h (by rw [e]; exact List.mem_cons_self)
    have h2 : c ∉ l := fun e => h (List.mem_cons_of_mem _ e)
    rw [List.cons_append, splC, if_neg h1, ih h2]
    rfl
theorem join_splC (c : UInt8) : ∀ s : List UInt8, [c].intercalate (splC c s) = s := by
  intro s
  induction s with
  | nil => rfl
  | cons b l ih =>
    obtain ⟨h, t, e⟩ := splC_cons c l
    by_cases hb : b = c
    · subst hb
      rw [splC, if_pos rfl]
      rw [e] at ih ⊢
      rw [← ih]
      simp [List.intercalate, List.intersperse]
    · rw [splC, if_neg hb]
      rw [e] at ih ⊢
      rw [← ih]
      cases t with
      | nil => simp [List.intercalate, List.intersperse]
      | cons u t => simp [List.intercalate, List.intersperse]
theorem splC_not_mem (c : UInt8) : ∀ s : List UInt8, ∀ p, p ∈ splC c s → c ∉ p := by
  intro s
  induction s with
  | nil => intro p hp; simp [splC] at hp; subst hp; simp
  | cons b l ih =>
    intro p hp
    obtain ⟨h, t, e⟩ := splC_cons c l
    by_cases hb : b = c
    · rw [splC, if_pos hb] at hp
      rcases List.mem_cons.1 hp with rfl | hp
      · simp
      · exact ih p hp
    · rw [splC, if_neg hb, e] at hp
      rcases List.mem_cons.1 hp with rfl | hp
      · intro hc
        rcases List.mem_cons.1 hc with hc | hc
        · exact hb hc.symm
        · exact ih h (by rw [e]; exact List.mem_cons_self) hc
      · exact ih p (by rw [e]; exact List.mem_cons_of_mem _ hp)
end Go.Proofs.YtljcjgliddhgkaaDoor
namespace Go.Proofs.YtljcjgliddhgkaaDoor
open Go.RowKit Ieee
open Go.Proofs.YtljcjgliddhgkaaDoorW.PrintWords
set_option maxRecDepth 100000
attribute [local irreducible] wpRel
/-- The text behind a cut. -/
theorem drop_cut {c : UInt8} {l : List UInt8} {f i : Nat} (hf : f ≤ i) (hi : i < l.length) (hno : c ∉ (l.drop f).take (i - f)) (hc : l[i]? = some c) :
    splC c (l.drop f) = (l.drop f).take (i - f) :: splC c (l.drop (i + 1)) := by
  have e : l.drop f = (l.drop f).take (i - f) ++ c :: l.drop (i + 1) := by
    have h1 : (l.drop f).drop (i - f) = c :: l.drop (i + 1) := by
      rw [List.drop_drop, show f + (i - f) = i by omega]
      have hx := List.getElem?_eq_some_iff.1 hc
      obtain ⟨h, hx⟩ := hx
      rw [List.drop_eq_getElem_cons h, hx]
    calc l.drop f = (l.drop f).take (i - f) ++ (l.drop f).drop (i - f) := (List.take_append_drop _ _).symm
      _ = _ := by rw [h1]
  calc splC c (l.drop f) = splC c ((l.drop f).take (i - f) ++ c :: l.drop (i + 1)) := by rw [← e]
    _ = _ := splC_app c _ _ hno
theorem no_snoc {c : UInt8} {l : List UInt8} {f i : Nat} (hf : f ≤ i) (hi : i < l.length) (hno : c ∉ (l.drop f).take (i - f)) (hc : l[i]? ≠ some c) : c ∉ (l.drop f).take (i + 1 - f) := by
  rw [show i + 1 - f = (i - f) + 1 by omega]
  rw [List.take_succ_eq_append_getElem (by rw [List.length_drop]; omega)]
  intro h
  rcases List.mem_append.1 h with h | h
  · exact hno h
  · rw [List.mem_singleton] at h
    apply hc
    rw [List.getElem?_eq_getElem hi, h]
    simp only [List.getElem_drop]
    congr 2
    omega

/-- What the loop has done when it stands at i: the texts cut off, and from where the next one runs. -/
def SplI (c : UInt8) (l : List UInt8) (i f : Nat) (done : List (List UInt8)) : Prop :=
  f ≤ i ∧ i ≤ l.length ∧ c ∉ (l.drop f).take (i - f) ∧ splC c l = done ++ splC c (l.drop f) ∧ done.length ≤ i
theorem SplI.start (c : UInt8) (l : List UInt8) : SplI c l 0 0 [] := ⟨Nat.le_refl _, Nat.zero_le _, by simp, by simp, Nat.le_refl _⟩
theorem SplI.hit {c : UInt8} {l : List UInt8} {i f : Nat} {done : List (List UInt8)} (h : SplI c l i f done) (hi : i < l.length) (hc : l[i]? = some c) : SplI c l (i + 1) (i + 1) (done ++ [(l.drop f).take (i - f)]) := by
  obtain ⟨h1, h2, h3, h4, h5⟩ := h
  refine ⟨Nat.le_refl _, hi, by simp, ?_, by simp; omega⟩
  rw [h4, drop_cut h1 hi h3 hc]
  simp
theorem SplI.miss {c : UInt8} {l : List UInt8} {i f : Nat} {done : List (List UInt8)} (h : SplI c l i f done) (hi : i < l.length) (hc : l[i]? ≠ some c) : SplI c l (i + 1) f done := by
  obtain ⟨h1, h2, h3, h4, h5⟩ := h
  exact ⟨by omega, hi, no_snoc h1 hi h3 hc, h4, by omega⟩
theorem SplI.last {c : UInt8} {l : List UInt8} {f : Nat} {done : List (List UInt8)} (h : SplI c l l.length f done) : splC c l = done ++ [l.drop f] := by
  obtain ⟨h1, h2, h3, h4, h5⟩ := h
  rw [h4, splC_none c (l.drop f)]
  rwa [List.take_of_length_le (by rw [List.length_drop]; omega)] at h3
set_option maxHeartbeats 2000000 in
theorem l01Split_any (s : ByteArray) (c : UInt8) (hs : s.size ≤ 1048576) (w : World) :
    Calls Tryd.prog 30 #[.string s, .int .u8 (c.toNat : Int)] w fun e w' => ∃ v, e = .returned v ∧ RW kS 9 w' w.heap.size v (splC c s.data.toList) ∧ Below w.heap.size w w' := by
  have hlen : s.data.toList.length = s.size := rfl
  have hmax : s.size ≤ maxLen := by unfold maxLen; omega
  have HLEN := Lib.hid hlen
  clear hlen
  have HR0 := Lib.hid (RW.empty (w := w.alloc (.cells #[] 9)) kS 9 w.heap.size w.heap.size (heap_alloc_new w _) (Nat.le_refl _))
  go_enter Tryd.func30, Tryd.ntmps30
  go_wp2
  go_loopw [5, 6, 7] (fun v f i wr => ∃ (k g : Nat) (done : List (List UInt8)), k ≤ s.size ∧ g ≤ k ∧ f = .int .i64 (g : Nat) ∧ i = .int .i64 (k : Nat) ∧ Hid (SplI c s.data.toList k g done) ∧ Hid (RW kS 9 wr w.heap.size v done) ∧ Below w.heap.size w wr) (fun _ _ i _ => s.size - (intOf i).toNat)
  case atStart => exact ⟨0, 0, [], Nat.zero_le _, Nat.le_refl _, rfl, rfl, Lib.hid (SplI.start _ _), HR0, balloc (Below.refl _ _) _⟩
  case round =>
    clear HR0
    obtain ⟨k, g, done, hk, hg, rfl, rfl, HS, HR, hb⟩ := hrel
    have HLD := Lib.hid (show done.length ≤ 1048576 by have := HS.out.2.2.2.2; omega)
    by_cases hlt : k < s.size
    · have hget : s.data.toList[k]? = some s[k] := by rw [List.getElem?_eq_getElem (by rw [HLEN.out]; exact hlt)]; rfl
      have x1 : (k : Int) < (s.size : Int) := by omega
      have x2 : (0 : Int) ≤ (k : Int) := by omega
      have x3 : (g : Int) ≤ (k : Int) := by omega
      by_cases hc : s[k] = c
      · have y1 : ((s[k].toNat : Int) == (c.toNat : Int)) = true := by rw [hc]; simp
        have HS2 := Lib.hid (HS.out.hit (by rw [HLEN.out]; exact hlt) (by rw [hget, hc]))
        clear hc hget
        go_wp2_with (at_builtin; go_must ((refine apSz w.heap.size (o := ⟨some 26, _, _, _, _, _⟩) rfl (.tmp 20) (.tmp 25) rfl u5 done ?y26 ?x26 ?o26 ?b26 HLD.out  ?_; (case y26 => rfl); (case x26 => go_simp); (case o26 => exact HR.out); (case b26 => have := hb.size ; simp ; omega); intro v26 w26 ho_ hg_ hat_; have HO26 := Lib.hid ho_; have HG26 := Lib.hid (And.intro hg_ hat_); clear ho_ hg_ hat_)))
        go_roundw
        case rel =>
          have e : (s.extract g k).data.toList = (s.data.toList.drop g).take (k - g) := Go.Lib.extract_data s g k
          exact ⟨k + 1, k + 1, done ++ [(s.extract g k).data.toList], hlt, Nat.le_refl _, by go_num, by go_num, Lib.hid (by rw [e]; exact HS2.out), HO26, hb.grown HG26.out.1 hb.size (fun j hj => HR.out.base_le j hj)⟩
        case measure => simp [intOf]; omega
      · have y1 : ((s[k].toNat : Int) == (c.toNat : Int)) = false := by
          have : s[k].toNat ≠ c.toNat := fun e => hc (UInt8.toNat_inj.1 e)
          simp; omega
        have HS2 := Lib.hid (HS.out.miss (by rw [HLEN.out]; exact hlt) (by rw [hget]; intro e; exact hc (Option.some.inj e)))
        clear hc hget
        go_wp2
        go_roundw
        case rel => exact ⟨k + 1, g, done, hlt, by omega, rfl, by go_num, HS2, HR, hb⟩
        case measure => simp [intOf]; omega
    · obtain rfl : k = s.size := by omega
      have HL2 := Lib.hid HS.out.last
      have x3 : (g : Int) ≤ (s.size : Int) := by omega
      clear hlt
      go_wp2_with (at_builtin; go_must ((refine apSz w.heap.size (o := ⟨some 34, _, _, _, _, _⟩) rfl (.tmp 29) (.tmp 33) rfl u5 done ?y34 ?x34 ?o34 ?b34 HLD.out  ?_; (case y34 => rfl); (case x34 => go_simp); (case o34 => exact HR.out); (case b34 => have := hb.size ; simp ; omega); intro v34 w34 ho_ hg_ hat_; have HO34 := Lib.hid ho_; have HG34 := Lib.hid (And.intro hg_ hat_); clear ho_ hg_ hat_)))
      go_ret
      have e : (s.extract g s.size).data.toList = s.data.toList.drop g := by rw [Go.Lib.extract_data, List.take_of_length_le (by rw [List.length_drop]; exact Nat.le_of_eq (by rw [HLEN.out]))]
      exact ⟨_, rfl, by rw [HL2.out, ← e]; exact HO34.out, hb.grown HG34.out.1 hb.size (fun j hj => HR.out.base_le j hj)⟩
end Go.Proofs.YtljcjgliddhgkaaDoor
