/- Plain facts on lists of byte strings that are sorted, with doubles struck out, and put in order one by one. No program in sight. -/
import Derived.Lib.SlicesCompact
import Derived.Laws.Strings
import Derived.Test.YtolhlackfphdcaaDoorGen
namespace Go.Proofs.YtolhlackfphdcaaDoor.Srt
open Go.RowKit Go.Proofs.YtolhlackfphdcaaDoorW.PrintWords
set_option linter.unusedVariables false

theorem less_iff : ∀ a b : List UInt8, Op.bytesLess a b = true ↔ a < b
  | a, [] => by cases a <;> simp [Op.bytesLess]
  | [], _ :: _ => by simp [Op.bytesLess]
  | a :: x, b :: y => by
    rw [List.cons_lt_cons_iff, ← less_iff x y]
    simp [Op.bytesLess]

theorem eq_of_mem {α : Type} (R : α → α → Prop) (irr : ∀ a, ¬ R a a) (tr : ∀ a b c, R a b → R b c → R a c) : ∀ {xs ys : List α}, xs.Pairwise R → ys.Pairwise R → (∀ z, z ∈ xs ↔ z ∈ ys) → xs = ys
  | [], [], _, _, _ => rfl
  | [], y :: ys, _, _, h => absurd ((h y).2 (by simp)) (by simp)
  | x :: xs, [], _, _, h => absurd ((h x).1 (by simp)) (by simp)
  | x :: xs, y :: ys, hx, hy, h => by
    rw [List.pairwise_cons] at hx hy
    have e : x = y := by
      have h1 : x ∈ y :: ys := (h x).1 (by simp)
      have h2 : y ∈ x :: xs := (h y).2 (by simp)
      rcases List.mem_cons.1 h1 with e | h1
      · exact e
      · rcases List.mem_cons.1 h2 with e | h2
        · exact e.symm
        · exact absurd (tr _ _ _ (hx.1 y h2) (hy.1 x h1)) (irr x)
    subst e
    rw [eq_of_mem R irr tr hx.2 hy.2 fun z => by
      constructor
      · intro hz
        rcases List.mem_cons.1 ((h z).1 (by simp [hz])) with e | h'
        · subst e; exact absurd (hx.1 _ hz) (irr _)
        · exact h'
      · intro hz
        rcases List.mem_cons.1 ((h z).2 (by simp [hz])) with e | h'
        · subst e; exact absurd (hy.1 _ hz) (irr _)
        · exact h']

/-- Byte strings in their order. -/
def blt (a b : ByteArray) : Prop := a.data.toList < b.data.toList
theorem blt_irr (a : ByteArray) : ¬ blt a a := List.lt_irrefl _
theorem blt_tr (a b c : ByteArray) (h : blt a b) (k : blt b c) : blt a c := List.lt_trans h k
theorem ba_inj {a b : ByteArray} (h : a.data.toList = b.data.toList) : a = b := by
  cases a; cases b; simp only [ByteArray.mk.injEq]; exact Array.toList_inj.1 h
theorem blt_tri (a b : ByteArray) : blt a b ∨ a = b ∨ blt b a := by
  rcases Std.lt_trichotomy a.data.toList b.data.toList with h | h | h
  · exact .inl h
  · exact .inr (.inl (ba_inj h))
  · exact .inr (.inr h)
theorem less_blt (a b : ByteArray) : Op.bytesLess a.toList b.toList = true ↔ blt a b := by
  rw [ByteArray.toList_eq, ByteArray.toList_eq]; exact less_iff _ _
theorem eq_blt (a b : ByteArray) : a.toList = b.toList ↔ a = b := by
  rw [ByteArray.toList_eq, ByteArray.toList_eq]; exact ⟨ba_inj, fun h => by rw [h]⟩

/-- One more text, put where it belongs, once. -/
def putB : List ByteArray → ByteArray → List ByteArray
  | [], x => [x]
  | y :: r, x => if Op.bytesLess y.toList x.toList = true then y :: putB r x else if y.toList = x.toList then y :: r else x :: y :: r
theorem putB_mem (x z : ByteArray) : ∀ l : List ByteArray, z ∈ putB l x ↔ z = x ∨ z ∈ l
  | [] => by simp [putB]
  | y :: r => by
    unfold putB
    split
    · rw [List.mem_cons, putB_mem x z r, List.mem_cons]
      constructor
      · rintro (h | h | h) <;> simp [h]
      · rintro (h | h | h) <;> simp [h]
    · split
      · rename_i h
        have e := (eq_blt _ _).1 h
        subst e
        simp
      · simp
theorem putB_rise (x : ByteArray) : ∀ l : List ByteArray, l.Pairwise blt → (putB l x).Pairwise blt
  | [], _ => by simp [putB]
  | y :: r, h => by
    rw [List.pairwise_cons] at h
    unfold putB
    split
    · rename_i hl
      rw [List.pairwise_cons]
      refine ⟨fun z hz => ?_, putB_rise x r h.2⟩
      rcases (putB_mem x z r).1 hz with e | hz
      · subst e; exact (less_blt _ _).1 hl
      · exact h.1 z hz
    · rename_i hl
      split
      · exact List.pairwise_cons.2 h
      · rename_i he
        have h1 : blt x y := by
          rcases blt_tri x y with h' | h' | h'
          · exact h'
          · exact absurd ((eq_blt _ _).2 h'.symm) he
          · exact absurd ((less_blt _ _).2 h') hl
        rw [List.pairwise_cons]
        refine ⟨fun z hz => ?_, List.pairwise_cons.2 h⟩
        rcases List.mem_cons.1 hz with e | hz
        · subst e; exact h1
        · exact blt_tr _ _ _ h1 (h.1 z hz)
theorem putB_len (x : ByteArray) : ∀ l : List ByteArray, (putB l x).length ≤ l.length + 1
  | [] => by simp [putB]
  | y :: r => by
    have := putB_len x r
    unfold putB
    split
    · simp only [List.length_cons]; omega
    · split <;> simp only [List.length_cons] <;> omega
/-- The texts that p takes, put in one by one. -/
def putAll (p : ByteArray → Bool) (acc : List ByteArray) (l : List ByteArray) : List ByteArray := l.foldl (fun a x => if p x = true then putB a x else a) acc
theorem putAll_all (p : ByteArray → Bool) : ∀ (l acc : List ByteArray), acc.Pairwise blt → (putAll p acc l).Pairwise blt ∧ ∀ z, z ∈ putAll p acc l ↔ z ∈ acc ∨ (z ∈ l ∧ p z = true)
  | [], acc, h => ⟨h, fun z => by simp [putAll]⟩
  | x :: l, acc, h => by
    have e : putAll p acc (x :: l) = putAll p (if p x = true then putB acc x else acc) l := rfl
    rw [e]
    by_cases hp : p x = true
    · rw [if_pos hp]
      obtain ⟨h1, h2⟩ := putAll_all p l _ (putB_rise x acc h)
      refine ⟨h1, fun z => ?_⟩
      rw [h2, putB_mem, List.mem_cons]
      constructor
      · rintro ((h | h) | h)
        · subst h; exact .inr ⟨.inl rfl, hp⟩
        · exact .inl h
        · exact .inr ⟨.inr h.1, h.2⟩
      · rintro (h | ⟨h | h, hz⟩)
        · exact .inl (.inr h)
        · exact .inl (.inl h)
        · exact .inr ⟨h, hz⟩
    · rw [if_neg hp]
      obtain ⟨h1, h2⟩ := putAll_all p l _ h
      refine ⟨h1, fun z => ?_⟩
      rw [h2, List.mem_cons]
      constructor
      · rintro (h | h)
        · exact .inl h
        · exact .inr ⟨.inr h.1, h.2⟩
      · rintro (h | ⟨h | h, hz⟩)
        · exact .inl h
        · subst h; exact absurd hz hp
        · exact .inr ⟨h, hz⟩
theorem putAll_len (p : ByteArray → Bool) : ∀ (l acc : List ByteArray), (putAll p acc l).length ≤ acc.length + l.length
  | [], acc => by simp [putAll]
  | x :: l, acc => by
    have e : putAll p acc (x :: l) = putAll p (if p x = true then putB acc x else acc) l := rfl
    have h1 := putAll_len p l (if p x = true then putB acc x else acc)
    have h2 := putB_len x acc
    rw [e, List.length_cons]
    split at h1
    · rename_i h; rw [if_pos h]; omega
    · rename_i h; rw [if_neg h]; omega

open Go.Lib in
theorem compact_upto (zs : List (List UInt8)) (h : zs.Pairwise (· ≤ ·)) : ∀ m, m ≤ zs.length → (compactUpTo zs.toArray m).Pairwise (· < ·) ∧ (∀ z, z ∈ compactUpTo zs.toArray m ↔ z ∈ zs.take m)
  | 0, _ => ⟨by simp [compactUpTo], fun z => by simp [compactUpTo]⟩
  | m + 1, hm => by
    obtain ⟨h1, h2⟩ := compact_upto zs h m (by omega)
    have hx : zs.toArray[m]! = zs[m] := by simp [getElem!_pos, show m < zs.length by omega]
    rw [compactUpTo_succ, List.take_succ_eq_append_getElem (by omega), hx]
    have hle : ∀ z ∈ zs.take m, z ≤ zs[m] := by
      intro z hz
      obtain ⟨j, hj, e⟩ := List.mem_take_iff_getElem.1 hz
      rw [← e]
      exact List.pairwise_iff_getElem.1 h j m _ _ (by omega)
    by_cases hk : keeps zs.toArray m = true
    · rw [if_pos hk]
      refine ⟨?_, fun z => by rw [List.mem_append, List.mem_append, h2]⟩
      rw [List.pairwise_append]
      refine ⟨h1, by simp, fun a ha b hb => ?_⟩
      obtain rfl : b = zs[m] := by simpa using hb
      have ha := (h2 a).1 ha
      have hal := hle a ha
      rcases Std.lt_trichotomy a zs[m] with h' | h' | h'
      · exact h'
      · exfalso
        simp only [keeps, decide_eq_true_eq] at hk
        rcases hk with rfl | hk
        · simp at ha
        · refine hk ?_
          by_cases h0 : m = 0
          · subst h0; simp at ha
          have hy : zs.toArray[m - 1]! = zs[m - 1] := by simp [getElem!_pos, show m - 1 < zs.length by omega]
          rw [hx, hy]
          obtain ⟨j, hj, e⟩ := List.mem_take_iff_getElem.1 ha
          have l1 : zs[m - 1] ≤ zs[m] := List.pairwise_iff_getElem.1 h (m - 1) m _ _ (by omega)
          have l2 : zs[m] ≤ zs[m - 1] := by
            rw [← h', ← e]
            by_cases hj' : j = m - 1
            · subst hj'; exact List.le_refl _
            · exact List.pairwise_iff_getElem.1 h j (m - 1) _ _ (by omega)
          exact List.le_antisymm l2 l1
      · exact absurd h' hal
    · rw [if_neg hk, List.append_nil]
      refine ⟨h1, fun z => ?_⟩
      rw [h2, List.mem_append]
      constructor
      · exact .inl
      · rintro (h' | h')
        · exact h'
        · obtain rfl : z = zs[m] := by simpa using h'
          have hm0 : m ≠ 0 := by rintro rfl; exact hk (keeps_lt_one _ 0 (by omega))
          have hy : zs.toArray[m - 1]! = zs[m - 1] := by simp [getElem!_pos, show m - 1 < zs.length by omega]
          have e : zs[m] = zs[m - 1] := by
            rw [← hx, ← hy]
            apply Classical.byContradiction
            intro hne
            exact hk (keeps_pos hne)
          rw [e]
          exact List.mem_take_iff_getElem.2 ⟨m - 1, by omega, rfl⟩
def srtB (l : List ByteArray) : List ByteArray := ((l.map (fun x : ByteArray => x.data.toList)).mergeSort (fun x y => decide (x ≤ y))).map (fun x => ⟨x.toArray⟩)
def cmpB (l : List ByteArray) : List ByteArray := (Lib.compact (l.map (fun x : ByteArray => x.data.toList))).map (fun x => ⟨x.toArray⟩)
theorem cs_all (l : List ByteArray) : (cmpB (srtB l)).Pairwise blt ∧ ∀ z, z ∈ cmpB (srtB l) ↔ z ∈ l := by
  have hs : ((l.map (fun x : ByteArray => x.data.toList)).mergeSort (fun x y => decide (x ≤ y))).Pairwise (· ≤ ·) := by
    refine (List.pairwise_mergeSort (le := fun x y : List UInt8 => decide (x ≤ y)) (fun a b c h1 h2 => decide_eq_true (List.le_trans (of_decide_eq_true h1) (of_decide_eq_true h2))) (fun a b => ?_) _).imp (fun h => of_decide_eq_true h)
    rw [Bool.or_eq_true, decide_eq_true_eq, decide_eq_true_eq]
    exact List.le_total a b
  have e : (srtB l).map (fun x : ByteArray => x.data.toList) = (l.map (fun x : ByteArray => x.data.toList)).mergeSort (fun x y => decide (x ≤ y)) := by
    unfold srtB
    rw [List.map_map]
    exact (List.map_congr_left (fun x _ => rfl)).trans (List.map_id _)
  unfold cmpB
  rw [e]
  obtain ⟨h1, h2⟩ := compact_upto _ hs _ (Nat.le_refl _)
  rw [List.take_length] at h2
  refine ⟨?_, fun z => ?_⟩
  · rw [List.pairwise_map]
    exact h1.imp fun h => h
  · rw [List.mem_map]
    constructor
    · rintro ⟨x, hx, rfl⟩
      have := (h2 x).1 hx
      rw [List.mem_mergeSort, List.mem_map] at this
      obtain ⟨y, hy, rfl⟩ := this
      exact hy
    · intro hz
      exact ⟨z.data.toList, (h2 _).2 (List.mem_mergeSort.2 (List.mem_map.2 ⟨z, hz, rfl⟩)), rfl⟩
/-- Sorted and freed of doubles, what p takes of a list is what is put together one by one. -/
theorem cs_put (p : ByteArray → Bool) (l : List ByteArray) : cmpB (srtB (l.filter p)) = putAll p [] l := by
  obtain ⟨h1, h2⟩ := cs_all (l.filter p)
  obtain ⟨h3, h4⟩ := putAll_all p l [] (by simp)
  refine eq_of_mem blt blt_irr blt_tr h1 h3 fun z => ?_
  rw [h2, h4, List.mem_filter]
  simp
end Go.Proofs.YtolhlackfphdcaaDoor.Srt
