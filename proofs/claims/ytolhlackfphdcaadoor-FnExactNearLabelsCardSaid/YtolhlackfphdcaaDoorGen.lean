/- Plain facts for functions that are handed a function value: what such a value answers, the first place, any, all, one by one. No program in sight. -/
import Derived.Test.YtolhlackfphdcaaDoorWMore
import Derived.Deep.LoopGhost
import Derived.WalkKit
import Derived.Lib.Builder
import Derived.Lib.AppendStr
import Derived.Lib.UnsafeStr
namespace Go.Proofs.YtolhlackfphdcaaDoor.Gen
open Go.RowKit Go.Proofs.YtolhlackfphdcaaDoorW.PrintWords Go.Proofs.YtolhlackfphdcaaDoorW.PrintLast Go.Proofs.YtolhlackfphdcaaDoorW.PrintMore
set_option linter.unusedVariables false

/-- The value of an element: an aggregate of its cells, or its one cell. -/
def vAgg (cs : List Value) : Value := .agg cs.toArray
def vOne (cs : List Value) : Value := cs.headD .nilIface

/-- A function value (function g, bound to lb) that answers a bool for elements of kind d as p tells; it may make memory of its own. -/
structure FnB {α : Type} (P : Program) (g : Nat) (lb : Array Value) (d : Kd α) (vo : List Value → Value) (p : α → Option Bool) (w : World) : Prop where
  enters : ∀ args W, (callFunc g args).run P W = .ok (.enter g args) W
  run : ∀ W x cs b, Below w.heap.size w W → d.K W x cs → p x = some b → Calls P g (#[vo cs] ++ lb) W fun e w' => e = .returned (.bool b) ∧ Below W.heap.size W w'
theorem FnB.later {α : Type} {P : Program} {g : Nat} {lb : Array Value} {d : Kd α} {vo : List Value → Value} {p : α → Option Bool} {w w1 : World} (h : FnB P g lb d vo p w) (hb : Below w.heap.size w w1) : FnB P g lb d vo p w1 :=
  ⟨h.enters, fun W x cs b hW hk hp => h.run W x cs b (below_then hb hb.size hW) hk hp⟩

/-- The same of a function value that answers a string. -/
structure FnS {α : Type} (P : Program) (g : Nat) (lb : Array Value) (d : Kd α) (vo : List Value → Value) (p : α → Option ByteArray) (w : World) : Prop where
  enters : ∀ args W, (callFunc g args).run P W = .ok (.enter g args) W
  run : ∀ W x cs b, Below w.heap.size w W → d.K W x cs → p x = some b → Calls P g (#[vo cs] ++ lb) W fun e w' => e = .returned (.string b) ∧ Below W.heap.size W w'
theorem FnS.later {α : Type} {P : Program} {g : Nat} {lb : Array Value} {d : Kd α} {vo : List Value → Value} {p : α → Option ByteArray} {w w1 : World} (h : FnS P g lb d vo p w) (hb : Below w.heap.size w w1) : FnS P g lb d vo p w1 :=
  ⟨h.enters, fun W x cs b hW hk hp => h.run W x cs b (below_then hb hb.size hW) hk hp⟩

def idxO {α : Type} (p : α → Option Bool) : List α → Int → Option Int
  | [], _ => some (-1)
  | x :: r, i => (p x).bind fun b => if b = true then some i else idxO p r (i + 1)
def anyO {α : Type} (p : α → Option Bool) : List α → Option Bool
  | [] => some false
  | x :: r => (p x).bind fun b => if b = true then some true else anyO p r
def allO {α : Type} (p : α → Option Bool) : List α → Option Bool
  | [] => some true
  | x :: r => (p x).bind fun b => if b = true then allO p r else some false
def mapO {α β : Type} (f : α → Option β) : List α → Option (List β)
  | [] => some []
  | x :: r => (f x).bind fun y => (mapO f r).bind fun ys => some (y :: ys)
theorem idxO_le {α : Type} {p : α → Option Bool} : ∀ {l : List α} {i r : Int}, 0 ≤ i → idxO p l i = some r → r = -1 ∨ i ≤ r ∧ r < i + l.length
  | [], i, r, h0, h => .inl (Option.some.inj h).symm
  | x :: l, i, r, h0, h => by
    obtain ⟨b, hb, h⟩ := Option.bind_eq_some_iff.mp h
    cases b with
    | true =>
      obtain rfl := Option.some.inj h
      right
      simp only [List.length_cons]
      omega
    | false =>
      have h' : idxO p l (i + 1) = some r := h
      rcases idxO_le (by omega) h' with h1 | ⟨h1, h2⟩
      · exact .inl h1
      · right
        simp only [List.length_cons]
        omega
theorem idxO_any {α : Type} {p : α → Option Bool} : ∀ {l : List α} {b : Bool}, anyO p l = some b → ∀ i : Int, 0 ≤ i → ∃ r, idxO p l i = some r ∧ decide (0 ≤ r) = b
  | [], b, h, i, h0 => ⟨-1, rfl, by cases h; rfl⟩
  | x :: l, b, h, i, h0 => by
    obtain ⟨c, hc, h⟩ := Option.bind_eq_some_iff.mp h
    cases c with
    | true =>
      obtain rfl := Option.some.inj h
      exact ⟨i, by simp [idxO, hc], decide_eq_true h0⟩
    | false =>
      have h' : anyO p l = some b := h
      obtain ⟨r, hr, hd⟩ := idxO_any h' (i + 1) (by omega)
      exact ⟨r, by simp [idxO, hc, hr], hd⟩
theorem anyO_all {α : Type} {p : α → Option Bool} : ∀ {l : List α} {b : Bool}, allO p l = some b → anyO (fun x => (p x).map (!·)) l = some (!b)
  | [], b, h => by cases h; rfl
  | x :: l, b, h => by
    obtain ⟨c, hc, h⟩ := Option.bind_eq_some_iff.mp h
    cases c with
    | true =>
      have h' : allO p l = some b := h
      simp [anyO, hc, anyO_all h']
    | false =>
      obtain rfl := Option.some.inj h
      simp [anyO, hc]
theorem allO_of {α : Type} {p : α → Option Bool} {q : α → Bool} {l : List α} (h : ∀ x ∈ l, p x = some (q x)) : allO p l = some (l.all q) := by
  induction l with
  | nil => rfl
  | cons x l ih =>
    simp only [allO, h x (by simp), Option.bind_some, List.all_cons]
    cases q x with
    | true => simp [ih fun y hy => h y (by simp [hy])]
    | false => simp
theorem anyO_of {α : Type} {p : α → Option Bool} {q : α → Bool} {l : List α} (h : ∀ x ∈ l, p x = some (q x)) : anyO p l = some (l.any q) := by
  induction l with
  | nil => rfl
  | cons x l ih =>
    simp only [anyO, h x (by simp), Option.bind_some, List.any_cons]
    cases q x with
    | true => simp
    | false => simp [ih fun y hy => h y (by simp [hy])]
theorem mapO_of {α β : Type} {f : α → Option β} {q : α → β} {l : List α} (h : ∀ x ∈ l, f x = some (q x)) : mapO f l = some (l.map q) := by
  induction l with
  | nil => rfl
  | cons x l ih => simp [mapO, h x (by simp), ih fun y hy => h y (by simp [hy])]
theorem mapO_length {α β : Type} {f : α → Option β} : ∀ {l : List α} {ys : List β}, mapO f l = some ys → ys.length = l.length
  | [], ys, h => by cases h; rfl
  | x :: l, ys, h => by
    obtain ⟨y, hy, h⟩ := Option.bind_eq_some_iff.mp h
    obtain ⟨zs, hz, h⟩ := Option.bind_eq_some_iff.mp h
    cases h
    simp [mapO_length hz]

/-- The lines of a list: the text of each one, and a newline behind it. -/
def linesAcc {α : Type} (f : α → Option ByteArray) : List α → ByteArray → Option ByteArray
  | [], acc => some acc
  | x :: r, acc => (f x).bind fun t => if acc.size + t.size + 1 ≤ 140737488355328 then linesAcc f r (acc ++ (t ++ ⟨#[10]⟩)) else none
theorem linesAcc_of {α : Type} {f : α → Option ByteArray} {q : α → ByteArray} (m : Nat) : ∀ (l : List α) (acc : ByteArray), (∀ x ∈ l, f x = some (q x) ∧ (q x).size ≤ m) → acc.size + l.length * (m + 1) ≤ 140737488355328 →
    linesAcc f l acc = some (l.foldl (fun a x => a ++ (q x ++ ⟨#[10]⟩)) acc)
  | [], acc, _, _ => rfl
  | x :: l, acc, h, hm => by
    have h1 := h x (by simp)
    have z : (⟨#[10]⟩ : ByteArray).size = 1 := rfl
    have e : (l.length + 1) * (m + 1) = l.length * (m + 1) + (m + 1) := Nat.succ_mul _ _
    rw [List.length_cons, e] at hm
    simp only [linesAcc, h1.1, Option.bind_some, List.foldl_cons]
    rw [if_pos (by omega)]
    exact linesAcc_of m l _ (fun y hy => h y (by simp [hy])) (by simp only [ByteArray.size_append, z]; omega)
theorem strCells_bytes (s : ByteArray) : Lib.strCells s = Lib.byteCells s.data.toList := rfl
theorem byteCells_append (s t : ByteArray) : Lib.byteCells s.data.toList ++ Lib.strCells t = Lib.byteCells (s ++ t).data.toList := by
  unfold Lib.strCells Lib.byteCells
  rw [← List.map_append, ByteArray.data_append, Array.toList_append]
theorem byteCells_length (s : ByteArray) : (Lib.byteCells s.data.toList).length = s.size := by
  unfold Lib.byteCells
  rw [List.length_map, Array.length_toList]
  rfl
theorem builder_below {T e : TypeId} {B b : Nat} {bs : List Value} {w w2 : World} (h : Lib.IsBuilder T e B b bs w) (hb : Below w.heap.size w w2) : Lib.IsBuilder T e B b bs w2 := by
  have go : ∀ p, Lib.BuilderAt T e B b p bs w → Lib.BuilderAt T e B b p bs w2 := by
    rintro p ⟨hB, v, hk, ho, hn⟩
    exact ⟨hB, v, (hb.block b (blk_lt hk)).trans hk, pw_own_below ho hb, hn⟩
  rcases h with h | h
  · exact .inl (go _ h)
  · exact .inr (go _ h)
theorem builder_new (T e : TypeId) (w : World) : Lib.IsBuilder T e w.heap.size w.heap.size [] (w.alloc (.cells #[.pointer none, .slice none 0 0] T)) := by
  left
  refine ⟨Nat.le_refl _, .slice none 0 0, heap_alloc_new w _, own_nil _ _ _ _, by simp [Value.ownBlock]⟩

/-- The cells of an element. -/
theorem cells_at {α : Type} {d : Kd α} {w : World} {A : Option Addr} {n : Nat} {xs : List α} (h : d.C w A n xs) (k : Nat) (x : α) (hx : xs[k]? = some x) :
    ∃ ad c, A = some ad ∧ c.length = d.sz ∧ d.K w x c ∧ ∀ j u, c[j]? = some u → w.cell? (ad.add (k * d.sz + j)) = some u := by
  have hl := (List.getElem?_eq_some_iff.1 hx).1
  have hn : xs.length = n := h.1
  obtain ⟨ad, e, hc⟩ := h.2.2 (by omega)
  obtain ⟨c, hs, hK, hcell⟩ := hc k x hx
  exact ⟨ad, c, e, hs, hK, hcell⟩
theorem cells1 {α : Type} {d : Kd α} (hs : d.sz = 1) {w : World} {A : Option Addr} {n : Nat} {xs : List α} (h : d.C w A n xs) (i : Nat) (x : α) (hx : xs[i]? = some x) :
    ∃ ad c0, A = some ad ∧ d.K w x [c0] ∧ w.cell? (ad.add i) = some c0 := by
  obtain ⟨ad, c, e, hl, hK, hc⟩ := cells_at h i x hx
  rw [hs] at hl hc
  obtain ⟨c0, rfl⟩ : ∃ c0, c = [c0] := by
    match c, hl with
    | [c0], _ => exact ⟨c0, rfl⟩
  exact ⟨ad, c0, e, hK, by have := hc 0 c0 rfl; simpa using this⟩
theorem cells2 {α : Type} {d : Kd α} (hs : d.sz = 2) {w : World} {A : Option Addr} {n : Nat} {xs : List α} (h : d.C w A n xs) (i : Nat) (x : α) (hx : xs[i]? = some x) :
    ∃ ad c0 c1, A = some ad ∧ d.K w x [c0, c1] ∧ w.cell? (ad.add (i * 2)) = some c0 ∧ w.cell? ⟨(ad.add (i * 2)).block, (ad.add (i * 2)).off + 1, none⟩ = some c1 := by
  obtain ⟨ad, c, e, hl, hK, hc⟩ := cells_at h i x hx
  rw [hs] at hl hc
  obtain ⟨c0, c1, rfl⟩ : ∃ c0 c1, c = [c0, c1] := by
    match c, hl with
    | [c0, c1], _ => exact ⟨c0, c1, rfl⟩
  exact ⟨ad, c0, c1, e, hK, by have := hc 0 c0 rfl; simpa using this, by rw [← add_field _ _ 1 (by omega)]; exact hc 1 c1 rfl⟩
theorem cells3 {α : Type} {d : Kd α} (hs : d.sz = 3) {w : World} {A : Option Addr} {n : Nat} {xs : List α} (h : d.C w A n xs) (i : Nat) (x : α) (hx : xs[i]? = some x) :
    ∃ ad c0 c1 c2, A = some ad ∧ d.K w x [c0, c1, c2] ∧ w.cell? (ad.add (i * 3)) = some c0 ∧ w.cell? ⟨(ad.add (i * 3)).block, (ad.add (i * 3)).off + 1, none⟩ = some c1 ∧ w.cell? ⟨(ad.add (i * 3)).block, (ad.add (i * 3)).off + 2, none⟩ = some c2 := by
  obtain ⟨ad, c, e, hl, hK, hc⟩ := cells_at h i x hx
  rw [hs] at hl hc
  obtain ⟨c0, c1, c2, rfl⟩ : ∃ c0 c1 c2, c = [c0, c1, c2] := by
    match c, hl with
    | [c0, c1, c2], _ => exact ⟨c0, c1, c2, rfl⟩
  exact ⟨ad, c0, c1, c2, e, hK, by have := hc 0 c0 rfl; simpa using this, by rw [← add_field _ _ 1 (by omega)]; exact hc 1 c1 rfl, by rw [← add_field _ _ 2 (by omega)]; exact hc 2 c2 rfl⟩
theorem cells5 {α : Type} {d : Kd α} (hs : d.sz = 5) {w : World} {A : Option Addr} {n : Nat} {xs : List α} (h : d.C w A n xs) (i : Nat) (x : α) (hx : xs[i]? = some x) :
    ∃ ad c0 c1 c2 c3 c4, A = some ad ∧ d.K w x [c0, c1, c2, c3, c4] ∧ w.cell? (ad.add (i * 5)) = some c0 ∧ w.cell? ⟨(ad.add (i * 5)).block, (ad.add (i * 5)).off + 1, none⟩ = some c1 ∧ w.cell? ⟨(ad.add (i * 5)).block, (ad.add (i * 5)).off + 2, none⟩ = some c2 ∧ w.cell? ⟨(ad.add (i * 5)).block, (ad.add (i * 5)).off + 3, none⟩ = some c3 ∧ w.cell? ⟨(ad.add (i * 5)).block, (ad.add (i * 5)).off + 4, none⟩ = some c4 := by
  obtain ⟨ad, c, e, hl, hK, hc⟩ := cells_at h i x hx
  rw [hs] at hl hc
  obtain ⟨c0, c1, c2, c3, c4, rfl⟩ : ∃ c0 c1 c2 c3 c4, c = [c0, c1, c2, c3, c4] := by
    match c, hl with
    | [c0, c1, c2, c3, c4], _ => exact ⟨c0, c1, c2, c3, c4, rfl⟩
  exact ⟨ad, c0, c1, c2, c3, c4, e, hK, by have := hc 0 c0 rfl; simpa using this, by rw [← add_field _ _ 1 (by omega)]; exact hc 1 c1 rfl, by rw [← add_field _ _ 2 (by omega)]; exact hc 2 c2 rfl, by rw [← add_field _ _ 3 (by omega)]; exact hc 3 c3 rfl, by rw [← add_field _ _ 4 (by omega)]; exact hc 4 c4 rfl⟩
theorem cells8 {α : Type} {d : Kd α} (hs : d.sz = 8) {w : World} {A : Option Addr} {n : Nat} {xs : List α} (h : d.C w A n xs) (i : Nat) (x : α) (hx : xs[i]? = some x) :
    ∃ ad c0 c1 c2 c3 c4 c5 c6 c7, A = some ad ∧ d.K w x [c0, c1, c2, c3, c4, c5, c6, c7] ∧ w.cell? (ad.add (i * 8)) = some c0 ∧ w.cell? ⟨(ad.add (i * 8)).block, (ad.add (i * 8)).off + 1, none⟩ = some c1 ∧ w.cell? ⟨(ad.add (i * 8)).block, (ad.add (i * 8)).off + 2, none⟩ = some c2 ∧ w.cell? ⟨(ad.add (i * 8)).block, (ad.add (i * 8)).off + 3, none⟩ = some c3 ∧ w.cell? ⟨(ad.add (i * 8)).block, (ad.add (i * 8)).off + 4, none⟩ = some c4 ∧ w.cell? ⟨(ad.add (i * 8)).block, (ad.add (i * 8)).off + 5, none⟩ = some c5 ∧ w.cell? ⟨(ad.add (i * 8)).block, (ad.add (i * 8)).off + 6, none⟩ = some c6 ∧ w.cell? ⟨(ad.add (i * 8)).block, (ad.add (i * 8)).off + 7, none⟩ = some c7 := by
  obtain ⟨ad, c, e, hl, hK, hc⟩ := cells_at h i x hx
  rw [hs] at hl hc
  obtain ⟨c0, c1, c2, c3, c4, c5, c6, c7, rfl⟩ : ∃ c0 c1 c2 c3 c4 c5 c6 c7, c = [c0, c1, c2, c3, c4, c5, c6, c7] := by
    match c, hl with
    | [c0, c1, c2, c3, c4, c5, c6, c7], _ => exact ⟨c0, c1, c2, c3, c4, c5, c6, c7, rfl⟩
  exact ⟨ad, c0, c1, c2, c3, c4, c5, c6, c7, e, hK, by have := hc 0 c0 rfl; simpa using this, by rw [← add_field _ _ 1 (by omega)]; exact hc 1 c1 rfl, by rw [← add_field _ _ 2 (by omega)]; exact hc 2 c2 rfl, by rw [← add_field _ _ 3 (by omega)]; exact hc 3 c3 rfl, by rw [← add_field _ _ 4 (by omega)]; exact hc 4 c4 rfl, by rw [← add_field _ _ 5 (by omega)]; exact hc 5 c5 rfl, by rw [← add_field _ _ 6 (by omega)]; exact hc 6 c6 rfl, by rw [← add_field _ _ 7 (by omega)]; exact hc 7 c7 rfl⟩
theorem cells9 {α : Type} {d : Kd α} (hs : d.sz = 9) {w : World} {A : Option Addr} {n : Nat} {xs : List α} (h : d.C w A n xs) (i : Nat) (x : α) (hx : xs[i]? = some x) :
    ∃ ad c0 c1 c2 c3 c4 c5 c6 c7 c8, A = some ad ∧ d.K w x [c0, c1, c2, c3, c4, c5, c6, c7, c8] ∧ w.cell? (ad.add (i * 9)) = some c0 ∧ w.cell? ⟨(ad.add (i * 9)).block, (ad.add (i * 9)).off + 1, none⟩ = some c1 ∧ w.cell? ⟨(ad.add (i * 9)).block, (ad.add (i * 9)).off + 2, none⟩ = some c2 ∧ w.cell? ⟨(ad.add (i * 9)).block, (ad.add (i * 9)).off + 3, none⟩ = some c3 ∧ w.cell? ⟨(ad.add (i * 9)).block, (ad.add (i * 9)).off + 4, none⟩ = some c4 ∧ w.cell? ⟨(ad.add (i * 9)).block, (ad.add (i * 9)).off + 5, none⟩ = some c5 ∧ w.cell? ⟨(ad.add (i * 9)).block, (ad.add (i * 9)).off + 6, none⟩ = some c6 ∧ w.cell? ⟨(ad.add (i * 9)).block, (ad.add (i * 9)).off + 7, none⟩ = some c7 ∧ w.cell? ⟨(ad.add (i * 9)).block, (ad.add (i * 9)).off + 8, none⟩ = some c8 := by
  obtain ⟨ad, c, e, hl, hK, hc⟩ := cells_at h i x hx
  rw [hs] at hl hc
  obtain ⟨c0, c1, c2, c3, c4, c5, c6, c7, c8, rfl⟩ : ∃ c0 c1 c2 c3 c4 c5 c6 c7 c8, c = [c0, c1, c2, c3, c4, c5, c6, c7, c8] := by
    match c, hl with
    | [c0, c1, c2, c3, c4, c5, c6, c7, c8], _ => exact ⟨c0, c1, c2, c3, c4, c5, c6, c7, c8, rfl⟩
  exact ⟨ad, c0, c1, c2, c3, c4, c5, c6, c7, c8, e, hK, by have := hc 0 c0 rfl; simpa using this, by rw [← add_field _ _ 1 (by omega)]; exact hc 1 c1 rfl, by rw [← add_field _ _ 2 (by omega)]; exact hc 2 c2 rfl, by rw [← add_field _ _ 3 (by omega)]; exact hc 3 c3 rfl, by rw [← add_field _ _ 4 (by omega)]; exact hc 4 c4 rfl, by rw [← add_field _ _ 5 (by omega)]; exact hc 5 c5 rfl, by rw [← add_field _ _ 6 (by omega)]; exact hc 6 c6 rfl, by rw [← add_field _ _ 7 (by omega)]; exact hc 7 c7 rfl, by rw [← add_field _ _ 8 (by omega)]; exact hc 8 c8 rfl⟩
end Go.Proofs.YtolhlackfphdcaaDoor.Gen
