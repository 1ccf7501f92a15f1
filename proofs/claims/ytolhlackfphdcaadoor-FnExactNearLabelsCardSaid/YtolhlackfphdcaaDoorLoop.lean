/- Plain facts on printed loops that go along a list by an index. No program in sight. -/
import Derived.Test.YtolhlackfphdcaaDoorGen
namespace Go.Proofs.YtolhlackfphdcaaDoor.Loop
open Go.RowKit Go.Proofs.YtolhlackfphdcaaDoorW.PrintWords Go.Proofs.YtolhlackfphdcaaDoorW.PrintLast Go.Proofs.YtolhlackfphdcaaDoorW.PrintMore Go.Proofs.YtolhlackfphdcaaDoor.Gen
set_option linter.unusedVariables false

theorem wrap_succ {i n : Nat} (h : i < n) (hn : n ≤ 9223372036854775807) : wrap64 ((i : Int) + 1) = ((i + 1 : Nat) : Int) := by unfold wrap64; omega
theorem wrap_of {n : Int} (h0 : -9223372036854775808 ≤ n) (h1 : n ≤ 9223372036854775807) : wrap64 n = n := by unfold wrap64; omega
theorem getD_some {α : Type} {xs : List α} {i : Nat} {x z : α} (h : xs[i]? = some x) : xs.getD ((i : Int)).toNat z = x := by
  rw [Int.toNat_natCast, List.getD_eq_getElem?_getD, h]
  rfl
theorem getD_nat {α : Type} {xs : List α} {i : Nat} {x z : α} (h : xs[i]? = some x) : xs.getD i z = x := by
  rw [List.getD_eq_getElem?_getD, h]
  rfl
theorem lt_of_some {α : Type} {xs : List α} {i : Nat} {x : α} (h : xs[i]? = some x) : i < xs.length := (List.getElem?_eq_some_iff.1 h).1

/-- A walk along a list: go on with a state, or end. -/
def runL {α σ ρ : Type} (step : σ → α → Option (σ ⊕ ρ)) (fin : σ → Option ρ) : List α → σ → Option ρ
  | [], s => fin s
  | x :: r, s => (step s x).bind fun q => match q with
    | .inl s' => runL step fin r s'
    | .inr v => some v

theorem loop_from {α σ ρ : Type} (m : Nat) (l : Nat → σ → Int → Option ρ) (xs : List α) (step : σ → α → Option (σ ⊕ ρ)) (fin : σ → Option ρ)
    (hs : ∀ k s (i : Nat) x, m ≤ k → xs[i]? = some x → l (k + 1) s i = (step s x).bind fun q => match q with | .inl s' => l k s' ((i + 1 : Nat) : Int) | .inr v => some v)
    (he : ∀ k s, m ≤ k → l (k + 1) s (xs.length : Int) = fin s) (d : Nat) : ∀ (i : Nat) (k : Nat) (s : σ), i + d = xs.length → m + d < k → l k s (i : Int) = runL step fin (xs.drop i) s := by
  induction d with
  | zero =>
    intro i k s hi hk
    obtain ⟨k, rfl⟩ : ∃ m, k = m + 1 := ⟨k - 1, by omega⟩
    obtain rfl : i = xs.length := by omega
    rw [he _ _ (by omega), List.drop_length]
    rfl
  | succ d ih =>
    intro i k s hi hk
    obtain ⟨k, rfl⟩ : ∃ m, k = m + 1 := ⟨k - 1, by omega⟩
    have hlt : i < xs.length := by omega
    have hx : xs[i]? = some xs[i] := List.getElem?_eq_getElem hlt
    rw [hs k s i _ (by omega) hx, List.drop_eq_getElem_cons hlt]
    simp only [runL]
    congr 1
    funext q
    cases q with
    | inl s' => exact ih (i + 1) k s' (by omega) (by omega)
    | inr v => rfl
/-- m: how many rounds what is called in a round, or behind the loop, wants. -/
theorem loop_run {α σ ρ : Type} (m : Nat) (l : Nat → σ → Int → Option ρ) (xs : List α) (step : σ → α → Option (σ ⊕ ρ)) (fin : σ → Option ρ)
    (hs : ∀ k s (i : Nat) x, m ≤ k → xs[i]? = some x → l (k + 1) s i = (step s x).bind fun q => match q with | .inl s' => l k s' ((i + 1 : Nat) : Int) | .inr v => some v)
    (he : ∀ k s, m ≤ k → l (k + 1) s (xs.length : Int) = fin s) (k : Nat) (s : σ) (hk : m + xs.length < k) : l k s 0 = runL step fin xs s := by
  have := loop_from m l xs step fin hs he xs.length 0 k s (by omega) hk
  simpa using this

/-- A search along a list: go on while the test says yes. -/
theorem run_all {α ρ : Type} {p : α → Bool} {no : ρ} {fin : Unit → Option ρ} (xs : List α) :
    runL (σ := Unit) (fun _ x => some (if p x = true then Sum.inl () else Sum.inr no)) fin xs () = if xs.all p = true then fin () else some no := by
  induction xs with
  | nil => simp [runL]
  | cons x xs ih =>
    simp only [runL, Option.bind_some, List.all_cons]
    by_cases hp : p x = true
    · simp only [hp, if_true, Bool.true_and]; exact ih
    · simp [hp]
/-- A search along a list: go on while the test says yes; what follows may lean on it that all have passed. -/
theorem loop_all {α ρ : Type} (m : Nat) (l : Nat → Int → Option ρ) (xs : List α) (p : α → Bool) (no fin : Option ρ)
    (hs : ∀ k (i : Nat) x, m ≤ k → xs[i]? = some x → l (k + 1) i = if p x = true then l k ((i + 1 : Nat) : Int) else no)
    (he : xs.all p = true → ∀ k, m ≤ k → l (k + 1) (xs.length : Int) = fin) (k : Nat) (hk : m + xs.length < k) : l k 0 = if xs.all p = true then fin else no := by
  have key : ∀ (d i k : Nat), i + d = xs.length → m + d < k → (∀ j x, j < i → xs[j]? = some x → p x = true) → l k (i : Int) = if (xs.drop i).all p = true then fin else no := by
    intro d
    induction d with
    | zero =>
      intro i k hi hk hp
      obtain ⟨k, rfl⟩ : ∃ m, k = m + 1 := ⟨k - 1, by omega⟩
      obtain rfl : i = xs.length := by omega
      have ha : xs.all p = true := List.all_eq_true.2 fun x hx => by
        obtain ⟨j, hj⟩ := List.getElem?_of_mem hx
        exact hp j x (lt_of_some hj) hj
      rw [he ha k (by omega), List.drop_length]
      simp
    | succ d ih =>
      intro i k hi hk hp
      obtain ⟨k, rfl⟩ : ∃ m, k = m + 1 := ⟨k - 1, by omega⟩
      have hlt : i < xs.length := by omega
      have hx : xs[i]? = some xs[i] := List.getElem?_eq_getElem hlt
      rw [hs k i _ (by omega) hx, List.drop_eq_getElem_cons hlt]
      by_cases hq : p xs[i] = true
      · rw [if_pos hq, ih (i + 1) k (by omega) (by omega) (fun j x hj hx' => by
          by_cases hji : j = i
          · subst hji
            rw [hx] at hx'
            cases hx'
            exact hq
          · exact hp j x (by omega) hx')]
        simp only [List.all_cons, hq, Bool.true_and]
      · rw [if_neg hq]
        simp only [List.all_cons, hq, Bool.false_and, Bool.false_eq_true, if_false]
  have := key xs.length 0 k (by omega) hk (fun j x hj => absurd hj (Nat.not_lt_zero _))
  simpa using this
/-- A fold along a list. -/
theorem run_fold {α σ ρ : Type} {g : σ → α → σ} {fin : σ → Option ρ} (xs : List α) (s : σ) :
    runL (fun s x => some (Sum.inl (g s x))) fin xs s = fin (xs.foldl g s) := by
  induction xs generalizing s with
  | nil => rfl
  | cons x xs ih =>
    simp only [runL, Option.bind_some, List.foldl_cons]
    exact ih _

/-- A loop that writes what it makes of each element into a row of the same length. -/
theorem copy_from {α β : Type} (l : Nat → List β → Int → Option (List β)) (xs : List α) (f : α → Option β) (z : β)
    (hs : ∀ k s (i : Nat) x, xs[i]? = some x → i < s.length → l (k + 1) s i = (f x).bind fun y => l k (s.set i y) ((i + 1 : Nat) : Int))
    (he : ∀ k s, l (k + 1) s (xs.length : Int) = some s) (d : Nat) : ∀ (i : Nat) (k : Nat) (ys : List β), ys.length = i → i + d = xs.length → d < k →
      l k (ys ++ List.replicate d z) (i : Int) = (mapO f (xs.drop i)).map (ys ++ ·) := by
  induction d with
  | zero =>
    intro i k ys hy hi hk
    obtain ⟨k, rfl⟩ : ∃ m, k = m + 1 := ⟨k - 1, by omega⟩
    obtain rfl : i = xs.length := by omega
    rw [he, List.drop_length]
    simp [mapO]
  | succ d ih =>
    intro i k ys hy hi hk
    obtain ⟨k, rfl⟩ : ∃ m, k = m + 1 := ⟨k - 1, by omega⟩
    have hlt : i < xs.length := by omega
    have hx : xs[i]? = some xs[i] := List.getElem?_eq_getElem hlt
    rw [hs k _ i _ hx (by simp [hy]), List.drop_eq_getElem_cons hlt]
    simp only [mapO]
    cases hf : f xs[i] with
    | none => simp
    | some y =>
      have e : (ys ++ List.replicate (d + 1) z).set i y = (ys ++ [y]) ++ List.replicate d z := by
        rw [List.replicate_succ]
        simp [hy]
      simp only [Option.bind_some]
      rw [e, ih (i + 1) k (ys ++ [y]) (by simp [hy]) (by omega) (by omega)]
      cases mapO f (xs.drop (i + 1)) with
      | none => rfl
      | some zs => simp
theorem copy_loop {α β : Type} (l : Nat → List β → Int → Option (List β)) (xs : List α) (f : α → Option β) (z : β)
    (hs : ∀ k s (i : Nat) x, xs[i]? = some x → i < s.length → l (k + 1) s i = (f x).bind fun y => l k (s.set i y) ((i + 1 : Nat) : Int))
    (he : ∀ k s, l (k + 1) s (xs.length : Int) = some s) (k : Nat) (hk : xs.length < k) : l k (List.replicate xs.length z) 0 = mapO f xs := by
  have := copy_from l xs f z hs he xs.length 0 k [] rfl (by omega) hk
  simpa using this
end Go.Proofs.YtolhlackfphdcaaDoor.Loop
