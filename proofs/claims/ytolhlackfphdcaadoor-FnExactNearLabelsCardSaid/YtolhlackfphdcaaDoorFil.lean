/- Plain facts for what strikes elements out of a row of the call's own. No program in sight. -/
import Derived.Test.YtolhlackfphdcaaDoorGen
import Derived.Lib.SliceRun
namespace Go.Proofs.YtolhlackfphdcaaDoor.Fil
open Go.RowKit Go.Proofs.YtolhlackfphdcaaDoorW.PrintWords Go.Proofs.YtolhlackfphdcaaDoorW.PrintLast Go.Proofs.YtolhlackfphdcaaDoorW.PrintMore Go.Proofs.YtolhlackfphdcaaDoor.Gen
set_option linter.unusedVariables false

/-- A function value that answers a bool as p tells, in every world that meets I. -/
structure FnI {α : Type} (P : Program) (g : Nat) (lb : Array Value) (d : Kd α) (vo : List Value → Value) (p : α → Option Bool) (I : World → Prop) : Prop where
  enters : ∀ args W, (callFunc g args).run P W = .ok (.enter g args) W
  run : ∀ W x cs b, I W → d.K W x cs → p x = some b → Calls P g (#[vo cs] ++ lb) W fun e w' => e = .returned (.bool b) ∧ Below W.heap.size W w'
theorem FnI.at {α : Type} {P : Program} {g : Nat} {lb : Array Value} {d : Kd α} {vo : List Value → Value} {p : α → Option Bool} {I : World → Prop} {w : World} (h : FnI P g lb d vo p I) (hm : ∀ W, Below w.heap.size w W → I W) : FnB P g lb d vo p w :=
  ⟨h.enters, fun W x cs b hW hk hp => h.run W x cs b (hm W hW) hk hp⟩

/-- What is left of a list when what p tells is struck out. -/
def filtO {α : Type} (p : α → Option Bool) : List α → Option (List α)
  | [] => some []
  | x :: r => (p x).bind fun b => (filtO p r).bind fun t => some (if b = true then t else x :: t)
theorem filtO_of {α : Type} {p : α → Option Bool} {q : α → Bool} {l : List α} (h : ∀ x ∈ l, p x = some (q x)) : filtO p l = some (l.filter fun x => !q x) := by
  induction l with
  | nil => rfl
  | cons x l ih =>
    simp only [filtO, h x (by simp), Option.bind_some, ih fun y hy => h y (by simp [hy])]
    cases hq : q x <;> simp [hq]
theorem filtO_idx {α : Type} {p : α → Option Bool} : ∀ {l r : List α}, filtO p l = some r → ∀ i : Nat, ∃ q, idxO p l i = some q ∧ ((q = -1 ∧ r = l) ∨ ∃ (k : Nat) (rest : List α), k < l.length ∧ q = ((i + k : Nat) : Int) ∧ filtO p (l.drop (k + 1)) = some rest ∧ r = l.take k ++ rest)
  | [], r, h, i => ⟨-1, rfl, .inl ⟨rfl, (Option.some.inj h).symm⟩⟩
  | x :: l, r, h, i => by
    obtain ⟨b, hb, h⟩ := Option.bind_eq_some_iff.mp h
    obtain ⟨t, ht, h⟩ := Option.bind_eq_some_iff.mp h
    have h := Option.some.inj h
    cases b with
    | true =>
      rw [if_pos rfl] at h
      subst h
      exact ⟨i, by simp [idxO, hb], .inr ⟨0, t, by simp, by simp, by simpa using ht, by simp⟩⟩
    | false =>
      rw [if_neg (by decide)] at h
      subst h
      obtain ⟨q, hq, hr⟩ := filtO_idx ht (i + 1)
      refine ⟨q, by simp only [idxO, hb, Option.bind_some]; simpa using hq, ?_⟩
      rcases hr with ⟨rfl, rfl⟩ | ⟨k, rest, hk, rfl, hf, rfl⟩
      · exact .inl ⟨rfl, rfl⟩
      · exact .inr ⟨k + 1, rest, by simpa using hk, by omega, by simpa using hf, by simp⟩

section
variable {α : Type} {enc : α → Value} {h1 : ∀ x, (enc x).oneCell' = true} {e base g n cap : Nat} {ok : Nat → Prop} {cur : List α}
theorem R_cells (vs : List α) : ∀ (W : World) (o : Nat) (cur : List α), (Kd.scalar enc h1).R e W base ok (.slice (some ⟨g, 0, none⟩) n cap) cur →
    ∃ cur', (Kd.scalar enc h1).R e (W.setCells g o (vs.map enc)) base ok (.slice (some ⟨g, 0, none⟩) n cap) cur' ∧ cur'.length = cur.length ∧ cur'.take o = cur.take o ∧ W.grownBy (W.setCells g o (vs.map enc)) (some g) := by
  induction vs with
  | nil => exact fun W o cur h => ⟨cur, h, rfl, rfl, ⟨rfl, rfl, rfl, Nat.le_refl _, fun _ _ _ => rfl⟩⟩
  | cons v vs ih =>
    intro W o cur h
    obtain ⟨h2, hg⟩ := Kd.R_putg h (o : Int) v
    rw [Int.toNat_natCast] at h2 hg
    obtain ⟨cur', h3, hl, ht, hg3⟩ := ih _ (o + 1) _ h2
    refine ⟨cur', h3, by rw [hl, List.length_set], ?_, ?_⟩
    · have e1 : cur'.take o = (cur'.take (o + 1)).take o := by rw [List.take_take, Nat.min_eq_left (by omega)]
      rw [e1, ht, List.take_take, Nat.min_eq_left (by omega), List.take_set_of_le (by omega)]
    · exact ⟨hg3.1.trans hg.1, hg3.2.trans hg.2, hg3.3.trans hg.3, Nat.le_trans hg.4 hg3.4, fun i hi hne => (hg3.5 i (Nat.lt_of_lt_of_le hi hg.4) hne).trans (hg.5 i hi hne)⟩
theorem R_clear {W : World} (h : (Kd.scalar enc h1).R e W base ok (.slice (some ⟨g, 0, none⟩) n cap) cur) (i m : Nat) (hi : i ≤ cur.length) (z : α) :
    (Kd.scalar enc h1).R e (W.setCells g i (List.replicate m (enc z))) base ok (.slice (some ⟨g, 0, none⟩) i cap) (cur.take i) ∧ W.grownBy (W.setCells g i (List.replicate m (enc z))) (some g) := by
  obtain ⟨cur', h2, hl, ht, hg⟩ := R_cells (List.replicate m z) W i cur h
  rw [List.map_replicate] at h2 hg
  have hn : n = cur'.length := (Kd.R_reads' h2).1
  subst hn
  have h3 := Kd.R_take h2 (m := i) (by omega)
  rw [ht] at h3
  exact ⟨h3, hg⟩
end
theorem I_cells {I : World → Prop} {gb : Nat} (h : ∀ (W : World) (i : Nat) (v : Value), I W → I (W.setCell ⟨gb, i, none⟩ v)) : ∀ (vs : List Value) (o : Nat) (W : World), I W → I (W.setCells gb o vs)
  | [], _, _, hw => hw
  | v :: vs, o, W, hw => I_cells h vs (o + 1) _ (h W o v hw)
theorem keep_grown {w w1 w2 : World} {g : Nat} (h : KeepBut w w1 g none) (hg : w1.grownBy w2 (some g)) : KeepBut w w2 g none :=
  ⟨Nat.le_trans h.1 hg.size, fun i hi hne hn => (hg.block i (Nat.lt_of_lt_of_le hi h.1) (fun e => hne (Option.some.inj e))).trans (h.2 i hi hne hn)⟩
end Go.Proofs.YtolhlackfphdcaaDoor.Fil
