/- Plain facts that several claims use: decimal numerals as byte strings. No program in sight. -/
import Derived.Laws.BytesArg
import Derived.Lib.ItoaNum
import Derived.RowKit
import Derived.Test.YtolhlackfphdcaaDoorWMore
namespace Go.Proofs.YtolhlackfphdcaaDoor.Base
open Go.RowKit Go.Proofs.YtolhlackfphdcaaDoorW.PrintWords Go.Proofs.YtolhlackfphdcaaDoorW.PrintLast Go.Proofs.YtolhlackfphdcaaDoorW.PrintMore

def decS (n : Int) : ByteArray := ⟨(Go.Lib.decDigits n.toNat).toArray⟩

theorem decS_small {n : Int} (h0 : 0 ≤ n) (h : n < 10) : decS n = strOfNums [(wrap64 (48 + (Int.tmod n 10))) % 256] := by
  obtain ⟨m, rfl⟩ := Int.eq_ofNat_of_zero_le h0
  have e : Int.tmod (m : Int) 10 = (m : Int) := by rw [Int.tmod_eq_emod_of_nonneg h0]; omega
  have e2 : wrap64 (48 + (m : Int)) = 48 + (m : Int) := by unfold wrap64; omega
  rw [e, e2]
  unfold decS
  rw [Int.toNat_natCast, Go.Lib.decDigits_one (by omega)]
  have q : ((48 + (m : Int)) % 256).toNat = 48 + m := by omega
  unfold strOfNums
  simp only [List.map_cons, List.map_nil, q]

theorem decS_big {n : Int} (h : 10 ≤ n) (h1 : n ≤ 9223372036854775807) : decS n = decS (Int.tdiv n 10) ++ strOfNums [(wrap64 (48 + (Int.tmod n 10))) % 256] := by
  obtain ⟨m, rfl⟩ := Int.eq_ofNat_of_zero_le (show 0 ≤ n by omega)
  have e : Int.tmod (m : Int) 10 = ((m % 10 : Nat) : Int) := by rw [Int.tmod_eq_emod_of_nonneg (by omega)]; omega
  have e2 : wrap64 (48 + ((m % 10 : Nat) : Int)) = 48 + ((m % 10 : Nat) : Int) := by unfold wrap64; omega
  have e3 : Int.tdiv (m : Int) 10 = ((m / 10 : Nat) : Int) := by rw [Int.tdiv_eq_ediv_of_nonneg (by omega)]; omega
  rw [e, e2, e3]
  unfold decS
  rw [Int.toNat_natCast, Int.toNat_natCast, Go.Lib.decDigits, dif_neg (by omega)]
  have q : ((48 + ((m % 10 : Nat) : Int)) % 256).toNat = 48 + m % 10 := by omega
  unfold strOfNums
  simp only [List.map_cons, List.map_nil, q]
  rw [ByteArray.mk_append_mk]

theorem decS_size (k : Nat) : ∀ n : Int, 0 ≤ n → n < (10 : Int) ^ (k + 1) → (decS n).size ≤ k + 1 := by
  induction k with
  | zero => intro n h0 h; rw [decS_small h0 (by simpa using h), strOfNums_size]; simp
  | succ k ih =>
    intro n h0 h
    by_cases h10 : n < 10
    · rw [decS_small h0 h10, strOfNums_size]; simp
    · obtain ⟨m, rfl⟩ := Int.eq_ofNat_of_zero_le h0
      unfold decS
      rw [Int.toNat_natCast, Go.Lib.decDigits, dif_neg (by omega)]
      have := ih ((m / 10 : Nat) : Int) (by omega) (by rw [Int.pow_succ] at h; omega)
      unfold decS at this
      rw [Int.toNat_natCast] at this
      simp only [ByteArray.size, List.size_toArray, List.length_append, List.length_cons, List.length_nil] at this ⊢
      omega

/-- The words of acts, by their numbers. -/
def wordOf (c : Int) : ByteArray := if c = 0 then ⟨#[108, 101, 110, 100]⟩ else if c = 1 then ⟨#[114, 101, 116, 117, 114, 110]⟩ else if c = 2 then ⟨#[97, 115, 107]⟩ else if c = 3 then ⟨#[114, 101, 110, 101, 119]⟩ else if c = 4 then ⟨#[100, 114, 111, 112]⟩ else ⟨#[100, 97, 121]⟩
/-- The text of an act. -/
def textOf (a b c : Int) : Option ByteArray := if a = 5 then some ⟨#[100, 97, 121]⟩ else if 0 ≤ a ∧ a ≤ 4 ∧ 0 ≤ b ∧ b < 100 ∧ 0 ≤ c ∧ c < 100 then some (wordOf a ++ ⟨#[32]⟩ ++ decS b ++ ⟨#[32]⟩ ++ decS c) else none
theorem wordOf_size {a : Int} (h0 : 0 ≤ a) (h : a ≤ 4) : (wordOf a).size ≤ 6 := by
  have ha' : a = 0 ∨ a = 1 ∨ a = 2 ∨ a = 3 ∨ a = 4 := by omega
  rcases ha' with rfl | rfl | rfl | rfl | rfl <;> decide
/-- Is an act as told? -/
def actB (a b c : Int) : Bool := decide ((a = 5 ∧ b = 0 ∧ c = 0) ∨ (0 ≤ a ∧ a ≤ 4 ∧ 0 ≤ b ∧ b ≤ 49 ∧ 0 ≤ c ∧ c ≤ 59))
theorem textOf_some {a b c : Int} (h : actB a b c = true) : ∃ t, textOf a b c = some t := by
  unfold actB at h
  have h := of_decide_eq_true h
  unfold textOf
  by_cases h5 : a = 5
  · rw [if_pos h5]; exact ⟨_, rfl⟩
  · rw [if_neg h5, if_pos (by omega)]; exact ⟨_, rfl⟩
end Go.Proofs.YtolhlackfphdcaaDoor.Base
