/- The program's NearLabels answers as the reference's, for every text; what it hands back is memory of its own. Condition: the listed tables hold what the program's text lays (tied). The part without the card: what comes in is readable, and the printed law is true of it. -/
import Derived.Test.YtolhlackfphdcaaDoorPNeax
import Derived.Test.YtolhlackfphdcaaDoorOpen
import Derived.Test.YtolhlackfphdcaaDoorLoop
import Derived.Test.YtolhlackfphdcaaDoorSrt
import Derived.Stop.LaidErr
import Derived.Lib.LaidTab
import Derived.MakeChecks
import Derived.Lib.Bytes
import Derived.ProofKit
import Derived.OpenShut
namespace Go.Proofs.YtolhlackfphdcaaDoor.fnExactNearLabels
open Go.ChangeShapes Go.WideShapes Go.ChangeAt Go.RowKit
set_option linter.unusedVariables false
set_option linter.unusedSimpArgs false
open Go.Proofs.YtolhlackfphdcaaDoor.PNea Go.Proofs.YtolhlackfphdcaaDoor.Base Go.Proofs.YtolhlackfphdcaaDoor.Gen Go.Proofs.YtolhlackfphdcaaDoor.Loop Go.Proofs.YtolhlackfphdcaaDoor.Open
open Go.Proofs.YtolhlackfphdcaaDoor.Srt
open Go.Proofs.YtolhlackfphdcaaDoorW.PrintWords Go.Proofs.YtolhlackfphdcaaDoorW.PrintLast Go.Proofs.YtolhlackfphdcaaDoorW.PrintMore
theorem w64_id {z : Int} (h0 : -9223372036854775808 ≤ z) (h1 : z ≤ 9223372036854775807) : wrap64 z = z := by unfold wrap64; omega
theorem nums_append (xs ys : List Int) : strOfNums xs ++ strOfNums ys = strOfNums (xs ++ ys) := by
  unfold strOfNums
  rw [ByteArray.mk_append_mk]
  simp
theorem tm10 {c : Int} (h : 0 ≤ c) : Int.tmod c 10 = c % 10 := Int.tmod_eq_emod_of_nonneg h
theorem td10 {c : Int} (h : 0 ≤ c) : Int.tdiv c 10 = c / 10 := Int.tdiv_eq_ediv_of_nonneg h
theorem last {c : Int} (h : 0 ≤ c) : (wrap64 (48 + (Int.tmod c 10))) % 256 = 48 + c % 10 := by
  rw [tm10 h, w64_id (by omega) (by omega)]; omega
theorem dec1 {c : Int} (h0 : 0 ≤ c) (h1 : c < 10) : decS c = strOfNums [48 + c % 10] := by
  rw [decS_small h0 h1, last h0]
theorem dec2 {c : Int} (h0 : 10 ≤ c) (h1 : c < 100) : decS c = strOfNums [48 + c / 10 % 10, 48 + c % 10] := by
  rw [decS_big h0 (by omega), td10 (by omega), dec1 (by omega) (by omega), last (by omega), nums_append]; rfl
theorem dec3 {c : Int} (h0 : 100 ≤ c) (h1 : c < 1000) : decS c = strOfNums [48 + c / 100, 48 + c / 10 % 10, 48 + c % 10] := by
  rw [decS_big (by omega) (by omega), td10 (by omega), dec2 (by omega) (by omega), last (by omega), nums_append]
  rw [show c / 10 / 10 % 10 = c / 100 by omega]; rfl
theorem rep (n : Int) (h0 : 0 ≤ n) (h1 : n ≤ 1000) : strings_Repeat.f (⟨#[48]⟩ : ByteArray) n = some ⟨(Go.Lib.repeatL [48] n.toNat).toArray⟩ := by
  unfold strings_Repeat.f
  rw [if_pos h0, if_pos h1, if_pos (by decide)]
theorem pad_of {c n : Int} {xs : List Int} (h0 : 0 ≤ c) (h1 : c ≤ 32767) (hd : decS c = strOfNums xs) (hn : n - xs.length = 0 ∨ n - xs.length = 1 ∨ n - xs.length = 2) (hl : xs.length ≤ 3) :
    impl_padded.f c n = some (strOfNums (List.replicate (n - xs.length).toNat 48 ++ xs)) := by
  unfold impl_padded.f impl_dec_int16.f
  rw [if_pos h0, if_pos h1]
  simp only [Option.bind_some]
  rw [hd, strOfNums_size, w64_id (by omega) (by omega), rep _ (by omega) (by omega)]
  simp only [Option.bind_some]
  have e : (⟨(Go.Lib.repeatL [48] (n - (xs.length : Int)).toNat).toArray⟩ : ByteArray) = strOfNums (List.replicate (n - (xs.length : Int)).toNat 48) := by
    rcases hn with h | h | h <;> rw [h] <;> rfl
  rw [e, if_pos (by rw [strOfNums_size]; simp; omega), nums_append]
theorem impl3 {c : Int} (h0 : 0 ≤ c) (h1 : c < 1000) : impl_padded.f c 3 = some (strOfNums [48 + c / 100, 48 + c / 10 % 10, 48 + c % 10]) := by
  by_cases a : c < 10
  · rw [pad_of h0 (by omega) (dec1 h0 a) (by simp) (by simp), show c / 100 = 0 by omega, show c / 10 % 10 = 0 by omega]; rfl
  · by_cases b : c < 100
    · rw [pad_of h0 (by omega) (dec2 (by omega) b) (by simp) (by simp), show c / 100 = 0 by omega]; rfl
    · rw [pad_of h0 (by omega) (dec3 (by omega) h1) (by simp) (by simp)]; rfl
theorem impl2 {c : Int} (h0 : 0 ≤ c) (h1 : c < 100) : impl_padded.f c 2 = some (strOfNums [48 + c / 10 % 10, 48 + c % 10]) := by
  by_cases a : c < 10
  · rw [pad_of h0 (by omega) (dec1 h0 a) (by simp) (by simp), show c / 10 % 10 = 0 by omega]; rfl
  · rw [pad_of h0 (by omega) (dec2 (by omega) h1) (by simp) (by simp)]; rfl
set_option maxRecDepth 100000 in
theorem value_all : ∀ n : Fin 256, impl_valueOf.f (n.val : Int) = some (spec_l07Check.val (n.val : Int)) := by decide +kernel
theorem value_is (b : Int) (h0 : 0 ≤ b) (h1 : b ≤ 255) : impl_valueOf.f b = some (spec_l07Check.val b) := by
  have := value_all ⟨b.toNat, by omega⟩
  rw [show ((b.toNat : Nat) : Int) = b by omega] at this
  exact this
def ws : List Int := [1, 3, 7, 9, 1, 3, 7, 9]
theorem rd_ws (n : Nat) (h : n < 8) : rd ws (n : Int) = spec_l07Check.wt n := by
  have h8 : n = 0 ∨ n = 1 ∨ n = 2 ∨ n = 3 ∨ n = 4 ∨ n = 5 ∨ n = 6 ∨ n = 7 := by omega
  rcases h8 with rfl | rfl | rfl | rfl | rfl | rfl | rfl | rfl <;> rfl
theorem c_step (k n : Nat) (t : ByteArray) (hn : n < 8) (ht : 8 ≤ t.size) : impl_checked.l0 (k + 1) t (spec_l07Check.sum t n) ws 8 (n : Int) = impl_checked.l0 k t (spec_l07Check.sum t (n + 1)) ws 8 ((n + 1 : Nat) : Int) := by
  have hl : ((ws.length : Nat) : Int) = 8 := rfl
  simp only [impl_checked.l0]
  rw [if_pos (by omega), if_pos (by omega), if_pos (by rw [hl]; omega), if_pos (by omega), value_is _ (bt_range t n).1 (bt_range t n).2]
  simp only [Option.bind_some]
  rw [rd_ws n hn, Int.mul_comm, show wrap64 ((n : Int) + 1) = ((n + 1 : Nat) : Int) by rw [w64_id (by omega) (by omega)]; omega]
  rfl
theorem sum_bounds (t : ByteArray) (hv : ∀ i : Nat, i < 8 → 0 ≤ spec_l07Check.val (bt t i) ∧ spec_l07Check.val (bt t i) ≤ 35) : ∀ n : Nat, n ≤ 8 → 0 ≤ spec_l07Check.sum t n ∧ spec_l07Check.sum t n ≤ 315 * n := by
  intro n
  induction n with
  | zero => intro _; exact ⟨Int.le_refl _, Int.le_refl _⟩
  | succ n ih =>
    intro h
    obtain ⟨a, b⟩ := ih (by omega)
    obtain ⟨c, d⟩ := hv n (by omega)
    have hw : spec_l07Check.wt n = 1 ∨ spec_l07Check.wt n = 3 ∨ spec_l07Check.wt n = 7 ∨ spec_l07Check.wt n = 9 := by unfold spec_l07Check.wt; split <;> simp
    simp only [spec_l07Check.sum]
    generalize spec_l07Check.val (bt t n) = v at *
    rcases hw with h | h | h | h <;> rw [h, w64_id (z := v * _) (by omega) (by omega), w64_id (by omega) (by omega)] <;> omega
theorem check_is (t : ByteArray) (ht : t.size = 8) (hv : ∀ i : Nat, i < 8 → 0 ≤ spec_l07Check.val (bt t i) ∧ spec_l07Check.val (bt t i) ≤ 35) :
    ∃ ck, spec_l07Check.f t = some ck ∧ impl_checked.f 12 t = some (t ++ strOfNums [ck]) := by
  obtain ⟨b0, b1⟩ := sum_bounds t hv 8 (by omega)
  refine ⟨_, by unfold spec_l07Check.f; rw [if_pos (by omega)], ?_⟩
  unfold impl_checked.f impl_weights.f
  simp only [Option.bind_some]
  have e : impl_checked.l0 12 t 0 [1, 3, 7, 9, 1, 3, 7, 9] ((([1, 3, 7, 9, 1, 3, 7, 9] : List Int).length : Nat) : Int) 0 = impl_checked.l0 4 t (spec_l07Check.sum t 8) ws 8 ((8 : Nat) : Int) := by
    show impl_checked.l0 (11 + 1) t (spec_l07Check.sum t 0) ws 8 ((0 : Nat) : Int) = _
    rw [c_step 11 0 t (by omega) (by omega), c_step 10 1 t (by omega) (by omega), c_step 9 2 t (by omega) (by omega), c_step 8 3 t (by omega) (by omega), c_step 7 4 t (by omega) (by omega), c_step 6 5 t (by omega) (by omega), c_step 5 6 t (by omega) (by omega), c_step 4 7 t (by omega) (by omega)]
  rw [e]
  show impl_checked.l0 (3 + 1) _ _ _ _ _ = _
  simp only [impl_checked.l0]
  rw [if_neg (by omega)]
  unfold impl_dec_int.f
  rw [tm10 b0, if_pos (by omega), if_pos (by omega)]
  simp only [Option.bind_some]
  rw [dec1 (by omega) (by omega), if_pos (by rw [strOfNums_size]; simp; omega)]
  congr 3
  rw [w64_id (by omega) (by omega), IntKind.wrap_u8]
  congr 1
  omega
theorem bt_nums (xs : List Int) (i : Nat) (x : Int) (hx : xs[i]? = some x) (h0 : 0 ≤ x) (h1 : x ≤ 255) : bt (strOfNums xs) (i : Int) = x := by
  have hl := (List.getElem?_eq_some_iff.1 hx)
  obtain ⟨hl, he⟩ := hl
  unfold bt
  rw [Int.toNat_natCast, dif_pos (by rw [strOfNums_size]; exact hl)]
  have e : (strOfNums xs)[i]'(by rw [strOfNums_size]; exact hl) = UInt8.ofNat x.toNat := by
    show (strOfNums xs).data[i]'_ = _
    unfold strOfNums
    simp [he]
  rw [e]
  simp
  omega
theorem val_dig {x : Int} (h : 0 ≤ x) (h1 : x < 10) : 0 ≤ spec_l07Check.val (48 + x) ∧ spec_l07Check.val (48 + x) ≤ 35 := by
  unfold spec_l07Check.val
  rw [if_pos (by omega)]; omega
theorem val_let {x : Int} (h : 97 ≤ x) (h1 : x ≤ 122) : 0 ≤ spec_l07Check.val x ∧ spec_l07Check.val x ≤ 35 := by
  unfold spec_l07Check.val
  rw [if_neg (by omega), if_pos (by omega)]; omega
/-! ### texts of nine bytes -/
theorem nums9 (t : ByteArray) (h : t.size = 9) : ∃ x0 x1 x2 x3 x4 x5 x6 x7 x8 : Int, t = strOfNums [x0, x1, x2, x3, x4, x5, x6, x7, x8] ∧ (0 ≤ x0 ∧ x0 ≤ 255) ∧ (0 ≤ x1 ∧ x1 ≤ 255) ∧ (0 ≤ x2 ∧ x2 ≤ 255) ∧ (0 ≤ x3 ∧ x3 ≤ 255) ∧ (0 ≤ x4 ∧ x4 ≤ 255) ∧ (0 ≤ x5 ∧ x5 ≤ 255) ∧ (0 ≤ x6 ∧ x6 ≤ 255) ∧ (0 ≤ x7 ∧ x7 ≤ 255) ∧ (0 ≤ x8 ∧ x8 ≤ 255) := by
  obtain ⟨⟨l⟩⟩ := t
  match l, h with
  | [b0, b1, b2, b3, b4, b5, b6, b7, b8], _ =>
    have q (b : UInt8) : (0 ≤ (b.toNat : Int) ∧ (b.toNat : Int) ≤ 255) := by have := b.toNat_lt; omega
    refine ⟨b0.toNat, b1.toNat, b2.toNat, b3.toNat, b4.toNat, b5.toNat, b6.toNat, b7.toNat, b8.toNat, ?_, q _, q _, q _, q _, q _, q _, q _, q _, q _⟩
    unfold strOfNums
    simp
theorem nums_eq {xs ys : List Int} (hx : ∀ x ∈ xs, 0 ≤ x ∧ x ≤ 255) (hy : ∀ y ∈ ys, 0 ≤ y ∧ y ≤ 255) : ((strOfNums xs).toList = (strOfNums ys).toList) ↔ xs = ys := by
  rw [Go.Lib.strOfNums_toList, Go.Lib.strOfNums_toList]
  constructor
  · intro h
    unfold Go.Lib.bytesOf at h
    induction xs generalizing ys with
    | nil =>
      cases ys with
      | nil => rfl
      | cons y ys => simp at h
    | cons x xs ih =>
      cases ys with
      | nil => simp at h
      | cons y ys =>
        simp only [List.map_cons, List.cons.injEq] at h
        obtain ⟨h1, h2⟩ := h
        have a := hx x (by simp)
        have b := hy y (by simp)
        have e := congrArg UInt8.toNat h1
        simp at e
        rw [ih (fun z hz => hx z (by simp [hz])) (fun z hz => hy z (by simp [hz])) h2, show x = y by omega]
  · intro h; rw [h]
theorem ext_nums (xs : List Int) (i j : Nat) : (strOfNums xs).extract i j = strOfNums ((xs.take j).drop i) := by
  apply ByteArray.ext
  rw [ByteArray.data_extract]
  unfold strOfNums
  simp [List.extract_eq_take_drop, List.map_take, List.map_drop, List.drop_take]
/-! ### strconv.Atoi of a few bytes -/
theorem decNat_lt {l : List UInt8} {n : Nat} (h : Lib.decNat l = some n) : n < 10 ^ l.length := by
  unfold Lib.decNat at h
  split at h
  · cases h
  · have := Lib.decFrom_lt _ _ _ h
    simpa using this
theorem atoi_le {l : List UInt8} {n : Int} (h : Lib.atoi l = some n) : n < 10 ^ l.length := by
  cases l with
  | nil => simp [Lib.atoi] at h
  | cons b r =>
    have p : (10 : Nat) ^ r.length ≤ 10 ^ (b :: r).length := Nat.pow_le_pow_right (by omega) (by simp)
    have p1 : (1 : Nat) ≤ 10 ^ (b :: r).length := Nat.one_le_pow _ _ (by omega)
    have c : ((10 ^ (b :: r).length : Nat) : Int) = (10 : Int) ^ (b :: r).length := by push_cast; rfl
    rw [← c]
    simp only [Lib.atoi] at h
    split at h
    · obtain ⟨m, hm, rfl⟩ := Option.map_eq_some_iff.1 h
      omega
    · split at h
      · obtain ⟨m, hm, rfl⟩ := Option.map_eq_some_iff.1 h
        have := decNat_lt hm
        omega
      · obtain ⟨m, hm, rfl⟩ := Option.map_eq_some_iff.1 h
        have := decNat_lt hm
        omega
theorem atoiV_le (xs : List Int) (k : Nat) (hk : xs.length = k) : impl_isLabel.atoiV (strOfNums xs) < 10 ^ k := by
  unfold impl_isLabel.atoiV
  have hl : (strOfNums xs).data.toList.length = k := by rw [strOfNums_data]; simpa using hk
  cases h : Lib.atoi (strOfNums xs).data.toList with
  | none => exact Int.lt_of_lt_of_le (by decide : (0 : Int) < 1) (by have : (1 : Nat) ≤ 10 ^ k := Nat.one_le_pow _ _ (by omega); exact_mod_cast this)
  | some n => have := atoi_le h; rw [hl] at this; exact this
theorem dv {x : Int} (h0 : 48 ≤ x) (h1 : x ≤ 57) : Lib.digitVal (UInt8.ofNat x.toNat) = some (x.toNat - 48) := by
  unfold Lib.digitVal
  have e : (UInt8.ofNat x.toNat).toNat = x.toNat := by simp; omega
  rw [e, if_pos (by omega)]
theorem nsign {x : Int} (h0 : 48 ≤ x) (h1 : x ≤ 57) : (UInt8.ofNat x.toNat == 45) = false ∧ (UInt8.ofNat x.toNat == 43) = false := by
  have e : (UInt8.ofNat x.toNat).toNat = x.toNat := by simp; omega
  constructor
  · rw [beq_eq_false_iff_ne]; intro h; rw [h] at e; simp at e; omega
  · rw [beq_eq_false_iff_ne]; intro h; rw [h] at e; simp at e; omega
theorem atoi3 {x y z : Int} (hx : 48 ≤ x ∧ x ≤ 57) (hy : 48 ≤ y ∧ y ≤ 57) (hz : 48 ≤ z ∧ z ≤ 57) : impl_isLabel.atoiV (strOfNums [x, y, z]) = 100 * (x - 48) + 10 * (y - 48) + (z - 48) := by
  unfold impl_isLabel.atoiV
  rw [strOfNums_data]
  simp only [List.map_cons, List.map_nil, Lib.atoi, (nsign hx.1 hx.2).1, (nsign hx.1 hx.2).2, Lib.decNat, List.isEmpty_cons, Lib.decFrom, dv hx.1 hx.2, dv hy.1 hy.2, dv hz.1 hz.2, Bool.false_eq_true, if_false, Option.map_some, Option.getD_some]
  omega
theorem atoi2 {x y : Int} (hx : 48 ≤ x ∧ x ≤ 57) (hy : 48 ≤ y ∧ y ≤ 57) : impl_isLabel.atoiV (strOfNums [x, y]) = 10 * (x - 48) + (y - 48) := by
  unfold impl_isLabel.atoiV
  rw [strOfNums_data]
  simp only [List.map_cons, List.map_nil, Lib.atoi, (nsign hx.1 hx.2).1, (nsign hx.1 hx.2).2, Lib.decNat, List.isEmpty_cons, Lib.decFrom, dv hx.1 hx.2, dv hy.1 hy.2, Bool.false_eq_true, if_false, Option.map_some, Option.getD_some]
  omega
/-! ### the reference's loop -/
def good (i : Int) (x : Int) : Bool := if 3 ≤ i ∧ i < 6 then impl_isLabel.sm x else decide (48 ≤ x ∧ x ≤ 57)
theorem valK (k : Nat) (b : Int) (h0 : 0 ≤ b) (h1 : b ≤ 255) : spec_l07Value.f (k + 3) b = some (spec_l07Check.val b) := by
  unfold spec_l07Value.f spec_l07Check.val
  by_cases c0 : 48 ≤ b <;> by_cases c1 : b ≤ 57 <;> by_cases c2 : 97 ≤ b <;> by_cases c3 : b ≤ 122
  all_goals first
    | (exfalso; omega)
    | (simp [spec_l07Value.j0, c0, c1, c2, c3, ge_iff_le, IntKind.wrap_u8, wrap64]; done)
    | (simp [spec_l07Value.j0, c0, c1, c2, c3, ge_iff_le, IntKind.wrap_u8, wrap64]; omega)
theorem is_step (k : Nat) (t : ByteArray) (i : Int) (h0 : 0 ≤ i) (h9 : i < 9) (hs : t.size = 9) : spec_l07Is.l0 (k + 4) t i = if good i (bt t i) = true then spec_l07Is.l0 (k + 3) t (i + 1) else some false := by
  have hb := bt_range t i
  simp only [spec_l07Is.l0]
  rw [valK k _ hb.1 hb.2, show wrap64 (i + 1) = i + 1 from w64_id (by omega) (by omega), if_pos h9]
  simp only [Option.bind_some]
  unfold good impl_isLabel.sm spec_l07Check.val
  generalize bt t i = x at *
  by_cases a : 3 ≤ i <;> by_cases b : i < 6 <;> by_cases c0 : 48 ≤ x <;> by_cases c1 : x ≤ 57 <;> by_cases c2 : 97 ≤ x <;> by_cases c3 : x ≤ 122
  all_goals first
    | (exfalso; omega)
    | (simp [a, b, c0, c1, c2, c3, ge_iff_le, h0, hs, h9]; done)
    | (simp [a, b, c0, c1, c2, c3, ge_iff_le, h0, hs, h9]; omega)
theorem is_end (k : Nat) (t : ByteArray) (hs : t.size = 9) : spec_l07Is.l0 (k + 1) t 9 = if (t.extract 6 8).toList = ([48, 48] : List UInt8) then some false else (spec_l07Check.f t).bind fun c => some (bt t 8 == c) := by
  simp only [spec_l07Is.l0]
  rw [if_neg (by omega), if_pos (by omega), if_pos (by omega)]
  by_cases h : (t.extract 6 8).toList = ([48, 48] : List UInt8)
  · rw [if_pos h, if_pos h]
  · rw [if_neg h, if_neg h, if_pos (by omega)]
theorem sum_congr (t u : ByteArray) : ∀ n : Nat, (∀ i : Nat, i < n → bt t i = bt u i) → spec_l07Check.sum t n = spec_l07Check.sum u n := by
  intro n
  induction n with
  | zero => intro _; rfl
  | succ n ih =>
    intro h
    simp only [spec_l07Check.sum]
    rw [ih (fun i hi => h i (by omega)), h n (by omega)]
theorem check_congr (t u : ByteArray) (ht : 8 ≤ t.size) (hu : 8 ≤ u.size) (h : ∀ i : Nat, i < 8 → bt t i = bt u i) : spec_l07Check.f t = spec_l07Check.f u := by
  unfold spec_l07Check.f
  rw [if_pos ht, if_pos hu, sum_congr t u 8 h]
theorem check_range {t : ByteArray} {c : Int} (h : spec_l07Check.f t = some c) : 0 ≤ c ∧ c ≤ 255 := by
  unfold spec_l07Check.f at h
  split at h
  · have := Option.some.inj h
    rw [IntKind.wrap_u8] at this
    omega
  · cases h
theorem check_digit {t : ByteArray} {c : Int} (h : spec_l07Check.f t = some c) (ht : t.size = 8) (hv : ∀ i : Nat, i < 8 → 0 ≤ spec_l07Check.val (bt t i) ∧ spec_l07Check.val (bt t i) ≤ 35) : 48 ≤ c ∧ c ≤ 57 := by
  obtain ⟨b0, b1⟩ := sum_bounds t hv 8 (by omega)
  unfold spec_l07Check.f at h
  rw [if_pos (by omega)] at h
  have := Option.some.inj h
  rw [tm10 b0, w64_id (by omega) (by omega), IntKind.wrap_u8] at this
  omega
def pre (c m0 m1 m2 v : Int) : List Int := [48 + c / 100, 48 + c / 10 % 10, 48 + c % 10, m0, m1, m2, 48 + v / 10 % 10, 48 + v % 10]
theorem lab {c m0 m1 m2 v : Int} (c0 : 0 ≤ c) (c1 : c < 1000) (ma : 97 ≤ m0 ∧ m0 ≤ 122) (mb : 97 ≤ m1 ∧ m1 ≤ 122) (mc : 97 ≤ m2 ∧ m2 ≤ 122) (v0 : 0 ≤ v) (v1 : v < 100) :
    ∃ ck, spec_l07Check.f (strOfNums (pre c m0 m1 m2 v)) = some ck ∧ impl_labelOf.f c m0 m1 m2 v 0 0 0 = some (strOfNums (pre c m0 m1 m2 v ++ [ck])) ∧ 48 ≤ ck ∧ ck ≤ 57 := by
  have hv : ∀ i : Nat, i < 8 → 0 ≤ spec_l07Check.val (bt (strOfNums (pre c m0 m1 m2 v)) i) ∧ spec_l07Check.val (bt (strOfNums (pre c m0 m1 m2 v)) i) ≤ 35 := by
    intro i hi
    have h8 : i = 0 ∨ i = 1 ∨ i = 2 ∨ i = 3 ∨ i = 4 ∨ i = 5 ∨ i = 6 ∨ i = 7 := by omega
    rcases h8 with rfl | rfl | rfl | rfl | rfl | rfl | rfl | rfl
    · rw [bt_nums _ 0 (48 + c / 100) rfl (by omega) (by omega)]; exact val_dig (by omega) (by omega)
    · rw [bt_nums _ 1 (48 + c / 10 % 10) rfl (by omega) (by omega)]; exact val_dig (by omega) (by omega)
    · rw [bt_nums _ 2 (48 + c % 10) rfl (by omega) (by omega)]; exact val_dig (by omega) (by omega)
    · rw [bt_nums _ 3 m0 rfl (by omega) (by omega)]; exact val_let ma.1 ma.2
    · rw [bt_nums _ 4 m1 rfl (by omega) (by omega)]; exact val_let mb.1 mb.2
    · rw [bt_nums _ 5 m2 rfl (by omega) (by omega)]; exact val_let mc.1 mc.2
    · rw [bt_nums _ 6 (48 + v / 10 % 10) rfl (by omega) (by omega)]; exact val_dig (by omega) (by omega)
    · rw [bt_nums _ 7 (48 + v % 10) rfl (by omega) (by omega)]; exact val_dig (by omega) (by omega)
  obtain ⟨ck, e1, e2⟩ := check_is (strOfNums (pre c m0 m1 m2 v)) (by rw [strOfNums_size]; rfl) hv
  refine ⟨ck, e1, ?_, check_digit e1 (by rw [strOfNums_size]; rfl) hv⟩
  unfold impl_labelOf.f
  rw [impl3 c0 c1, impl2 v0 v1]
  simp only [Option.bind_some]
  rw [if_pos (by rw [strOfNums_size]; rfl), if_pos (by rw [strOfNums_size]; rfl), nums_append, nums_append]
  show impl_checked.f 12 (strOfNums (pre c m0 m1 m2 v)) = _
  rw [e2, nums_append]
theorem both (t : ByteArray) : ∃ r, spec_l07Is.f 20 t = some r ∧ impl_isLabel.f t = some r := by
  by_cases hs' : ¬ t.size = 9
  · have hs := hs'
    exact ⟨false, by unfold spec_l07Is.f; rw [if_neg (by omega)], by unfold impl_isLabel.f; rw [if_neg hs]⟩
  have hs : t.size = 9 := by omega
  clear hs'
  obtain ⟨x0, x1, x2, x3, x4, x5, x6, x7, x8, rfl, r0, r1, r2, r3, r4, r5, r6, r7, r8⟩ := nums9 t hs
  have b0 : bt (strOfNums [x0, x1, x2, x3, x4, x5, x6, x7, x8]) 0 = x0 := bt_nums _ 0 x0 rfl r0.1 r0.2
  have b1 : bt (strOfNums [x0, x1, x2, x3, x4, x5, x6, x7, x8]) 1 = x1 := bt_nums _ 1 x1 rfl r1.1 r1.2
  have b2 : bt (strOfNums [x0, x1, x2, x3, x4, x5, x6, x7, x8]) 2 = x2 := bt_nums _ 2 x2 rfl r2.1 r2.2
  have b3 : bt (strOfNums [x0, x1, x2, x3, x4, x5, x6, x7, x8]) 3 = x3 := bt_nums _ 3 x3 rfl r3.1 r3.2
  have b4 : bt (strOfNums [x0, x1, x2, x3, x4, x5, x6, x7, x8]) 4 = x4 := bt_nums _ 4 x4 rfl r4.1 r4.2
  have b5 : bt (strOfNums [x0, x1, x2, x3, x4, x5, x6, x7, x8]) 5 = x5 := bt_nums _ 5 x5 rfl r5.1 r5.2
  have b6 : bt (strOfNums [x0, x1, x2, x3, x4, x5, x6, x7, x8]) 6 = x6 := bt_nums _ 6 x6 rfl r6.1 r6.2
  have b7 : bt (strOfNums [x0, x1, x2, x3, x4, x5, x6, x7, x8]) 7 = x7 := bt_nums _ 7 x7 rfl r7.1 r7.2
  have b8 : bt (strOfNums [x0, x1, x2, x3, x4, x5, x6, x7, x8]) 8 = x8 := bt_nums _ 8 x8 rfl r8.1 r8.2
  have e03 : (strOfNums [x0, x1, x2, x3, x4, x5, x6, x7, x8]).extract 0 3 = strOfNums [x0, x1, x2] := ext_nums _ 0 3
  have e68 : (strOfNums [x0, x1, x2, x3, x4, x5, x6, x7, x8]).extract 6 8 = strOfNums [x6, x7] := ext_nums _ 6 8
  have n1 : impl_isLabel.atoiV (strOfNums [x0, x1, x2]) < 1000 := atoiV_le [x0, x1, x2] 3 rfl
  have n2 : impl_isLabel.atoiV (strOfNums [x6, x7]) < 100 := atoiV_le [x6, x7] 2 rfl
  -- the reference
  have hck : spec_l07Check.f (strOfNums [x0, x1, x2, x3, x4, x5, x6, x7, x8]) = spec_l07Check.f (strOfNums [x0, x1, x2, x3, x4, x5, x6, x7]) := by
    refine check_congr _ _ (by omega) (by rw [strOfNums_size]; simp) (fun i hi => ?_)
    have h8 : i = 0 ∨ i = 1 ∨ i = 2 ∨ i = 3 ∨ i = 4 ∨ i = 5 ∨ i = 6 ∨ i = 7 := by omega
    rcases h8 with rfl | rfl | rfl | rfl | rfl | rfl | rfl | rfl
    · exact b0.trans (bt_nums _ 0 x0 rfl r0.1 r0.2).symm
    · exact b1.trans (bt_nums _ 1 x1 rfl r1.1 r1.2).symm
    · exact b2.trans (bt_nums _ 2 x2 rfl r2.1 r2.2).symm
    · exact b3.trans (bt_nums _ 3 x3 rfl r3.1 r3.2).symm
    · exact b4.trans (bt_nums _ 4 x4 rfl r4.1 r4.2).symm
    · exact b5.trans (bt_nums _ 5 x5 rfl r5.1 r5.2).symm
    · exact b6.trans (bt_nums _ 6 x6 rfl r6.1 r6.2).symm
    · exact b7.trans (bt_nums _ 7 x7 rfl r7.1 r7.2).symm
  have zz : ((strOfNums [x6, x7]).toList = ([48, 48] : List UInt8)) ↔ (x6 = 48 ∧ x7 = 48) := by
    have := nums_eq (xs := [x6, x7]) (ys := [48, 48]) (by simp; omega) (by simp)
    rw [show ([48, 48] : List UInt8) = (strOfNums [48, 48]).toList by rw [Go.Lib.strOfNums_toList]; rfl, this]
    simp
  have G : spec_l07Is.f 20 (strOfNums [x0, x1, x2, x3, x4, x5, x6, x7, x8]) = if (good 0 x0 && good 1 x1 && good 2 x2 && good 3 x3 && good 4 x4 && good 5 x5 && good 6 x6 && good 7 x7 && good 8 x8) = true then (if x6 = 48 ∧ x7 = 48 then some false else (spec_l07Check.f (strOfNums [x0, x1, x2, x3, x4, x5, x6, x7])).bind fun c => some (x8 == c)) else some false := by
    unfold spec_l07Is.f
    rw [if_pos (by omega)]
    rw [is_step 16 _ 0 (by omega) (by omega) hs, b0]
    simp only [Int.reduceAdd, Nat.reduceAdd]
    rw [is_step 15 _ 1 (by omega) (by omega) hs, b1]
    simp only [Int.reduceAdd, Nat.reduceAdd]
    rw [is_step 14 _ 2 (by omega) (by omega) hs, b2]
    simp only [Int.reduceAdd, Nat.reduceAdd]
    rw [is_step 13 _ 3 (by omega) (by omega) hs, b3]
    simp only [Int.reduceAdd, Nat.reduceAdd]
    rw [is_step 12 _ 4 (by omega) (by omega) hs, b4]
    simp only [Int.reduceAdd, Nat.reduceAdd]
    rw [is_step 11 _ 5 (by omega) (by omega) hs, b5]
    simp only [Int.reduceAdd, Nat.reduceAdd]
    rw [is_step 10 _ 6 (by omega) (by omega) hs, b6]
    simp only [Int.reduceAdd, Nat.reduceAdd]
    rw [is_step 9 _ 7 (by omega) (by omega) hs, b7]
    simp only [Int.reduceAdd, Nat.reduceAdd]
    rw [is_step 8 _ 8 (by omega) (by omega) hs, b8]
    simp only [Int.reduceAdd, Nat.reduceAdd]
    rw [is_end 10 _ hs, b8, hck, e68]
    simp only [zz]
    cases good 0 x0 <;> cases good 1 x1 <;> cases good 2 x2 <;> cases good 3 x3 <;> cases good 4 x4 <;> cases good 5 x5 <;> cases good 6 x6 <;> cases good 7 x7 <;> cases good 8 x8 <;> simp
  rw [G]
  unfold impl_isLabel.f impl_isLabel.allv
  rw [if_pos hs, e03, e68, if_pos (show impl_isLabel.atoiV (strOfNums [x0, x1, x2]) ≤ 32767 by omega), if_pos (show impl_isLabel.atoiV (strOfNums [x6, x7]) ≤ 32767 by omega), b3, b4, b5]
  have gd (i x : Int) (hi : ¬ (3 ≤ i ∧ i < 6)) : good i x = decide (48 ≤ x ∧ x ≤ 57) := by unfold good; rw [if_neg hi]
  have gl (i x : Int) (hi : 3 ≤ i ∧ i < 6) : good i x = impl_isLabel.sm x := by unfold good; rw [if_pos hi]
  rw [gd 0 x0 (by omega), gd 1 x1 (by omega), gd 2 x2 (by omega), gl 3 x3 (by omega), gl 4 x4 (by omega), gl 5 x5 (by omega), gd 6 x6 (by omega), gd 7 x7 (by omega), gd 8 x8 (by omega)]
  unfold impl_isLabel.sm
  simp only [Bool.and_eq_true, decide_eq_true_eq]
  by_cases al' : ¬ ((97 ≤ x3 ∧ x3 ≤ 122) ∧ (97 ≤ x4 ∧ x4 ≤ 122) ∧ (97 ≤ x5 ∧ x5 ≤ 122))
  · rw [if_neg al']
    refine ⟨false, ?_, rfl⟩
    rw [if_neg (by omega)]
  have al := Decidable.not_not.1 al'
  rw [if_pos al]
  by_cases p2' : ¬ 0 < impl_isLabel.atoiV (strOfNums [x6, x7])
  · rw [if_neg p2']
    refine ⟨false, ?_, rfl⟩
    split
    · rename_i hg
      have := atoi2 (x := x6) (y := x7) (by omega) (by omega)
      rw [if_pos (by omega)]
    · rfl
  have p2 := Decidable.not_not.1 p2'
  rw [if_pos p2]
  obtain ⟨ck, k1, k2, kr⟩ := lab (c := max (impl_isLabel.atoiV (strOfNums [x0, x1, x2])) 0) (m0 := x3) (m1 := x4) (m2 := x5) (v := impl_isLabel.atoiV (strOfNums [x6, x7])) (by omega) (by omega) al.1 al.2.1 al.2.2 (by omega) (by omega)
  rw [k2]
  simp only [Option.bind_some]
  have ne := nums_eq (xs := pre (max (impl_isLabel.atoiV (strOfNums [x0, x1, x2])) 0) x3 x4 x5 (impl_isLabel.atoiV (strOfNums [x6, x7])) ++ [ck]) (ys := [x0, x1, x2, x3, x4, x5, x6, x7, x8]) (by simp [pre]; omega) (by simp; omega)
  refine ⟨_, ?_, rfl⟩
  by_cases E : pre (max (impl_isLabel.atoiV (strOfNums [x0, x1, x2])) 0) x3 x4 x5 (impl_isLabel.atoiV (strOfNums [x6, x7])) ++ [ck] = [x0, x1, x2, x3, x4, x5, x6, x7, x8]
  · have hb : ((strOfNums (pre (max (impl_isLabel.atoiV (strOfNums [x0, x1, x2])) 0) x3 x4 x5 (impl_isLabel.atoiV (strOfNums [x6, x7])) ++ [ck])).toList == (strOfNums [x0, x1, x2, x3, x4, x5, x6, x7, x8]).toList) = true := by rw [beq_iff_eq]; exact ne.2 E
    rw [hb]
    have E8 : pre (max (impl_isLabel.atoiV (strOfNums [x0, x1, x2])) 0) x3 x4 x5 (impl_isLabel.atoiV (strOfNums [x6, x7])) = [x0, x1, x2, x3, x4, x5, x6, x7] ∧ ck = x8 := by
      simp only [pre, List.cons_append, List.nil_append, List.cons.injEq, and_true, true_and] at E ⊢
      omega
    rw [E8.1, E8.2] at k1
    simp only [pre, List.cons_append, List.nil_append, List.cons.injEq, and_true, true_and] at E
    rw [if_pos (by omega), if_neg (by omega), k1]
    simp
  · have hb : ((strOfNums (pre (max (impl_isLabel.atoiV (strOfNums [x0, x1, x2])) 0) x3 x4 x5 (impl_isLabel.atoiV (strOfNums [x6, x7])) ++ [ck])).toList == (strOfNums [x0, x1, x2, x3, x4, x5, x6, x7, x8]).toList) = false := by rw [beq_eq_false_iff_ne]; intro h; exact E (ne.1 h)
    rw [hb]
    split
    · rename_i hg
      have a1 := atoi3 (x := x0) (y := x1) (z := x2) (by omega) (by omega) (by omega)
      have a2 := atoi2 (x := x6) (y := x7) (by omega) (by omega)
      rw [if_neg (by omega)]
      have e8 : pre (max (impl_isLabel.atoiV (strOfNums [x0, x1, x2])) 0) x3 x4 x5 (impl_isLabel.atoiV (strOfNums [x6, x7])) = [x0, x1, x2, x3, x4, x5, x6, x7] := by
        simp only [pre, List.cons.injEq, and_true, true_and]
        omega
      rw [e8] at k1 E
      rw [k1]
      simp only [Option.bind_some, Option.some.injEq, beq_eq_false_iff_ne]
      intro h
      exact E (by rw [h]; rfl)
    · rfl
/-! What is marked, and held: one text after the other. -/
theorem leo_up {α : Type} {g : Nat → Option α} (h : ∀ k, LeO (g k) (g (k + 1))) {a b : Nat} (hab : a ≤ b) {r : α} (hr : g a = some r) : g b = some r := by
  induction b with
  | zero => obtain rfl : a = 0 := by omega
            exact hr
  | succ b ih =>
    by_cases e : a = b + 1
    · subst e; exact hr
    · exact h b r (ih (by omega))
set_option maxRecDepth 100000 in
theorem mark_all : ∀ n : Fin 400, (laws_markText.f 8 (n.val : Int)).isSome = true := by decide +kernel
def mt (n : Int) : ByteArray := (laws_markText.f 8 n).getD ⟨#[]⟩
theorem mark_at {n : Int} (h0 : 0 ≤ n) (h1 : n < 400) {k : Nat} (hk : 8 ≤ k) : laws_markText.f k n = some (mt n) := by
  refine leo_up (g := fun k => laws_markText.f k n) (laws_markText.mono n) hk ?_
  have := mark_all ⟨n.toNat, by omega⟩
  rw [show (((⟨n.toNat, by omega⟩ : Fin 400).val : Nat) : Int) = n by simp; omega] at this
  obtain ⟨r, hr⟩ := Option.isSome_iff_exists.1 this
  unfold mt
  rw [hr]
  rfl
theorem mark_loop : ∀ (d i k : Nat) (xs : List ByteArray) (m : Int), i + d = xs.length → d + 9 ≤ k → 0 ≤ m → m + d < 400 → xs.length < 1000 → ∃ ys : List ByteArray, laws_markStringS.l0 k xs m i = some (m + d, ys) ∧ ys.length = xs.length ∧ ys.take i = xs.take i ∧ ∀ j : Nat, i ≤ j → j < xs.length → ys[j]? = some (mt (m + ((j - i : Nat) : Int)))
  | 0, i, k, xs, m, hi, hk, h0, h1, hl => by
    obtain ⟨k, rfl⟩ : ∃ k', k = k' + 1 := ⟨k - 1, by omega⟩
    refine ⟨xs, ?_, rfl, rfl, fun j h2 h3 => absurd h3 (by omega)⟩
    simp only [laws_markStringS.l0]
    rw [if_neg (by omega)]
    simp
  | d + 1, i, k, xs, m, hi, hk, h0, h1, hl => by
    obtain ⟨k, rfl⟩ : ∃ k', k = k' + 1 := ⟨k - 1, by omega⟩
    have hw1 : wrap64 (m + 1) = m + 1 := by unfold wrap64; omega
    have hw2 : wrap64 ((i : Int) + 1) = ((i + 1 : Nat) : Int) := by unfold wrap64; omega
    obtain ⟨ys, e1, e2, e3, e4⟩ := mark_loop d (i + 1) k (xs.set i (mt m)) (m + 1) (by rw [List.length_set]; omega) (by omega) (by omega) (by omega) (by rw [List.length_set]; omega)
    rw [List.length_set] at e2 e4
    refine ⟨ys, ?_, e2, ?_, fun j h2 h3 => ?_⟩
    · simp only [laws_markStringS.l0]
      rw [if_pos (by omega), mark_at h0 (by omega) (by omega)]
      simp only [Option.bind_some]
      rw [if_pos (by omega), hw1, hw2, Int.toNat_natCast, e1]
      simp only [Option.some.injEq, Prod.mk.injEq, and_true]
      omega
    · have : ys.take i = (ys.take (i + 1)).take i := by rw [List.take_take, Nat.min_eq_left (by omega)]
      rw [this, e3, List.take_take, Nat.min_eq_left (by omega), List.take_set_of_le (by omega)]
    · by_cases e : j = i
      · subst e
        have h5 : ys[j]? = (ys.take (j + 1))[j]? := by rw [List.getElem?_take, if_pos (by omega)]
        rw [h5, e3, List.getElem?_take, if_pos (by omega), List.getElem?_set_self (by omega)]
        simp
      · rw [e4 j (by omega) h3]
        congr 2
        omega
theorem held_loop : ∀ (d i k : Nat) (ys : List ByteArray) (m : Int), i + d = ys.length → d + 9 ≤ k → 0 ≤ m → m + d < 400 → ys.length < 1000 → (∀ j : Nat, i ≤ j → j < ys.length → ys[j]? = some (mt (m + ((j - i : Nat) : Int)))) → laws_heldStringS.l0 k ys m i = some (m + d)
  | 0, i, k, ys, m, hi, hk, h0, h1, hl, hy => by
    obtain ⟨k, rfl⟩ : ∃ k', k = k' + 1 := ⟨k - 1, by omega⟩
    simp only [laws_heldStringS.l0]
    rw [if_neg (by omega)]
    simp
  | d + 1, i, k, ys, m, hi, hk, h0, h1, hl, hy => by
    obtain ⟨k, rfl⟩ : ∃ k', k = k' + 1 := ⟨k - 1, by omega⟩
    have hw1 : wrap64 (m + 1) = m + 1 := by unfold wrap64; omega
    have hw2 : wrap64 ((i : Int) + 1) = ((i + 1 : Nat) : Int) := by unfold wrap64; omega
    have hyi := hy i (Nat.le_refl _) (by omega)
    rw [Nat.sub_self] at hyi
    have hr : rdOf ByteArray.empty ys (i : Int) = mt m := by
      unfold rdOf
      rw [Int.toNat_natCast, List.getD_eq_getElem?_getD, hyi]
      simp
    simp only [laws_heldStringS.l0]
    rw [if_pos (by omega), if_pos (by omega), mark_at h0 (by omega) (by omega)]
    simp only [Option.bind_some]
    rw [hr, if_pos rfl, hw1, hw2, held_loop d (i + 1) k ys (m + 1) (by omega) (by omega) (by omega) (by omega) hl (fun j h2 h3 => by rw [hy j (by omega) h3]; congr 2; omega)]
    congr 1
    omega
theorem eq_loop : ∀ (d i k : Nat) (xs : List ByteArray), i + d = xs.length → d + 1 ≤ k → xs.length < 1000 → laws_eqStringS.l0 k xs xs i = some true
  | 0, i, k, xs, hi, hk, hl => by
    obtain ⟨k, rfl⟩ : ∃ k', k = k' + 1 := ⟨k - 1, by omega⟩
    simp only [laws_eqStringS.l0]
    rw [if_neg (by omega)]
  | d + 1, i, k, xs, hi, hk, hl => by
    obtain ⟨k, rfl⟩ : ∃ k', k = k' + 1 := ⟨k - 1, by omega⟩
    have hw2 : wrap64 ((i : Int) + 1) = ((i + 1 : Nat) : Int) := by unfold wrap64; omega
    simp only [laws_eqStringS.l0]
    rw [if_pos (by omega), if_pos (by omega), if_pos (by omega), if_pos trivial, hw2]
    exact eq_loop d (i + 1) k xs (by omega) (by omega) hl
theorem eq_same (xs : List ByteArray) (k : Nat) (hk : xs.length + 1 ≤ k) (hl : xs.length < 1000) : laws_eqStringS.f k xs xs = some true := by
  unfold laws_eqStringS.f
  rw [if_pos rfl]
  exact eq_loop xs.length 0 k xs (by omega) hk hl
theorem marked (xs : List ByteArray) (k : Nat) (hk : xs.length + 9 ≤ k) (hl : xs.length < 390) : ∃ ys : List ByteArray, laws_markStringS.f k xs 1 = some (1 + (xs.length : Int), ys) ∧ laws_heldStringS.f k ys 1 = some (1 + (xs.length : Int)) := by
  obtain ⟨ys, e1, e2, _, e4⟩ := mark_loop xs.length 0 k xs 1 (by omega) hk (by omega) (by omega) (by omega)
  refine ⟨ys, e1, ?_⟩
  have := held_loop ys.length 0 k ys 1 (by omega) (by omega) (by omega) (by omega) (by omega) (fun j h2 h3 => e4 j h2 (by omega))
  rw [e2] at this
  exact this
/-! One text more, as the reference puts it in. -/
theorem put_loop (x : ByteArray) : ∀ (d i k : Nat) (l : List ByteArray), i + d = l.length → d < k → l.length < 1000 → spec_l07Put.l0 k l x i = some (l.take i ++ putB (l.drop i) x)
  | 0, i, k, l, hi, hk, hl => by
    obtain ⟨k, rfl⟩ : ∃ k', k = k' + 1 := ⟨k - 1, by omega⟩
    simp only [spec_l07Put.l0]
    rw [if_neg (by omega)]
    simp only [Option.bind_some]
    rw [if_pos (by omega), if_pos (by omega), if_pos (by simp; omega), if_pos (by simp; omega), if_pos (by simp; omega), Int.toNat_natCast]
    have e : l.drop i = [] := by rw [List.drop_of_length_le (by omega)]
    rw [e]
    simp [putB]
  | d + 1, i, k, l, hi, hk, hl => by
    obtain ⟨k, rfl⟩ : ∃ k', k = k' + 1 := ⟨k - 1, by omega⟩
    have hw2 : wrap64 ((i : Int) + 1) = ((i + 1 : Nat) : Int) := by unfold wrap64; omega
    have hlt : i < l.length := by omega
    have hr : rdOf ByteArray.empty l (i : Int) = l[i] := by
      unfold rdOf
      rw [Int.toNat_natCast, List.getD_eq_getElem?_getD, List.getElem?_eq_getElem hlt]
      rfl
    simp only [spec_l07Put.l0]
    rw [if_pos (by omega), if_pos (by omega), hr, List.drop_eq_getElem_cons hlt, putB]
    by_cases h1 : Op.bytesLess l[i].toList x.toList = true
    · rw [if_pos h1, if_pos h1, hw2, put_loop x d (i + 1) k l (by omega) (by omega) hl, List.take_succ_eq_append_getElem hlt, List.append_assoc]
      rfl
    · rw [if_neg h1, if_neg h1]
      by_cases h2 : l[i].toList = x.toList
      · rw [if_pos h2, if_pos h2, ← List.drop_eq_getElem_cons hlt, List.take_append_drop]
      · rw [if_neg h2, if_neg h2]
        simp only [Option.bind_some]
        rw [if_pos (by omega), if_pos (by simp; omega), if_pos (by simp; omega), if_pos (by simp; omega), Int.toNat_natCast]
        rw [← List.drop_eq_getElem_cons hlt]
        simp
theorem put_is (l : List ByteArray) (x : ByteArray) (k : Nat) (hk : l.length < k) (hl : l.length < 1000) : spec_l07Put.f k l x = some (putB l x) := by
  unfold spec_l07Put.f
  have := put_loop x l.length 0 k l (by omega) hk hl
  simpa using this
/-! What a label is, told alike on both sides. -/
noncomputable def isLab (t : ByteArray) : Bool := (impl_isLabel.f t).getD false
theorem lab_spec (t : ByteArray) {k : Nat} (hk : 20 ≤ k) : spec_l07Is.f k t = some (isLab t) := by
  obtain ⟨r, e1, e2⟩ := both t
  refine leo_up (g := fun k => spec_l07Is.f k t) (spec_l07Is.mono t) hk ?_
  unfold isLab
  rw [e2]
  exact e1
theorem lab_impl (t : ByteArray) : impl_isLabel.f t = some (isLab t) := by
  obtain ⟨r, e1, e2⟩ := both t
  unfold isLab
  rw [e2]
  rfl
theorem lab_size {t : ByteArray} (h : isLab t = true) : t.size = 9 := by
  apply Classical.byContradiction
  intro hs
  unfold isLab impl_isLabel.f at h
  rw [if_neg hs] at h
  cases h
def keep (other : ByteArray) (t : ByteArray) : Bool := !decide (t = other) && lab' t
  where lab' (t : ByteArray) : Bool := (impl_isLabel.f t).getD false
theorem labs_of (l : List ByteArray) (other : ByteArray) : impl_labelsOf.f l other = some (putAll (keep other) [] l) := by
  unfold impl_labelsOf.f
  rw [Go.Proofs.YtolhlackfphdcaaDoor.Fil.filtO_of (q := fun t => !keep other t) (fun t _ => ?_)]
  · simp only [Option.bind_some, Option.some.injEq, Bool.not_not]
    exact cs_put (keep other) l
  · unfold impl_labelsOf.pr
    by_cases e : t = other
    · rw [if_pos e]; simp [keep, e]
    · rw [if_neg e, lab_impl]; simp [keep, e, keep.lab', isLab]
theorem keep_iff (other t : ByteArray) : keep other t = true ↔ t ≠ other ∧ isLab t = true := by
  unfold keep keep.lab' isLab
  simp
theorem nums9l (t : ByteArray) (h : t.size = 9) : ∃ xs : List Int, t = strOfNums xs ∧ xs.length = 9 ∧ ∀ x ∈ xs, 0 ≤ x ∧ x ≤ 255 := by
  obtain ⟨x0, x1, x2, x3, x4, x5, x6, x7, x8, rfl, r0, r1, r2, r3, r4, r5, r6, r7, r8⟩ := nums9 t h
  exact ⟨_, rfl, rfl, by simp; omega⟩
theorem bt_nums' (xs : List Int) (h : ∀ x ∈ xs, 0 ≤ x ∧ x ≤ 255) (i : Nat) (hi : i < xs.length) : bt (strOfNums xs) (i : Int) = xs[i] := by
  have := h _ (List.getElem_mem hi)
  exact bt_nums xs i _ (List.getElem?_eq_getElem hi) this.1 this.2
theorem cand_nums (xs : List Int) (hl : xs.length = 9) (i : Nat) (hi : i < 9) (c : Int) : impl_NearLabels.cand (strOfNums xs) i c = strOfNums (xs.set i c) := by
  unfold impl_NearLabels.cand
  have e9 : xs.take 9 = xs := List.take_of_length_le (by omega)
  rw [ext_nums, ext_nums, nums_append, nums_append, strOfNums_size, hl, List.drop_zero, e9, List.set_eq_take_append_cons_drop, if_pos (by omega)]
  simp
theorem LL_range : ∀ c ∈ impl_NearLabels.LL, 0 ≤ c ∧ c ≤ 255 := by decide
theorem set_range {xs : List Int} (h : ∀ x ∈ xs, 0 ≤ x ∧ x ≤ 255) {c : Int} (hc : 0 ≤ c ∧ c ≤ 255) (i : Nat) : ∀ x ∈ xs.set i c, 0 ≤ x ∧ x ≤ 255 := by
  intro x hx
  rcases List.mem_or_eq_of_mem_set hx with h' | h'
  · exact h x h'
  · subst h'; exact hc
theorem cand_eq (t : ByteArray) (hs : t.size = 9) (i : Nat) (hi : i < 9) (c : Int) (hc : 0 ≤ c ∧ c ≤ 255) : impl_NearLabels.cand t i c = t ↔ c = bt t (i : Int) := by
  obtain ⟨xs, rfl, hl, hr⟩ := nums9l t hs
  rw [cand_nums xs hl i hi, bt_nums' xs hr i (by omega), ← eq_blt, nums_eq (set_range hr hc i) hr]
  constructor
  · intro h
    have := congrArg (fun l => l[i]?) h
    simp only [List.getElem?_set_self (show i < xs.length by omega), List.getElem?_eq_getElem (show i < xs.length by omega), Option.some.injEq] at this
    exact this
  · intro h
    rw [h]
    exact List.set_getElem_self (by omega)
theorem cand_bt (t : ByteArray) (hs : t.size = 9) (i j : Nat) (hi : i < 9) (hj : j < 9) (hij : j ≠ i) (c : Int) (hc : 0 ≤ c ∧ c ≤ 255) : bt (impl_NearLabels.cand t i c) (j : Int) = bt t (j : Int) ∧ (impl_NearLabels.cand t i c).size = 9 := by
  obtain ⟨xs, rfl, hl, hr⟩ := nums9l t hs
  refine ⟨?_, ?_⟩
  · rw [cand_nums xs hl i hi, bt_nums' xs hr j (by omega), bt_nums' _ (set_range hr hc i) j (by rw [List.length_set]; omega)]
    exact List.getElem_set_ne (by omega) _
  · rw [cand_nums xs hl i hi, strOfNums_size, List.length_set]
    exact hl
theorem lab_low (u : ByteArray) (h : isLab u = true) (j : Nat) (hj : j < 9) : bt u (j : Int) < 128 := by
  have hs := lab_size h
  have e := lab_spec u (k := 20) (Nat.le_refl _)
  rw [h] at e
  unfold spec_l07Is.f at e
  rw [if_pos (by omega)] at e
  have key : ∀ (n : Nat), n ≤ 9 → spec_l07Is.l0 (20 - n) u (n : Int) = some true → ∀ j : Nat, n ≤ j → j < 9 → bt u (j : Int) < 128 := by
    intro n hn
    induction hd : 9 - n generalizing n with
    | zero => intro _ j h1 h2; omega
    | succ d ih =>
      intro hh j h1 h2
      obtain ⟨m, hm⟩ : ∃ m, 20 - n = m + 4 := ⟨16 - n, by omega⟩
      rw [hm, is_step m u n (by omega) (by omega) hs] at hh
      by_cases hg : good n (bt u n) = true
      · rw [if_pos hg] at hh
        by_cases e1 : j = n
        · subst e1
          unfold good at hg
          split at hg
          · unfold impl_isLabel.sm at hg
            simp at hg
            omega
          · simp at hg
            omega
        · have e3 : 20 - (n + 1) = m + 3 := by omega
          refine ih (n + 1) (by omega) (by omega) ?_ j (by omega) h2
          rw [e3]
          exact hh
      · rw [if_neg hg] at hh
        cases hh
  exact key 0 (by omega) e j (Nat.zero_le _) hj
theorem width_multi (s : ByteArray) (i : Nat) (h : (Utf8.decode s i).2 ≠ 1) : i + 1 < s.size ∧ 128 ≤ (s.get! i).toNat ∧ 128 ≤ (s.get! (i + 1)).toNat := by
  have key : 128 ≤ (s.get! (i + 0)).toNat ∧ (i + 1 < s.size && ((s.get! (i + 1)).toNat / 64 == 2)) = true := by
    simp only [Utf8.decode] at h
    split at h
    · exact absurd rfl h
    · rename_i h0
      refine ⟨by omega, ?_⟩
      split at h
      · rename_i h1
        simp only [Bool.and_eq_true] at h1 ⊢
        exact h1.2
      · split at h
        · rename_i h1
          simp only [Bool.and_eq_true] at h1 ⊢
          exact h1.1.2
        · split at h
          · rename_i h1
            simp only [Bool.and_eq_true] at h1 ⊢
            exact h1.1.1.2
          · exact absurd rfl h
  obtain ⟨k0, k1⟩ := key
  simp only [Bool.and_eq_true, decide_eq_true_eq, beq_iff_eq, Nat.add_zero] at k0 k1
  exact ⟨k1.1, k0, by omega⟩
theorem bt_get (t : ByteArray) (i : Nat) (h : i < t.size) : bt t (i : Int) = ((t.get! i).toNat : Int) := by
  unfold bt
  rw [Int.toNat_natCast, dif_pos h]
  have : t.get! i = t[i] := by
    simp [ByteArray.get!, getElem!_pos, h]
    rfl
  rw [this]
theorem pos_or (t : ByteArray) (hs : t.size = 9) : ∀ f p : Nat, p + f = 9 → impl_NearLabels.pos t f p = List.range' p f ∨ ∃ i : Nat, i + 1 < 9 ∧ 128 ≤ bt t (i : Int) ∧ 128 ≤ bt t ((i + 1 : Nat) : Int)
  | 0, p, _ => .inl rfl
  | f + 1, p, hp => by
    by_cases hw : (Utf8.decode t p).2 = 1
    · unfold impl_NearLabels.pos
      rw [if_pos (by omega), hw, List.range'_succ]
      rcases pos_or t hs f (p + 1) (by omega) with h | h
      · exact .inl (by rw [h])
      · exact .inr h
    · obtain ⟨h1, h2, h3⟩ := width_multi t p hw
      exact .inr ⟨p, by omega, by rw [bt_get t p (by omega)]; omega, by rw [bt_get t (p + 1) (by omega)]; omega⟩
theorem pos_lt (t : ByteArray) : ∀ f p i : Nat, i ∈ impl_NearLabels.pos t f p → i < t.size
  | 0, p, i, h => by cases h
  | f + 1, p, i, h => by
    unfold impl_NearLabels.pos at h
    split at h
    · rcases List.mem_cons.1 h with rfl | h
      · assumption
      · exact pos_lt t f _ i h
    · cases h
theorem putAll_none (p : ByteArray → Bool) : ∀ (l acc : List ByteArray), (∀ x ∈ l, ¬ p x = true) → putAll p acc l = acc
  | [], acc, _ => rfl
  | x :: l, acc, h => by
    have e : putAll p acc (x :: l) = putAll p (if p x = true then putB acc x else acc) l := rfl
    rw [e, if_neg (h x (by simp))]
    exact putAll_none p l acc fun y hy => h y (by simp [hy])
theorem all_none (t : ByteArray) (hs : t.size = 9) (i : Nat) (h1 : i + 1 < 9) (h2 : 128 ≤ bt t (i : Int)) (h3 : 128 ≤ bt t ((i + 1 : Nat) : Int)) (ps : List Nat) (hp : ∀ p ∈ ps, p < 9) : ∀ x ∈ impl_NearLabels.all t ps, ¬ keep t x = true := by
  intro x hx hk
  unfold impl_NearLabels.all at hx
  obtain ⟨p, hps, hx⟩ := List.mem_flatMap.1 hx
  obtain ⟨c, hc, rfl⟩ := List.mem_map.1 hx
  have hl := ((keep_iff _ _).1 hk).2
  by_cases e : p = i
  · subst e
    have := cand_bt t hs p (p + 1) (hp _ hps) h1 (by omega) c (LL_range c hc)
    have := lab_low _ hl (p + 1) h1
    omega
  · have := cand_bt t hs p i (hp _ hps) (by omega) (by omega) c (LL_range c hc)
    have := lab_low _ hl i (by omega)
    omega
theorem putAll_app (p : ByteArray → Bool) (acc l1 l2 : List ByteArray) : putAll p acc (l1 ++ l2) = putAll p (putAll p acc l1) l2 := List.foldl_append
theorem row_is (t : ByteArray) (hs : t.size = 9) (i : Nat) (hi : i < 9) : ∀ (cs : List Int) (acc : List ByteArray), (∀ c ∈ cs, 0 ≤ c ∧ c ≤ 255) → acc.length + cs.length < 990 → spec_NearLabels.row t i cs acc = some (putAll (keep t) acc (cs.map (impl_NearLabels.cand t i)))
  | [], acc, _, _ => rfl
  | c :: cs, acc, hc, hl => by
    have hl' : acc.length + (cs.length + 1) < 990 := hl
    have e : putAll (keep t) acc ((c :: cs).map (impl_NearLabels.cand t i)) = putAll (keep t) (if keep t (impl_NearLabels.cand t i c) = true then putB acc (impl_NearLabels.cand t i c) else acc) (cs.map (impl_NearLabels.cand t i)) := rfl
    have hce := cand_eq t hs i hi c (hc c (by simp))
    rw [e]
    unfold spec_NearLabels.row spec_NearLabels.step
    by_cases h1 : c = bt t (i : Int)
    · rw [if_pos h1, if_neg (fun h => ((keep_iff _ _).1 h).1 (hce.2 h1))]
      exact row_is t hs i hi cs acc (fun c h => hc c (by simp [h])) (by omega)
    · rw [if_neg h1, lab_spec _ (by omega)]
      simp only [Option.bind_some]
      by_cases h2 : isLab (impl_NearLabels.cand t i c) = true
      · rw [if_pos h2, put_is _ _ _ (by omega) (by omega), if_pos ((keep_iff _ _).2 ⟨fun h => h1 (hce.1 h), h2⟩)]
        simp only [Option.bind_some]
        exact row_is t hs i hi cs _ (fun c h => hc c (by simp [h])) (by have := putB_len (impl_NearLabels.cand t i c) acc; omega)
      · rw [if_neg h2, if_neg (fun h => h2 ((keep_iff _ _).1 h).2)]
        exact row_is t hs i hi cs acc (fun c h => hc c (by simp [h])) (by omega)
theorem rows_is (t : ByteArray) (hs : t.size = 9) : ∀ (l : List Nat) (acc : List ByteArray), (∀ i ∈ l, i < 9) → acc.length + l.length * 36 < 990 → spec_NearLabels.rows t l acc = some (putAll (keep t) acc (impl_NearLabels.all t l))
  | [], acc, _, _ => rfl
  | i :: l, acc, hi, hl => by
    have e : impl_NearLabels.all t (i :: l) = impl_NearLabels.LL.map (impl_NearLabels.cand t i) ++ impl_NearLabels.all t l := rfl
    have hl' : acc.length + (l.length + 1) * 36 < 990 := hl
    have h36 : impl_NearLabels.LL.length = 36 := rfl
    unfold spec_NearLabels.rows
    rw [e, putAll_app, row_is t hs i (hi i (by simp)) _ acc LL_range (by omega)]
    simp only [Option.bind_some]
    have := putAll_len (keep t) (impl_NearLabels.LL.map (impl_NearLabels.cand t i)) acc
    rw [List.length_map] at this
    exact rows_is t hs l _ (fun j hj => hi j (by simp [hj])) (by omega)
theorem same (t : ByteArray) : ∃ r : List ByteArray × Int, r.1.length ≤ 324 ∧ impl_NearLabels.f t = some r ∧ spec_NearLabels.f t = some r := by
  by_cases hs : t.size = 9
  · have hpl := impl_NearLabels.pos_len t 9 0
    have hE : putAll (keep t) [] (impl_NearLabels.all t (impl_NearLabels.pos t 9 0)) = putAll (keep t) [] (impl_NearLabels.all t (List.range 9)) := by
      rcases pos_or t hs 9 0 (by omega) with h | ⟨i, h1, h2, h3⟩
      · rw [h, ← List.range_eq_range']
      · rw [putAll_none _ _ _ (all_none t hs i h1 h2 h3 _ (fun p hp => by have := pos_lt t 9 0 p hp; omega)), putAll_none _ _ _ (all_none t hs i h1 h2 h3 _ (fun p hp => by simpa using hp))]
    refine ⟨(putAll (keep t) [] (impl_NearLabels.all t (impl_NearLabels.pos t 9 0)), 0), ?_, ?_, ?_⟩
    · have := putAll_len (keep t) (impl_NearLabels.all t (impl_NearLabels.pos t 9 0)) []
      rw [impl_NearLabels.all_len] at this
      simp only [List.length_nil] at this
      show (putAll (keep t) [] (impl_NearLabels.all t (impl_NearLabels.pos t 9 0))).length ≤ 324
      omega
    · unfold impl_NearLabels.f
      rw [if_pos hs, labs_of]
      rfl
    · unfold spec_NearLabels.f
      rw [if_pos hs, rows_is t hs _ [] (fun i hi => by simpa using hi) (by simp)]
      rw [hE]
      rfl
  · refine ⟨([], 5), by simp, ?_, ?_⟩
    · unfold impl_NearLabels.f
      rw [if_neg hs]
    · unfold spec_NearLabels.f
      rw [if_neg hs]
theorem pure (t : ByteArray) : ∃ k, laws_FnExactNearLabels.f k t = some true := by
  refine ⟨402, ?_⟩
  unfold laws_FnExactNearLabels.f
  by_cases hb : (t.size : Int) > 1048576
  · rw [if_pos hb]
  rw [if_neg hb]
  obtain ⟨⟨r1, r2⟩, hl, hi, hp⟩ := same t
  have hl : r1.length ≤ 324 := hl
  rw [hp, hi]
  simp only [Option.bind_some]
  rw [eq_same r1 402 (by omega) (by omega)]
  simp only [Option.bind_some, if_true]
  obtain ⟨ys, e1, e2⟩ := marked r1 401 (by omega) (by omega)
  have hne : (r2 != r2) = false := by simp
  rw [hne]
  simp only [laws_FnExactNearLabels.j0]
  rw [if_neg (by decide), e1]
  simp only [Option.bind_some]
  rw [e2]
  simp only [Option.bind_some]
  rw [if_neg (by omega), if_pos trivial, hi]
  simp only [Option.bind_some]
  rw [eq_same r1 401 (by omega) (by omega)]
  simp only [Option.bind_some, if_true]
  rw [hne]
  simp only [laws_FnExactNearLabels.j1]
  have e3 : laws_heldStringS.f 400 ys 1 = some (1 + (r1.length : Int)) := by
    obtain ⟨zs, f1, f2⟩ := marked r1 400 (by omega) (by omega)
    have := leo_up (g := fun k => laws_markStringS.f k r1 1) (laws_markStringS.mono r1 1) (show 400 ≤ 401 by omega) f1
    rw [e1] at this
    have : ys = zs := by simpa using this
    rw [this]
    exact f2
  rw [if_neg (by decide), e3]
  simp only [Option.bind_some]
  rw [if_neg (by omega), if_pos trivial]
theorem star : "*" ++ "errors.errorString" = "*errors.errorString" := by decide
theorem rowErr (u : TypeId) (h : Tryd.prog.typeName? 3 u = some "*errors.errorString") : u = 108 :=
  typeName_ptr_named (nm := "errors.errorString") (by rw [star]; kernel_rfl) (by kernel_rfl) (by decide) u (by rw [star]; exact h)
end Go.Proofs.YtolhlackfphdcaaDoor.fnExactNearLabels
