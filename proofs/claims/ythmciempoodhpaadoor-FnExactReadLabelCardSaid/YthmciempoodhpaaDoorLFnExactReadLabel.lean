/- The program's ReadLabel answers as the reference's, for every text; the argument reads as it did. Condition: the listed tables hold what the program's text lays (tied). The part without the card: what comes in is readable, and the printed law is true of it. -/
import Derived.Test.YthmciempoodhpaaDoorPRdlx
import Derived.Test.YthmciempoodhpaaDoorOpen
import Derived.Test.YthmciempoodhpaaDoorLoop
import Derived.Stop.LaidErr
import Derived.Lib.LaidTab
import Derived.MakeChecks
import Derived.Lib.Bytes
import Derived.ProofKit
import Derived.OpenShut
namespace Go.Proofs.YthmciempoodhpaaDoor.fnExactReadLabel
open Go.ChangeShapes Go.WideShapes Go.ChangeAt Go.RowKit
set_option linter.unusedVariables false
set_option linter.unusedSimpArgs false
open Go.Proofs.YthmciempoodhpaaDoor.PRdl Go.Proofs.YthmciempoodhpaaDoor.Base Go.Proofs.YthmciempoodhpaaDoor.Gen Go.Proofs.YthmciempoodhpaaDoor.Loop Go.Proofs.YthmciempoodhpaaDoor.Open
open Go.Proofs.YthmciempoodhpaaDoorW.PrintWords Go.Proofs.YthmciempoodhpaaDoorW.PrintLast Go.Proofs.YthmciempoodhpaaDoorW.PrintMore
theorem w64_id {z : Int} (h0 : -9223372036854775808 ≤ z) (h1 : z ≤ 9223372036854775807) : wrap64 z = z := by unfold wrap64; omega
theorem nums_append (xs ys : List Int) : strOfNums xs ++ strOfNums ys = strOfNums (xs ++ ys) := by
  unfold strOfNums
  rw [ByteArray.mk_append_mk]
  simp
theorem tm10 {c : Int} (h : 0 ≤ c) : Int.tmod c 10 = c % 10 := Int.tmod_eq_emod_of_nonneg h
theorem td10 {c : Int} (h : 0 ≤ c) : Int.tdiv c 10 = c / 10 := Int.tdiv_eq_ediv_of_nonneg h
theorem last {c : Int} (h : 0 ≤ c) : (wrap64 (48 + (Int.tmod c 10))) % 256 = 48 + c % 10 := by
  rw [tm10 h, w64_id (by omega) (by omega)]; omega
theorem dec1 {c : Int} (h0 : 0 ≤ c) (h1 : c < 10) : decS c = strOfNums [48 + c % 10] := by
  rw [decS_small h0 h1, last h0]
theorem dec2 {c : Int} (h0 : 10 ≤ c) (h1 : c < 100) : decS c = strOfNums [48 + c / 10 % 10, 48 + c % 10] := by
  rw [decS_big h0 (by omega), td10 (by omega), dec1 (by omega) (by omega), last (by omega), nums_append]; rfl
theorem dec3 {c : Int} (h0 : 100 ≤ c) (h1 : c < 1000) : decS c = strOfNums [48 + c / 100, 48 + c / 10 % 10, 48 + c % 10] := by
  rw [decS_big (by omega) (by omega), td10 (by omega), dec2 (by omega) (by omega), last (by omega), nums_append]
  rw [show c / 10 / 10 % 10 = c / 100 by omega]; rfl
theorem rep (n : Int) (h0 : 0 ≤ n) (h1 : n ≤ 1000) : strings_Repeat.f (⟨#[48]⟩ : ByteArray) n = some ⟨(Go.Lib.repeatL [48] n.toNat).toArray⟩ := by
  unfold strings_Repeat.f
  rw [if_pos h0, if_pos h1, if_pos (by decide)]
theorem pad_of {c n : Int} {xs : List Int} (h0 : 0 ≤ c) (h1 : c ≤ 32767) (hd : decS c = strOfNums xs) (hn : n - xs.length = 0 ∨ n - xs.length = 1 ∨ n - xs.length = 2) (hl : xs.length ≤ 3) :
    impl_padded.f c n = some (strOfNums (List.replicate (n - xs.length).toNat 48 ++ xs)) := by
  unfold impl_padded.f impl_dec_int16.f
  rw [if_pos h0, if_pos h1]
  simp only [Option.bind_some]
  rw [hd, strOfNums_size, w64_id (by omega) (by omega), rep _ (by omega) (by omega)]
  simp only [Option.bind_some]
  have e : (⟨(Go.Lib.repeatL [48] (n - (xs.length : Int)).toNat).toArray⟩ : ByteArray) = strOfNums (List.replicate (n - (xs.length : Int)).toNat 48) := by
    rcases hn with h | h | h <;> rw [h] <;> rfl
  rw [e, if_pos (by rw [strOfNums_size]; simp; omega), nums_append]
theorem impl3 {c : Int} (h0 : 0 ≤ c) (h1 : c < 1000) : impl_padded.f c 3 = some (strOfNums [48 + c / 100, 48 + c / 10 % 10, 48 + c % 10]) := by
  by_cases a : c < 10
  · rw [pad_of h0 (by omega) (dec1 h0 a) (by simp) (by simp), show c / 100 = 0 by omega, show c / 10 % 10 = 0 by omega]; rfl
  · by_cases b : c < 100
    · rw [pad_of h0 (by omega) (dec2 (by omega) b) (by simp) (by simp), show c / 100 = 0 by omega]; rfl
    · rw [pad_of h0 (by omega) (dec3 (by omega) h1) (by simp) (by simp)]; rfl
theorem impl2 {c : Int} (h0 : 0 ≤ c) (h1 : c < 100) : impl_padded.f c 2 = some (strOfNums [48 + c / 10 % 10, 48 + c % 10]) := by
  by_cases a : c < 10
  · rw [pad_of h0 (by omega) (dec1 h0 a) (by simp) (by simp), show c / 10 % 10 = 0 by omega]; rfl
  · rw [pad_of h0 (by omega) (dec2 (by omega) h1) (by simp) (by simp)]; rfl
set_option maxRecDepth 100000 in
theorem value_all : ∀ n : Fin 256, impl_valueOf.f (n.val : Int) = some (spec_l07Check.val (n.val : Int)) := by decide +kernel
theorem value_is (b : Int) (h0 : 0 ≤ b) (h1 : b ≤ 255) : impl_valueOf.f b = some (spec_l07Check.val b) := by
  have := value_all ⟨b.toNat, by omega⟩
  rw [show ((b.toNat : Nat) : Int) = b by omega] at this
  exact this
def ws : List Int := [1, 3, 7, 9, 1, 3, 7, 9]
theorem rd_ws (n : Nat) (h : n < 8) : rd ws (n : Int) = spec_l07Check.wt n := by
  have h8 : n = 0 ∨ n = 1 ∨ n = 2 ∨ n = 3 ∨ n = 4 ∨ n = 5 ∨ n = 6 ∨ n = 7 := by omega
  rcases h8 with rfl | rfl | rfl | rfl | rfl | rfl | rfl | rfl <;> rfl
theorem c_step (k n : Nat) (t : ByteArray) (hn : n < 8) (ht : 8 ≤ t.size) : impl_checked.l0 (k + 1) t (spec_l07Check.sum t n) ws 8 (n : Int) = impl_checked.l0 k t (spec_l07Check.sum t (n + 1)) ws 8 ((n + 1 : Nat) : Int) := by
  have hl : ((ws.length : Nat) : Int) = 8 := rfl
  simp only [impl_checked.l0]
  rw [if_pos (by omega), if_pos (by omega), if_pos (by rw [hl]; omega), if_pos (by omega), value_is _ (bt_range t n).1 (bt_range t n).2]
  simp only [Option.bind_some]
  rw [rd_ws n hn, Int.mul_comm, show wrap64 ((n : Int) + 1) = ((n + 1 : Nat) : Int) by rw [w64_id (by omega) (by omega)]; omega]
  rfl
theorem sum_bounds (t : ByteArray) (hv : ∀ i : Nat, i < 8 → 0 ≤ spec_l07Check.val (bt t i) ∧ spec_l07Check.val (bt t i) ≤ 35) : ∀ n : Nat, n ≤ 8 → 0 ≤ spec_l07Check.sum t n ∧ spec_l07Check.sum t n ≤ 315 * n := by
  intro n
  induction n with
  | zero => intro _; exact ⟨Int.le_refl _, Int.le_refl _⟩
  | succ n ih =>
    intro h
    obtain ⟨a, b⟩ := ih (by omega)
    obtain ⟨c, d⟩ := hv n (by omega)
    have hw : spec_l07Check.wt n = 1 ∨ spec_l07Check.wt n = 3 ∨ spec_l07Check.wt n = 7 ∨ spec_l07Check.wt n = 9 := by unfold spec_l07Check.wt; split <;> simp
    simp only [spec_l07Check.sum]
    generalize spec_l07Check.val (bt t n) = v at *
    rcases hw with h | h | h | h <;> rw [h, w64_id (z := v * _) (by omega) (by omega), w64_id (by omega) (by omega)] <;> omega
theorem check_is (t : ByteArray) (ht : t.size = 8) (hv : ∀ i : Nat, i < 8 → 0 ≤ spec_l07Check.val (bt t i) ∧ spec_l07Check.val (bt t i) ≤ 35) :
    ∃ ck, spec_l07Check.f t = some ck ∧ impl_checked.f 12 t = some (t ++ strOfNums [ck]) := by
  obtain ⟨b0, b1⟩ := sum_bounds t hv 8 (by omega)
  refine ⟨_, by unfold spec_l07Check.f; rw [if_pos (by omega)], ?_⟩
  unfold impl_checked.f impl_weights.f
  simp only [Option.bind_some]
  have e : impl_checked.l0 12 t 0 [1, 3, 7, 9, 1, 3, 7, 9] ((([1, 3, 7, 9, 1, 3, 7, 9] : List Int).length : Nat) : Int) 0 = impl_checked.l0 4 t (spec_l07Check.sum t 8) ws 8 ((8 : Nat) : Int) := by
    show impl_checked.l0 (11 + 1) t (spec_l07Check.sum t 0) ws 8 ((0 : Nat) : Int) = _
    rw [c_step 11 0 t (by omega) (by omega), c_step 10 1 t (by omega) (by omega), c_step 9 2 t (by omega) (by omega), c_step 8 3 t (by omega) (by omega), c_step 7 4 t (by omega) (by omega), c_step 6 5 t (by omega) (by omega), c_step 5 6 t (by omega) (by omega), c_step 4 7 t (by omega) (by omega)]
  rw [e]
  show impl_checked.l0 (3 + 1) _ _ _ _ _ = _
  simp only [impl_checked.l0]
  rw [if_neg (by omega)]
  unfold impl_dec_int.f
  rw [tm10 b0, if_pos (by omega), if_pos (by omega)]
  simp only [Option.bind_some]
  rw [dec1 (by omega) (by omega), if_pos (by rw [strOfNums_size]; simp; omega)]
  congr 3
  rw [w64_id (by omega) (by omega), IntKind.wrap_u8]
  congr 1
  omega
theorem bt_nums (xs : List Int) (i : Nat) (x : Int) (hx : xs[i]? = some x) (h0 : 0 ≤ x) (h1 : x ≤ 255) : bt (strOfNums xs) (i : Int) = x := by
  have hl := (List.getElem?_eq_some_iff.1 hx)
  obtain ⟨hl, he⟩ := hl
  unfold bt
  rw [Int.toNat_natCast, dif_pos (by rw [strOfNums_size]; exact hl)]
  have e : (strOfNums xs)[i]'(by rw [strOfNums_size]; exact hl) = UInt8.ofNat x.toNat := by
    show (strOfNums xs).data[i]'_ = _
    unfold strOfNums
    simp [he]
  rw [e]
  simp
  omega
theorem val_dig {x : Int} (h : 0 ≤ x) (h1 : x < 10) : 0 ≤ spec_l07Check.val (48 + x) ∧ spec_l07Check.val (48 + x) ≤ 35 := by
  unfold spec_l07Check.val
  rw [if_pos (by omega)]; omega
theorem val_let {x : Int} (h : 97 ≤ x) (h1 : x ≤ 122) : 0 ≤ spec_l07Check.val x ∧ spec_l07Check.val x ≤ 35 := by
  unfold spec_l07Check.val
  rw [if_neg (by omega), if_pos (by omega)]; omega
/-! ### texts of nine bytes -/
theorem nums9 (t : ByteArray) (h : t.size = 9) : ∃ x0 x1 x2 x3 x4 x5 x6 x7 x8 : Int, t = strOfNums [x0, x1, x2, x3, x4, x5, x6, x7, x8] ∧ (0 ≤ x0 ∧ x0 ≤ 255) ∧ (0 ≤ x1 ∧ x1 ≤ 255) ∧ (0 ≤ x2 ∧ x2 ≤ 255) ∧ (0 ≤ x3 ∧ x3 ≤ 255) ∧ (0 ≤ x4 ∧ x4 ≤ 255) ∧ (0 ≤ x5 ∧ x5 ≤ 255) ∧ (0 ≤ x6 ∧ x6 ≤ 255) ∧ (0 ≤ x7 ∧ x7 ≤ 255) ∧ (0 ≤ x8 ∧ x8 ≤ 255) := by
  obtain ⟨⟨l⟩⟩ := t
  match l, h with
  | [b0, b1, b2, b3, b4, b5, b6, b7, b8], _ =>
    have q (b : UInt8) : (0 ≤ (b.toNat : Int) ∧ (b.toNat : Int) ≤ 255) := by have := b.toNat_lt; omega
    refine ⟨b0.toNat, b1.toNat, b2.toNat, b3.toNat, b4.toNat, b5.toNat, b6.toNat, b7.toNat, b8.toNat, ?_, q _, q _, q _, q _, q _, q _, q _, q _, q _⟩
    unfold strOfNums
    simp
theorem nums_eq {xs ys : List Int} (hx : ∀ x ∈ xs, 0 ≤ x ∧ x ≤ 255) (hy : ∀ y ∈ ys, 0 ≤ y ∧ y ≤ 255) : ((strOfNums xs).toList = (strOfNums ys).toList) ↔ xs = ys := by
  rw [Go.Lib.strOfNums_toList, Go.Lib.strOfNums_toList]
  constructor
  · intro h
    unfold Go.Lib.bytesOf at h
    induction xs generalizing ys with
    | nil =>
      cases ys with
      | nil => rfl
      | cons y ys => simp at h
    | cons x xs ih =>
      cases ys with
      | nil => simp at h
      | cons y ys =>
        simp only [List.map_cons, List.cons.injEq] at h
        obtain ⟨h1, h2⟩ := h
        have a := hx x (by simp)
        have b := hy y (by simp)
        have e := congrArg UInt8.toNat h1
        simp at e
        rw [ih (fun z hz => hx z (by simp [hz])) (fun z hz => hy z (by simp [hz])) h2, show x = y by omega]
  · intro h; rw [h]
theorem ext_nums (xs : List Int) (i j : Nat) : (strOfNums xs).extract i j = strOfNums ((xs.take j).drop i) := by
  apply ByteArray.ext
  rw [ByteArray.data_extract]
  unfold strOfNums
  simp [List.extract_eq_take_drop, List.map_take, List.map_drop, List.drop_take]
/-! ### strconv.Atoi of a few bytes -/
theorem decNat_lt {l : List UInt8} {n : Nat} (h : Lib.decNat l = some n) : n < 10 ^ l.length := by
  unfold Lib.decNat at h
  split at h
  · cases h
  · have := Lib.decFrom_lt _ _ _ h
    simpa using this
theorem atoi_le {l : List UInt8} {n : Int} (h : Lib.atoi l = some n) : n < 10 ^ l.length := by
  cases l with
  | nil => simp [Lib.atoi] at h
  | cons b r =>
    have p : (10 : Nat) ^ r.length ≤ 10 ^ (b :: r).length := Nat.pow_le_pow_right (by omega) (by simp)
    have p1 : (1 : Nat) ≤ 10 ^ (b :: r).length := Nat.one_le_pow _ _ (by omega)
    have c : ((10 ^ (b :: r).length : Nat) : Int) = (10 : Int) ^ (b :: r).length := by push_cast; rfl
    rw [← c]
    simp only [Lib.atoi] at h
    split at h
    · obtain ⟨m, hm, rfl⟩ := Option.map_eq_some_iff.1 h
      omega
    · split at h
      · obtain ⟨m, hm, rfl⟩ := Option.map_eq_some_iff.1 h
        have := decNat_lt hm
        omega
      · obtain ⟨m, hm, rfl⟩ := Option.map_eq_some_iff.1 h
        have := decNat_lt hm
        omega
theorem atoiV_le (xs : List Int) (k : Nat) (hk : xs.length = k) : impl_isLabel.atoiV (strOfNums xs) < 10 ^ k := by
  unfold impl_isLabel.atoiV
  have hl : (strOfNums xs).data.toList.length = k := by rw [strOfNums_data]; simpa using hk
  cases h : Lib.atoi (strOfNums xs).data.toList with
  | none => exact Int.lt_of_lt_of_le (by decide : (0 : Int) < 1) (by have : (1 : Nat) ≤ 10 ^ k := Nat.one_le_pow _ _ (by omega); exact_mod_cast this)
  | some n => have := atoi_le h; rw [hl] at this; exact this
theorem dv {x : Int} (h0 : 48 ≤ x) (h1 : x ≤ 57) : Lib.digitVal (UInt8.ofNat x.toNat) = some (x.toNat - 48) := by
  unfold Lib.digitVal
  have e : (UInt8.ofNat x.toNat).toNat = x.toNat := by simp; omega
  rw [e, if_pos (by omega)]
theorem nsign {x : Int} (h0 : 48 ≤ x) (h1 : x ≤ 57) : (UInt8.ofNat x.toNat == 45) = false ∧ (UInt8.ofNat x.toNat == 43) = false := by
  have e : (UInt8.ofNat x.toNat).toNat = x.toNat := by simp; omega
  constructor
  · rw [beq_eq_false_iff_ne]; intro h; rw [h] at e; simp at e; omega
  · rw [beq_eq_false_iff_ne]; intro h; rw [h] at e; simp at e; omega
theorem atoi3 {x y z : Int} (hx : 48 ≤ x ∧ x ≤ 57) (hy : 48 ≤ y ∧ y ≤ 57) (hz : 48 ≤ z ∧ z ≤ 57) : impl_isLabel.atoiV (strOfNums [x, y, z]) = 100 * (x - 48) + 10 * (y - 48) + (z - 48) := by
  unfold impl_isLabel.atoiV
  rw [strOfNums_data]
  simp only [List.map_cons, List.map_nil, Lib.atoi, (nsign hx.1 hx.2).1, (nsign hx.1 hx.2).2, Lib.decNat, List.isEmpty_cons, Lib.decFrom, dv hx.1 hx.2, dv hy.1 hy.2, dv hz.1 hz.2, Bool.false_eq_true, if_false, Option.map_some, Option.getD_some]
  omega
theorem atoi2 {x y : Int} (hx : 48 ≤ x ∧ x ≤ 57) (hy : 48 ≤ y ∧ y ≤ 57) : impl_isLabel.atoiV (strOfNums [x, y]) = 10 * (x - 48) + (y - 48) := by
  unfold impl_isLabel.atoiV
  rw [strOfNums_data]
  simp only [List.map_cons, List.map_nil, Lib.atoi, (nsign hx.1 hx.2).1, (nsign hx.1 hx.2).2, Lib.decNat, List.isEmpty_cons, Lib.decFrom, dv hx.1 hx.2, dv hy.1 hy.2, Bool.false_eq_true, if_false, Option.map_some, Option.getD_some]
  omega
/-! ### the reference's loop -/
def good (i : Int) (x : Int) : Bool := if 3 ≤ i ∧ i < 6 then impl_isLabel.sm x else decide (48 ≤ x ∧ x ≤ 57)
theorem valK (k : Nat) (b : Int) (h0 : 0 ≤ b) (h1 : b ≤ 255) : spec_l07Value.f (k + 3) b = some (spec_l07Check.val b) := by
  unfold spec_l07Value.f spec_l07Check.val
  by_cases c0 : 48 ≤ b <;> by_cases c1 : b ≤ 57 <;> by_cases c2 : 97 ≤ b <;> by_cases c3 : b ≤ 122
  all_goals first
    | (exfalso; omega)
    | (simp [spec_l07Value.j0, c0, c1, c2, c3, ge_iff_le, IntKind.wrap_u8, wrap64]; done)
    | (simp [spec_l07Value.j0, c0, c1, c2, c3, ge_iff_le, IntKind.wrap_u8, wrap64]; omega)
theorem is_step (k : Nat) (t : ByteArray) (i : Int) (h0 : 0 ≤ i) (h9 : i < 9) (hs : t.size = 9) : spec_l07Is.l0 (k + 4) t i = if good i (bt t i) = true then spec_l07Is.l0 (k + 3) t (i + 1) else some false := by
  have hb := bt_range t i
  simp only [spec_l07Is.l0]
  rw [valK k _ hb.1 hb.2, show wrap64 (i + 1) = i + 1 from w64_id (by omega) (by omega), if_pos h9]
  simp only [Option.bind_some]
  unfold good impl_isLabel.sm spec_l07Check.val
  generalize bt t i = x at *
  by_cases a : 3 ≤ i <;> by_cases b : i < 6 <;> by_cases c0 : 48 ≤ x <;> by_cases c1 : x ≤ 57 <;> by_cases c2 : 97 ≤ x <;> by_cases c3 : x ≤ 122
  all_goals first
    | (exfalso; omega)
    | (simp [a, b, c0, c1, c2, c3, ge_iff_le, h0, hs, h9]; done)
    | (simp [a, b, c0, c1, c2, c3, ge_iff_le, h0, hs, h9]; omega)
theorem is_end (k : Nat) (t : ByteArray) (hs : t.size = 9) : spec_l07Is.l0 (k + 1) t 9 = if (t.extract 6 8).toList = ([48, 48] : List UInt8) then some false else (spec_l07Check.f t).bind fun c => some (bt t 8 == c) := by
  simp only [spec_l07Is.l0]
  rw [if_neg (by omega), if_pos (by omega), if_pos (by omega)]
  by_cases h : (t.extract 6 8).toList = ([48, 48] : List UInt8)
  · rw [if_pos h, if_pos h]
  · rw [if_neg h, if_neg h, if_pos (by omega)]
theorem sum_congr (t u : ByteArray) : ∀ n : Nat, (∀ i : Nat, i < n → bt t i = bt u i) → spec_l07Check.sum t n = spec_l07Check.sum u n := by
  intro n
  induction n with
  | zero => intro _; rfl
  | succ n ih =>
    intro h
    simp only [spec_l07Check.sum]
    rw [ih (fun i hi => h i (by omega)), h n (by omega)]
theorem check_congr (t u : ByteArray) (ht : 8 ≤ t.size) (hu : 8 ≤ u.size) (h : ∀ i : Nat, i < 8 → bt t i = bt u i) : spec_l07Check.f t = spec_l07Check.f u := by
  unfold spec_l07Check.f
  rw [if_pos ht, if_pos hu, sum_congr t u 8 h]
theorem check_range {t : ByteArray} {c : Int} (h : spec_l07Check.f t = some c) : 0 ≤ c ∧ c ≤ 255 := by
  unfold spec_l07Check.f at h
  split at h
  · have := Option.some.inj h
    rw [IntKind.wrap_u8] at this
    omega
  · cases h
theorem check_digit {t : ByteArray} {c : Int} (h : spec_l07Check.f t = some c) (ht : t.size = 8) (hv : ∀ i : Nat, i < 8 → 0 ≤ spec_l07Check.val (bt t i) ∧ spec_l07Check.val (bt t i) ≤ 35) : 48 ≤ c ∧ c ≤ 57 := by
  obtain ⟨b0, b1⟩ := sum_bounds t hv 8 (by omega)
  unfold spec_l07Check.f at h
  rw [if_pos (by omega)] at h
  have := Option.some.inj h
  rw [tm10 b0, w64_id (by omega) (by omega), IntKind.wrap_u8] at this
  omega
def pre (c m0 m1 m2 v : Int) : List Int := [48 + c / 100, 48 + c / 10 % 10, 48 + c % 10, m0, m1, m2, 48 + v / 10 % 10, 48 + v % 10]
theorem lab {c m0 m1 m2 v : Int} (c0 : 0 ≤ c) (c1 : c < 1000) (ma : 97 ≤ m0 ∧ m0 ≤ 122) (mb : 97 ≤ m1 ∧ m1 ≤ 122) (mc : 97 ≤ m2 ∧ m2 ≤ 122) (v0 : 0 ≤ v) (v1 : v < 100) :
    ∃ ck, spec_l07Check.f (strOfNums (pre c m0 m1 m2 v)) = some ck ∧ impl_labelOf.f c m0 m1 m2 v 0 0 0 = some (strOfNums (pre c m0 m1 m2 v ++ [ck])) ∧ 48 ≤ ck ∧ ck ≤ 57 := by
  have hv : ∀ i : Nat, i < 8 → 0 ≤ spec_l07Check.val (bt (strOfNums (pre c m0 m1 m2 v)) i) ∧ spec_l07Check.val (bt (strOfNums (pre c m0 m1 m2 v)) i) ≤ 35 := by
    intro i hi
    have h8 : i = 0 ∨ i = 1 ∨ i = 2 ∨ i = 3 ∨ i = 4 ∨ i = 5 ∨ i = 6 ∨ i = 7 := by omega
    rcases h8 with rfl | rfl | rfl | rfl | rfl | rfl | rfl | rfl
    · rw [bt_nums _ 0 (48 + c / 100) rfl (by omega) (by omega)]; exact val_dig (by omega) (by omega)
    · rw [bt_nums _ 1 (48 + c / 10 % 10) rfl (by omega) (by omega)]; exact val_dig (by omega) (by omega)
    · rw [bt_nums _ 2 (48 + c % 10) rfl (by omega) (by omega)]; exact val_dig (by omega) (by omega)
    · rw [bt_nums _ 3 m0 rfl (by omega) (by omega)]; exact val_let ma.1 ma.2
    · rw [bt_nums _ 4 m1 rfl (by omega) (by omega)]; exact val_let mb.1 mb.2
    · rw [bt_nums _ 5 m2 rfl (by omega) (by omega)]; exact val_let mc.1 mc.2
    · rw [bt_nums _ 6 (48 + v / 10 % 10) rfl (by omega) (by omega)]; exact val_dig (by omega) (by omega)
    · rw [bt_nums _ 7 (48 + v % 10) rfl (by omega) (by omega)]; exact val_dig (by omega) (by omega)
  obtain ⟨ck, e1, e2⟩ := check_is (strOfNums (pre c m0 m1 m2 v)) (by rw [strOfNums_size]; rfl) hv
  refine ⟨ck, e1, ?_, check_digit e1 (by rw [strOfNums_size]; rfl) hv⟩
  unfold impl_labelOf.f
  rw [impl3 c0 c1, impl2 v0 v1]
  simp only [Option.bind_some]
  rw [if_pos (by rw [strOfNums_size]; rfl), if_pos (by rw [strOfNums_size]; rfl), nums_append, nums_append]
  show impl_checked.f 12 (strOfNums (pre c m0 m1 m2 v)) = _
  rw [e2, nums_append]
theorem both (t : ByteArray) : ∃ r, spec_l07Is.f 20 t = some r ∧ impl_isLabel.f t = some r := by
  by_cases hs' : ¬ t.size = 9
  · have hs := hs'
    exact ⟨false, by unfold spec_l07Is.f; rw [if_neg (by omega)], by unfold impl_isLabel.f; rw [if_neg hs]⟩
  have hs : t.size = 9 := by omega
  clear hs'
  obtain ⟨x0, x1, x2, x3, x4, x5, x6, x7, x8, rfl, r0, r1, r2, r3, r4, r5, r6, r7, r8⟩ := nums9 t hs
  have b0 : bt (strOfNums [x0, x1, x2, x3, x4, x5, x6, x7, x8]) 0 = x0 := bt_nums _ 0 x0 rfl r0.1 r0.2
  have b1 : bt (strOfNums [x0, x1, x2, x3, x4, x5, x6, x7, x8]) 1 = x1 := bt_nums _ 1 x1 rfl r1.1 r1.2
  have b2 : bt (strOfNums [x0, x1, x2, x3, x4, x5, x6, x7, x8]) 2 = x2 := bt_nums _ 2 x2 rfl r2.1 r2.2
  have b3 : bt (strOfNums [x0, x1, x2, x3, x4, x5, x6, x7, x8]) 3 = x3 := bt_nums _ 3 x3 rfl r3.1 r3.2
  have b4 : bt (strOfNums [x0, x1, x2, x3, x4, x5, x6, x7, x8]) 4 = x4 := bt_nums _ 4 x4 rfl r4.1 r4.2
  have b5 : bt (strOfNums [x0, x1, x2, x3, x4, x5, x6, x7, x8]) 5 = x5 := bt_nums _ 5 x5 rfl r5.1 r5.2
  have b6 : bt (strOfNums [x0, x1, x2, x3, x4, x5, x6, x7, x8]) 6 = x6 := bt_nums _ 6 x6 rfl r6.1 r6.2
  have b7 : bt (strOfNums [x0, x1, x2, x3, x4, x5, x6, x7, x8]) 7 = x7 := bt_nums _ 7 x7 rfl r7.1 r7.2
  have b8 : bt (strOfNums [x0, x1, x2, x3, x4, x5, x6, x7, x8]) 8 = x8 := bt_nums _ 8 x8 rfl r8.1 r8.2
  have e03 : (strOfNums [x0, x1, x2, x3, x4, x5, x6, x7, x8]).extract 0 3 = strOfNums [x0, x1, x2] := ext_nums _ 0 3
  have e68 : (strOfNums [x0, x1, x2, x3, x4, x5, x6, x7, x8]).extract 6 8 = strOfNums [x6, x7] := ext_nums _ 6 8
  have n1 : impl_isLabel.atoiV (strOfNums [x0, x1, x2]) < 1000 := atoiV_le [x0, x1, x2] 3 rfl
  have n2 : impl_isLabel.atoiV (strOfNums [x6, x7]) < 100 := atoiV_le [x6, x7] 2 rfl
  -- the reference
  have hck : spec_l07Check.f (strOfNums [x0, x1, x2, x3, x4, x5, x6, x7, x8]) = spec_l07Check.f (strOfNums [x0, x1, x2, x3, x4, x5, x6, x7]) := by
    refine check_congr _ _ (by omega) (by rw [strOfNums_size]; simp) (fun i hi => ?_)
    have h8 : i = 0 ∨ i = 1 ∨ i = 2 ∨ i = 3 ∨ i = 4 ∨ i = 5 ∨ i = 6 ∨ i = 7 := by omega
    rcases h8 with rfl | rfl | rfl | rfl | rfl | rfl | rfl | rfl
    · exact b0.trans (bt_nums _ 0 x0 rfl r0.1 r0.2).symm
    · exact b1.trans (bt_nums _ 1 x1 rfl r1.1 r1.2).symm
    · exact b2.trans (bt_nums _ 2 x2 rfl r2.1 r2.2).symm
    · exact b3.trans (bt_nums _ 3 x3 rfl r3.1 r3.2).symm
    · exact b4.trans (bt_nums _ 4 x4 rfl r4.1 r4.2).symm
    · exact b5.trans (bt_nums _ 5 x5 rfl r5.1 r5.2).symm
    · exact b6.trans (bt_nums _ 6 x6 rfl r6.1 r6.2).symm
    · exact b7.trans (bt_nums _ 7 x7 rfl r7.1 r7.2).symm
  have zz : ((strOfNums [x6, x7]).toList = ([48, 48] : List UInt8)) ↔ (x6 = 48 ∧ x7 = 48) := by
    have := nums_eq (xs := [x6, x7]) (ys := [48, 48]) (by simp; omega) (by simp)
    rw [show ([48, 48] : List UInt8) = (strOfNums [48, 48]).toList by rw [Go.Lib.strOfNums_toList]; rfl, this]
    simp
  have G : spec_l07Is.f 20 (strOfNums [x0, x1, x2, x3, x4, x5, x6, x7, x8]) = if (good 0 x0 && good 1 x1 && good 2 x2 && good 3 x3 && good 4 x4 && good 5 x5 && good 6 x6 && good 7 x7 && good 8 x8) = true then (if x6 = 48 ∧ x7 = 48 then some false else (spec_l07Check.f (strOfNums [x0, x1, x2, x3, x4, x5, x6, x7])).bind fun c => some (x8 == c)) else some false := by
    unfold spec_l07Is.f
    rw [if_pos (by omega)]
    rw [is_step 16 _ 0 (by omega) (by omega) hs, b0]
    simp only [Int.reduceAdd, Nat.reduceAdd]
    rw [is_step 15 _ 1 (by omega) (by omega) hs, b1]
    simp only [Int.reduceAdd, Nat.reduceAdd]
    rw [is_step 14 _ 2 (by omega) (by omega) hs, b2]
    simp only [Int.reduceAdd, Nat.reduceAdd]
    rw [is_step 13 _ 3 (by omega) (by omega) hs, b3]
    simp only [Int.reduceAdd, Nat.reduceAdd]
    rw [is_step 12 _ 4 (by omega) (by omega) hs, b4]
    simp only [Int.reduceAdd, Nat.reduceAdd]
    rw [is_step 11 _ 5 (by omega) (by omega) hs, b5]
    simp only [Int.reduceAdd, Nat.reduceAdd]
    rw [is_step 10 _ 6 (by omega) (by omega) hs, b6]
    simp only [Int.reduceAdd, Nat.reduceAdd]
    rw [is_step 9 _ 7 (by omega) (by omega) hs, b7]
    simp only [Int.reduceAdd, Nat.reduceAdd]
    rw [is_step 8 _ 8 (by omega) (by omega) hs, b8]
    simp only [Int.reduceAdd, Nat.reduceAdd]
    rw [is_end 10 _ hs, b8, hck, e68]
    simp only [zz]
    cases good 0 x0 <;> cases good 1 x1 <;> cases good 2 x2 <;> cases good 3 x3 <;> cases good 4 x4 <;> cases good 5 x5 <;> cases good 6 x6 <;> cases good 7 x7 <;> cases good 8 x8 <;> simp
  rw [G]
  unfold impl_isLabel.f impl_isLabel.allv
  rw [if_pos hs, e03, e68, if_pos (show impl_isLabel.atoiV (strOfNums [x0, x1, x2]) ≤ 32767 by omega), if_pos (show impl_isLabel.atoiV (strOfNums [x6, x7]) ≤ 32767 by omega), b3, b4, b5]
  have gd (i x : Int) (hi : ¬ (3 ≤ i ∧ i < 6)) : good i x = decide (48 ≤ x ∧ x ≤ 57) := by unfold good; rw [if_neg hi]
  have gl (i x : Int) (hi : 3 ≤ i ∧ i < 6) : good i x = impl_isLabel.sm x := by unfold good; rw [if_pos hi]
  rw [gd 0 x0 (by omega), gd 1 x1 (by omega), gd 2 x2 (by omega), gl 3 x3 (by omega), gl 4 x4 (by omega), gl 5 x5 (by omega), gd 6 x6 (by omega), gd 7 x7 (by omega), gd 8 x8 (by omega)]
  unfold impl_isLabel.sm
  simp only [Bool.and_eq_true, decide_eq_true_eq]
  by_cases al' : ¬ ((97 ≤ x3 ∧ x3 ≤ 122) ∧ (97 ≤ x4 ∧ x4 ≤ 122) ∧ (97 ≤ x5 ∧ x5 ≤ 122))
  · rw [if_neg al']
    refine ⟨false, ?_, rfl⟩
    rw [if_neg (by omega)]
  have al := Decidable.not_not.1 al'
  rw [if_pos al]
  by_cases p2' : ¬ 0 < impl_isLabel.atoiV (strOfNums [x6, x7])
  · rw [if_neg p2']
    refine ⟨false, ?_, rfl⟩
    split
    · rename_i hg
      have := atoi2 (x := x6) (y := x7) (by omega) (by omega)
      rw [if_pos (by omega)]
    · rfl
  have p2 := Decidable.not_not.1 p2'
  rw [if_pos p2]
  obtain ⟨ck, k1, k2, kr⟩ := lab (c := max (impl_isLabel.atoiV (strOfNums [x0, x1, x2])) 0) (m0 := x3) (m1 := x4) (m2 := x5) (v := impl_isLabel.atoiV (strOfNums [x6, x7])) (by omega) (by omega) al.1 al.2.1 al.2.2 (by omega) (by omega)
  rw [k2]
  simp only [Option.bind_some]
  have ne := nums_eq (xs := pre (max (impl_isLabel.atoiV (strOfNums [x0, x1, x2])) 0) x3 x4 x5 (impl_isLabel.atoiV (strOfNums [x6, x7])) ++ [ck]) (ys := [x0, x1, x2, x3, x4, x5, x6, x7, x8]) (by simp [pre]; omega) (by simp; omega)
  refine ⟨_, ?_, rfl⟩
  by_cases E : pre (max (impl_isLabel.atoiV (strOfNums [x0, x1, x2])) 0) x3 x4 x5 (impl_isLabel.atoiV (strOfNums [x6, x7])) ++ [ck] = [x0, x1, x2, x3, x4, x5, x6, x7, x8]
  · have hb : ((strOfNums (pre (max (impl_isLabel.atoiV (strOfNums [x0, x1, x2])) 0) x3 x4 x5 (impl_isLabel.atoiV (strOfNums [x6, x7])) ++ [ck])).toList == (strOfNums [x0, x1, x2, x3, x4, x5, x6, x7, x8]).toList) = true := by rw [beq_iff_eq]; exact ne.2 E
    rw [hb]
    have E8 : pre (max (impl_isLabel.atoiV (strOfNums [x0, x1, x2])) 0) x3 x4 x5 (impl_isLabel.atoiV (strOfNums [x6, x7])) = [x0, x1, x2, x3, x4, x5, x6, x7] ∧ ck = x8 := by
      simp only [pre, List.cons_append, List.nil_append, List.cons.injEq, and_true, true_and] at E ⊢
      omega
    rw [E8.1, E8.2] at k1
    simp only [pre, List.cons_append, List.nil_append, List.cons.injEq, and_true, true_and] at E
    rw [if_pos (by omega), if_neg (by omega), k1]
    simp
  · have hb : ((strOfNums (pre (max (impl_isLabel.atoiV (strOfNums [x0, x1, x2])) 0) x3 x4 x5 (impl_isLabel.atoiV (strOfNums [x6, x7])) ++ [ck])).toList == (strOfNums [x0, x1, x2, x3, x4, x5, x6, x7, x8]).toList) = false := by rw [beq_eq_false_iff_ne]; intro h; exact E (ne.1 h)
    rw [hb]
    split
    · rename_i hg
      have a1 := atoi3 (x := x0) (y := x1) (z := x2) (by omega) (by omega) (by omega)
      have a2 := atoi2 (x := x6) (y := x7) (by omega) (by omega)
      rw [if_neg (by omega)]
      have e8 : pre (max (impl_isLabel.atoiV (strOfNums [x0, x1, x2])) 0) x3 x4 x5 (impl_isLabel.atoiV (strOfNums [x6, x7])) = [x0, x1, x2, x3, x4, x5, x6, x7] := by
        simp only [pre, List.cons.injEq, and_true, true_and]
        omega
      rw [e8] at k1 E
      rw [k1]
      simp only [Option.bind_some, Option.some.injEq, beq_eq_false_iff_ne]
      intro h
      exact E (by rw [h]; rfl)
    · rfl
theorem peel (k : Nat) (t : ByteArray) (i : Int) (h0 : 0 ≤ i) (h9 : i < 9) (hs : t.size = 9) (h : spec_l07Is.l0 (k + 4) t i = some true) : good i (bt t i) = true ∧ spec_l07Is.l0 (k + 3) t (i + 1) = some true := by
  rw [is_step k t i h0 h9 hs] at h
  split at h
  · rename_i hg; exact ⟨hg, h⟩
  · cases h
theorem is_true (t : ByteArray) (h : spec_l07Is.f 20 t = some true) : t.size = 9 ∧ (48 ≤ bt t 0 ∧ bt t 0 ≤ 57) ∧ (48 ≤ bt t 1 ∧ bt t 1 ≤ 57) ∧ (48 ≤ bt t 2 ∧ bt t 2 ≤ 57) ∧ (48 ≤ bt t 6 ∧ bt t 6 ≤ 57) ∧ (48 ≤ bt t 7 ∧ bt t 7 ≤ 57) := by
  unfold spec_l07Is.f at h
  by_cases hs' : (t.size : Int) = 9
  · rw [if_pos hs'] at h
    have hs : t.size = 9 := by omega
    have gd (i : Int) (hi : ¬ (3 ≤ i ∧ i < 6)) (hg : good i (bt t i) = true) : 48 ≤ bt t i ∧ bt t i ≤ 57 := by
      unfold good at hg; rw [if_neg hi] at hg; exact of_decide_eq_true hg
    obtain ⟨g0, h⟩ := peel 16 t 0 (by omega) (by omega) hs h
    obtain ⟨g1, h⟩ := peel 15 t 1 (by omega) (by omega) hs h
    obtain ⟨g2, h⟩ := peel 14 t 2 (by omega) (by omega) hs h
    obtain ⟨g3, h⟩ := peel 13 t 3 (by omega) (by omega) hs h
    obtain ⟨g4, h⟩ := peel 12 t 4 (by omega) (by omega) hs h
    obtain ⟨g5, h⟩ := peel 11 t 5 (by omega) (by omega) hs h
    obtain ⟨g6, h⟩ := peel 10 t 6 (by omega) (by omega) hs h
    obtain ⟨g7, h⟩ := peel 9 t 7 (by omega) (by omega) hs h
    exact ⟨hs, gd 0 (by omega) g0, gd 1 (by omega) g1, gd 2 (by omega) g2, gd 6 (by omega) g6, gd 7 (by omega) g7⟩
  · rw [if_neg hs'] at h; cases h
theorem val48 {x : Int} (h : 48 ≤ x ∧ x ≤ 57) : spec_l07Value.f 20 x = some (x - 48) := by
  rw [valK 17 x (by omega) (by omega)]
  unfold spec_l07Check.val
  rw [if_pos h]
theorem pure (t : ByteArray) : laws_FnExactReadLabel.f 20 t = some true := by
  unfold laws_FnExactReadLabel.f
  by_cases hbig : (t.size : Int) > 1048576
  · rw [if_pos hbig]
  rw [if_neg hbig]
  unfold spec_ReadLabel.f impl_ReadLabel.f
  obtain ⟨r, e1, e2⟩ := both t
  rw [e1, e2]
  simp only [Option.bind_some]
  cases r with
  | false => simp
  | true =>
    obtain ⟨hs, d0, d1, d2, d6, d7⟩ := is_true t e1
    rw [if_pos rfl, if_pos rfl, if_pos (show (0 : Int) < (t.size : Int) by omega), val48 d0]
    simp only [Option.bind_some]
    rw [if_pos (show (1 : Int) < (t.size : Int) by omega), val48 d1]
    simp only [Option.bind_some]
    rw [if_pos (show (2 : Int) < (t.size : Int) by omega), val48 d2]
    simp only [Option.bind_some]
    rw [if_pos (by omega), if_pos (show (6 : Int) ≤ (t.size : Int) by omega), if_pos (show (6 : Int) < (t.size : Int) by omega), val48 d6]
    simp only [Option.bind_some]
    rw [if_pos (show (7 : Int) < (t.size : Int) by omega), val48 d7]
    simp only [Option.bind_some]
    clear e1 e2 hbig
    obtain ⟨x0, x1, x2, x3, x4, x5, x6, x7, x8, rfl, r0, r1, r2, r3, r4, r5, r6, r7, r8⟩ := nums9 t hs
    have b0 : bt (strOfNums [x0, x1, x2, x3, x4, x5, x6, x7, x8]) 0 = x0 := bt_nums _ 0 x0 rfl r0.1 r0.2
    have b1 : bt (strOfNums [x0, x1, x2, x3, x4, x5, x6, x7, x8]) 1 = x1 := bt_nums _ 1 x1 rfl r1.1 r1.2
    have b2 : bt (strOfNums [x0, x1, x2, x3, x4, x5, x6, x7, x8]) 2 = x2 := bt_nums _ 2 x2 rfl r2.1 r2.2
    have b3 : bt (strOfNums [x0, x1, x2, x3, x4, x5, x6, x7, x8]) 3 = x3 := bt_nums _ 3 x3 rfl r3.1 r3.2
    have b4 : bt (strOfNums [x0, x1, x2, x3, x4, x5, x6, x7, x8]) 4 = x4 := bt_nums _ 4 x4 rfl r4.1 r4.2
    have b5 : bt (strOfNums [x0, x1, x2, x3, x4, x5, x6, x7, x8]) 5 = x5 := bt_nums _ 5 x5 rfl r5.1 r5.2
    have b6 : bt (strOfNums [x0, x1, x2, x3, x4, x5, x6, x7, x8]) 6 = x6 := bt_nums _ 6 x6 rfl r6.1 r6.2
    have b7 : bt (strOfNums [x0, x1, x2, x3, x4, x5, x6, x7, x8]) 7 = x7 := bt_nums _ 7 x7 rfl r7.1 r7.2
    have e03 : (strOfNums [x0, x1, x2, x3, x4, x5, x6, x7, x8]).extract 0 3 = strOfNums [x0, x1, x2] := ext_nums _ 0 3
    have e36 : (strOfNums [x0, x1, x2, x3, x4, x5, x6, x7, x8]).extract 3 6 = strOfNums [x3, x4, x5] := ext_nums _ 3 6
    have e68 : (strOfNums [x0, x1, x2, x3, x4, x5, x6, x7, x8]).extract 6 8 = strOfNums [x6, x7] := ext_nums _ 6 8
    rw [b0] at d0
    rw [b1] at d1
    rw [b2] at d2
    rw [b6] at d6
    rw [b7] at d7
    rw [b0, b1, b2, b3, b4, b5, b6, b7, e03, e36, e68, atoi3 d0 d1 d2, atoi2 d6 d7]
    have w1 : wrap64 (max (100 * (x0 - 48) + 10 * (x1 - 48) + (x2 - 48)) 0) = wrap64 (wrap64 (wrap64 (100 * (x0 - 48)) + wrap64 (10 * (x1 - 48))) + (x2 - 48)) := by
      rw [w64_id (z := 100 * (x0 - 48)) (by omega) (by omega), w64_id (z := 10 * (x1 - 48)) (by omega) (by omega), w64_id (z := 100 * (x0 - 48) + 10 * (x1 - 48)) (by omega) (by omega), w64_id (by omega) (by omega), w64_id (by omega) (by omega)]
      omega
    have w2 : wrap64 (10 * (x6 - 48) + (x7 - 48)) = wrap64 (wrap64 (10 * (x6 - 48)) + (x7 - 48)) := by
      rw [w64_id (z := 10 * (x6 - 48)) (by omega) (by omega)]
    rw [w1, w2]
    simp
theorem star : "*" ++ "errors.errorString" = "*errors.errorString" := by decide
theorem rowErr (u : TypeId) (h : Tryd.prog.typeName? 3 u = some "*errors.errorString") : u = 78 :=
  typeName_ptr_named (nm := "errors.errorString") (by rw [star]; kernel_rfl) (by kernel_rfl) (by decide) u (by rw [star]; exact h)
end Go.Proofs.YthmciempoodhpaaDoor.fnExactReadLabel
