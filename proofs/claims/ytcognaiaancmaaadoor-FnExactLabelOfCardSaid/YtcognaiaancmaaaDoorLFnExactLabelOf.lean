/- The program's LabelOf answers as the reference's, for every book; the argument reads as it did. Condition: the listed tables hold what the program's text lays (tied). The part without the card: what comes in is readable, and the printed law is true of it. -/
import Derived.Test.YtcognaiaancmaaaDoorPLabelOfx
import Derived.Test.YtcognaiaancmaaaDoorOpen
import Derived.Test.YtcognaiaancmaaaDoorLoop
import Derived.Laws.IdiomArrays
import Derived.Stop.LaidErr
import Derived.Lib.LaidTab
import Derived.MakeChecks
import Derived.ProofKit
import Derived.OpenShut
namespace Go.Proofs.YtcognaiaancmaaaDoor.fnExactLabelOf
open Go.ChangeShapes Go.WideShapes Go.ChangeAt Go.RowKit
set_option linter.unusedVariables false
set_option linter.unusedSimpArgs false
open Go.Proofs.YtcognaiaancmaaaDoor.PLabelOf Go.Proofs.YtcognaiaancmaaaDoor.Base Go.Proofs.YtcognaiaancmaaaDoor.Gen Go.Proofs.YtcognaiaancmaaaDoor.Loop Go.Proofs.YtcognaiaancmaaaDoor.Open
open Go.Proofs.YtcognaiaancmaaaDoorW.PrintWords Go.Proofs.YtcognaiaancmaaaDoorW.PrintLast Go.Proofs.YtcognaiaancmaaaDoorW.PrintMore
theorem w64_id {z : Int} (h0 : -9223372036854775808 ≤ z) (h1 : z ≤ 9223372036854775807) : wrap64 z = z := by unfold wrap64; omega
theorem nums_append (xs ys : List Int) : strOfNums xs ++ strOfNums ys = strOfNums (xs ++ ys) := by
  unfold strOfNums
  rw [ByteArray.mk_append_mk]
  simp
theorem tm10 {c : Int} (h : 0 ≤ c) : Int.tmod c 10 = c % 10 := Int.tmod_eq_emod_of_nonneg h
theorem td10 {c : Int} (h : 0 ≤ c) : Int.tdiv c 10 = c / 10 := Int.tdiv_eq_ediv_of_nonneg h
theorem last {c : Int} (h : 0 ≤ c) : (wrap64 (48 + (Int.tmod c 10))) % 256 = 48 + c % 10 := by
  rw [tm10 h, w64_id (by omega) (by omega)]; omega
theorem dec1 {c : Int} (h0 : 0 ≤ c) (h1 : c < 10) : decS c = strOfNums [48 + c % 10] := by
  rw [decS_small h0 h1, last h0]
theorem dec2 {c : Int} (h0 : 10 ≤ c) (h1 : c < 100) : decS c = strOfNums [48 + c / 10 % 10, 48 + c % 10] := by
  rw [decS_big h0 (by omega), td10 (by omega), dec1 (by omega) (by omega), last (by omega), nums_append]; rfl
theorem dec3 {c : Int} (h0 : 100 ≤ c) (h1 : c < 1000) : decS c = strOfNums [48 + c / 100, 48 + c / 10 % 10, 48 + c % 10] := by
  rw [decS_big (by omega) (by omega), td10 (by omega), dec2 (by omega) (by omega), last (by omega), nums_append]
  rw [show c / 10 / 10 % 10 = c / 100 by omega]; rfl
theorem Decimal_is (k : Nat) : k ≤ 18 → ∀ n : Int, 0 ≤ n → n < (10 : Int) ^ (k + 1) → n ≤ 9223372036854775807 → spec_Decimal.f (k + 1) n = some (decS n) := by
  induction k with
  | zero =>
    intro _ n h0 h _
    have h10 : n < 10 := by simpa using h
    simp only [spec_Decimal.f]
    rw [if_pos h10, decS_small h0 h10]
  | succ k ih =>
    intro hk n h0 h h1
    by_cases h10 : n < 10
    · simp only [spec_Decimal.f]
      rw [if_pos h10, decS_small h0 h10]
    · have hd : 0 ≤ Int.tdiv n 10 := by rw [td10 h0]; omega
      have hlt : Int.tdiv n 10 < (10 : Int) ^ (k + 1) := by rw [td10 h0]; rw [Int.pow_succ] at h; omega
      have e2 : wrap64 (Int.tdiv n 10) = Int.tdiv n 10 := by rw [td10 h0] at hd ⊢; exact w64_id (by omega) (by omega)
      have hs : (decS (Int.tdiv n 10)).size ≤ 19 := Nat.le_trans (decS_size k _ hd hlt) (by omega)
      rw [spec_Decimal.f, if_neg h10, e2, ih (by omega) _ hd hlt (by rw [td10 h0]; omega)]
      simp only [Option.bind_some]
      rw [if_pos (by rw [strOfNums_size]; simp; omega), decS_big (by omega) h1]
theorem l0_step (k : Nat) (n : Int) (xs : List Int) (h : (xs.length : Int) < n) (hs : xs.length ≤ 1000) : spec_l07Digits.l0 (k + 1) n (strOfNums xs) = spec_l07Digits.l0 k n (strOfNums (48 :: xs)) := by
  simp only [spec_l07Digits.l0]
  rw [if_pos (by rw [strOfNums_size]; exact h), if_pos (by rw [strOfNums_size]; omega)]
  rw [show (⟨#[48]⟩ : ByteArray) = strOfNums [48] from rfl, nums_append]; rfl
theorem l0_stop (k : Nat) (n : Int) (xs : List Int) (h : ¬ (xs.length : Int) < n) : spec_l07Digits.l0 (k + 1) n (strOfNums xs) = some (strOfNums xs) := by
  simp only [spec_l07Digits.l0]
  rw [if_neg (by rw [strOfNums_size]; exact h)]
theorem spec3 {c : Int} (h0 : 0 ≤ c) (h1 : c < 1000) : spec_l07Digits.f 12 c 3 = some (strOfNums [48 + c / 100, 48 + c / 10 % 10, 48 + c % 10]) := by
  unfold spec_l07Digits.f
  rw [Decimal_is 11 (by omega) c h0 (by omega) (by omega)]
  simp only [Option.bind_some]
  by_cases a : c < 10
  · rw [dec1 h0 a, l0_step 11 3 _ (by simp) (by simp), l0_step 10 3 _ (by simp) (by simp), l0_stop 9 3 _ (by simp), show c / 100 = 0 by omega, show c / 10 % 10 = 0 by omega]; rfl
  · by_cases b : c < 100
    · rw [dec2 (by omega) b, l0_step 11 3 _ (by simp) (by simp), l0_stop 10 3 _ (by simp), show c / 100 = 0 by omega]; rfl
    · rw [dec3 (by omega) h1, l0_stop 11 3 _ (by simp)]
theorem spec2 {c : Int} (h0 : 0 ≤ c) (h1 : c < 100) : spec_l07Digits.f 12 c 2 = some (strOfNums [48 + c / 10 % 10, 48 + c % 10]) := by
  unfold spec_l07Digits.f
  rw [Decimal_is 11 (by omega) c h0 (by omega) (by omega)]
  simp only [Option.bind_some]
  by_cases a : c < 10
  · rw [dec1 h0 a, l0_step 11 2 _ (by simp) (by simp), l0_stop 10 2 _ (by simp), show c / 10 % 10 = 0 by omega]; rfl
  · rw [dec2 (by omega) h1, l0_stop 11 2 _ (by simp)]
theorem rep (n : Int) (h0 : 0 ≤ n) (h1 : n ≤ 1000) : strings_Repeat.f (⟨#[48]⟩ : ByteArray) n = some ⟨(Go.Lib.repeatL [48] n.toNat).toArray⟩ := by
  unfold strings_Repeat.f
  rw [if_pos h0, if_pos h1, if_pos (by decide)]
theorem pad_of {c n : Int} {xs : List Int} (h0 : 0 ≤ c) (h1 : c ≤ 32767) (hd : decS c = strOfNums xs) (hn : n - xs.length = 0 ∨ n - xs.length = 1 ∨ n - xs.length = 2) (hl : xs.length ≤ 3) :
    impl_padded.f c n = some (strOfNums (List.replicate (n - xs.length).toNat 48 ++ xs)) := by
  unfold impl_padded.f impl_dec_int16.f
  rw [if_pos h0, if_pos h1]
  simp only [Option.bind_some]
  rw [hd, strOfNums_size, w64_id (by omega) (by omega), rep _ (by omega) (by omega)]
  simp only [Option.bind_some]
  have e : (⟨(Go.Lib.repeatL [48] (n - (xs.length : Int)).toNat).toArray⟩ : ByteArray) = strOfNums (List.replicate (n - (xs.length : Int)).toNat 48) := by
    rcases hn with h | h | h <;> rw [h] <;> rfl
  rw [e, if_pos (by rw [strOfNums_size]; simp; omega), nums_append]
theorem impl3 {c : Int} (h0 : 0 ≤ c) (h1 : c < 1000) : impl_padded.f c 3 = some (strOfNums [48 + c / 100, 48 + c / 10 % 10, 48 + c % 10]) := by
  by_cases a : c < 10
  · rw [pad_of h0 (by omega) (dec1 h0 a) (by simp) (by simp), show c / 100 = 0 by omega, show c / 10 % 10 = 0 by omega]; rfl
  · by_cases b : c < 100
    · rw [pad_of h0 (by omega) (dec2 (by omega) b) (by simp) (by simp), show c / 100 = 0 by omega]; rfl
    · rw [pad_of h0 (by omega) (dec3 (by omega) h1) (by simp) (by simp)]; rfl
theorem impl2 {c : Int} (h0 : 0 ≤ c) (h1 : c < 100) : impl_padded.f c 2 = some (strOfNums [48 + c / 10 % 10, 48 + c % 10]) := by
  by_cases a : c < 10
  · rw [pad_of h0 (by omega) (dec1 h0 a) (by simp) (by simp), show c / 10 % 10 = 0 by omega]; rfl
  · rw [pad_of h0 (by omega) (dec2 (by omega) h1) (by simp) (by simp)]; rfl
set_option maxRecDepth 100000 in
theorem value_all : ∀ n : Fin 256, impl_valueOf.f (n.val : Int) = some (spec_l07Check.val (n.val : Int)) := by decide +kernel
theorem value_is (b : Int) (h0 : 0 ≤ b) (h1 : b ≤ 255) : impl_valueOf.f b = some (spec_l07Check.val b) := by
  have := value_all ⟨b.toNat, by omega⟩
  rw [show ((b.toNat : Nat) : Int) = b by omega] at this
  exact this
def ws : List Int := [1, 3, 7, 9, 1, 3, 7, 9]
theorem rd_ws (n : Nat) (h : n < 8) : rd ws (n : Int) = spec_l07Check.wt n := by
  have h8 : n = 0 ∨ n = 1 ∨ n = 2 ∨ n = 3 ∨ n = 4 ∨ n = 5 ∨ n = 6 ∨ n = 7 := by omega
  rcases h8 with rfl | rfl | rfl | rfl | rfl | rfl | rfl | rfl <;> rfl
theorem c_step (k n : Nat) (t : ByteArray) (hn : n < 8) (ht : 8 ≤ t.size) : impl_checked.l0 (k + 1) t (spec_l07Check.sum t n) ws 8 (n : Int) = impl_checked.l0 k t (spec_l07Check.sum t (n + 1)) ws 8 ((n + 1 : Nat) : Int) := by
  have hl : ((ws.length : Nat) : Int) = 8 := rfl
  simp only [impl_checked.l0]
  rw [if_pos (by omega), if_pos (by omega), if_pos (by rw [hl]; omega), if_pos (by omega), value_is _ (bt_range t n).1 (bt_range t n).2]
  simp only [Option.bind_some]
  rw [rd_ws n hn, Int.mul_comm, show wrap64 ((n : Int) + 1) = ((n + 1 : Nat) : Int) by rw [w64_id (by omega) (by omega)]; omega]
  rfl
theorem sum_bounds (t : ByteArray) (hv : ∀ i : Nat, i < 8 → 0 ≤ spec_l07Check.val (bt t i) ∧ spec_l07Check.val (bt t i) ≤ 35) : ∀ n : Nat, n ≤ 8 → 0 ≤ spec_l07Check.sum t n ∧ spec_l07Check.sum t n ≤ 315 * n := by
  intro n
  induction n with
  | zero => intro _; exact ⟨Int.le_refl _, Int.le_refl _⟩
  | succ n ih =>
    intro h
    obtain ⟨a, b⟩ := ih (by omega)
    obtain ⟨c, d⟩ := hv n (by omega)
    have hw : spec_l07Check.wt n = 1 ∨ spec_l07Check.wt n = 3 ∨ spec_l07Check.wt n = 7 ∨ spec_l07Check.wt n = 9 := by unfold spec_l07Check.wt; split <;> simp
    simp only [spec_l07Check.sum]
    generalize spec_l07Check.val (bt t n) = v at *
    rcases hw with h | h | h | h <;> rw [h, w64_id (z := v * _) (by omega) (by omega), w64_id (by omega) (by omega)] <;> omega
theorem check_is (t : ByteArray) (ht : t.size = 8) (hv : ∀ i : Nat, i < 8 → 0 ≤ spec_l07Check.val (bt t i) ∧ spec_l07Check.val (bt t i) ≤ 35) :
    ∃ ck, spec_l07Check.f t = some ck ∧ impl_checked.f 12 t = some (t ++ strOfNums [ck]) := by
  obtain ⟨b0, b1⟩ := sum_bounds t hv 8 (by omega)
  refine ⟨_, by unfold spec_l07Check.f; rw [if_pos (by omega)], ?_⟩
  unfold impl_checked.f impl_weights.f
  simp only [Option.bind_some]
  have e : impl_checked.l0 12 t 0 [1, 3, 7, 9, 1, 3, 7, 9] ((([1, 3, 7, 9, 1, 3, 7, 9] : List Int).length : Nat) : Int) 0 = impl_checked.l0 4 t (spec_l07Check.sum t 8) ws 8 ((8 : Nat) : Int) := by
    show impl_checked.l0 (11 + 1) t (spec_l07Check.sum t 0) ws 8 ((0 : Nat) : Int) = _
    rw [c_step 11 0 t (by omega) (by omega), c_step 10 1 t (by omega) (by omega), c_step 9 2 t (by omega) (by omega), c_step 8 3 t (by omega) (by omega), c_step 7 4 t (by omega) (by omega), c_step 6 5 t (by omega) (by omega), c_step 5 6 t (by omega) (by omega), c_step 4 7 t (by omega) (by omega)]
  rw [e]
  show impl_checked.l0 (3 + 1) _ _ _ _ _ = _
  simp only [impl_checked.l0]
  rw [if_neg (by omega)]
  unfold impl_dec_int.f
  rw [tm10 b0, if_pos (by omega), if_pos (by omega)]
  simp only [Option.bind_some]
  rw [dec1 (by omega) (by omega), if_pos (by rw [strOfNums_size]; simp; omega)]
  congr 3
  rw [w64_id (by omega) (by omega), IntKind.wrap_u8]
  congr 1
  omega
theorem bt_nums (xs : List Int) (i : Nat) (x : Int) (hx : xs[i]? = some x) (h0 : 0 ≤ x) (h1 : x ≤ 255) : bt (strOfNums xs) (i : Int) = x := by
  have hl := (List.getElem?_eq_some_iff.1 hx)
  obtain ⟨hl, he⟩ := hl
  unfold bt
  rw [Int.toNat_natCast, dif_pos (by rw [strOfNums_size]; exact hl)]
  have e : (strOfNums xs)[i]'(by rw [strOfNums_size]; exact hl) = UInt8.ofNat x.toNat := by
    show (strOfNums xs).data[i]'_ = _
    unfold strOfNums
    simp [he]
  rw [e]
  simp
  omega
theorem val_dig {x : Int} (h : 0 ≤ x) (h1 : x < 10) : 0 ≤ spec_l07Check.val (48 + x) ∧ spec_l07Check.val (48 + x) ≤ 35 := by
  unfold spec_l07Check.val
  rw [if_pos (by omega)]; omega
theorem val_let {x : Int} (h : 97 ≤ x) (h1 : x ≤ 122) : 0 ≤ spec_l07Check.val x ∧ spec_l07Check.val x ≤ 35 := by
  unfold spec_l07Check.val
  rw [if_neg (by omega), if_pos (by omega)]; omega
theorem in_is (a lo hi : Int) : spec_l00In.f a lo hi = some (impl_ValidBook.iw a lo hi) := by
  unfold spec_l00In.f impl_ValidBook.iw
  by_cases h : lo ≤ a <;> simp [h, ge_iff_le]
theorem mark_is (a b c : Int) : spec_l01Mark.f a b c = some (impl_ValidBook.sm a && (impl_ValidBook.sm b && impl_ValidBook.sm c)) := by
  unfold spec_l01Mark.f impl_ValidBook.sm
  congr 1
  rw [← Bool.decide_and, ← Bool.decide_and]
  exact decide_eq_decide.2 (by constructor <;> intro h <;> omega)
theorem book_is (c m0 m1 m2 v x y z : Int) (hc : -32768 ≤ c ∧ c ≤ 32767) (hv : -32768 ≤ v ∧ v ≤ 32767) (hx : -32768 ≤ x ∧ x ≤ 32767) (hy : -32768 ≤ y ∧ y ≤ 32767) (hz : -32768 ≤ z ∧ z ≤ 32767) :
    spec_l01Book.f 12 c m0 m1 m2 v x y z = some (impl_ValidBook.b c m0 m1 m2 v x y z, c, m0, m1, m2, v, x, y, z) := by
  unfold spec_l01Book.f spec_l01Class.f impl_ValidBook.b
  rw [w64_id (z := c) (by omega) (by omega), w64_id (z := v) (by omega) (by omega), in_is, in_is, mark_is]
  have j (bb : Bool) : spec_l01Book.j0 12 bb c m0 m1 m2 v x y z = some (!bb && impl_ValidBook.iw x 1 100 && impl_ValidBook.iw y 50 400 && impl_ValidBook.iw z 1 9999, c, m0, m1, m2, v, x, y, z) := by
    show spec_l01Book.j0 (11 + 1) bb c m0 m1 m2 v x y z = _
    simp only [spec_l01Book.j0]
    rw [w64_id (z := x) (by omega) (by omega), w64_id (z := y) (by omega) (by omega), w64_id (z := z) (by omega) (by omega), in_is, in_is, in_is]
    cases bb <;> cases impl_ValidBook.iw x 1 100 <;> cases impl_ValidBook.iw y 50 400 <;> cases impl_ValidBook.iw z 1 9999 <;> rfl
  cases impl_ValidBook.iw c 0 999 <;> cases (impl_ValidBook.sm m0 && (impl_ValidBook.sm m1 && impl_ValidBook.sm m2)) <;> cases impl_ValidBook.iw v 1 99 <;> simp [j]
theorem pure (c m0 m1 m2 v x y z : Int) (hc : -32768 ≤ c ∧ c ≤ 32767) (hv : -32768 ≤ v ∧ v ≤ 32767) (hx : -32768 ≤ x ∧ x ≤ 32767) (hy : -32768 ≤ y ∧ y ≤ 32767) (hz : -32768 ≤ z ∧ z ≤ 32767) :
    laws_FnExactLabelOf.f c m0 m1 m2 v x y z = some true := by
  unfold laws_FnExactLabelOf.f laws_toBook.f laws_toByteA3.f spec_LabelOf.f impl_LabelOf.f impl_ValidBook.f
  simp only [Option.bind_some]
  rw [book_is c m0 m1 m2 v x y z hc hv hx hy hz]
  simp only [Option.bind_some]
  by_cases hb : impl_ValidBook.b c m0 m1 m2 v x y z = true
  · rw [if_pos hb, if_pos hb]
    unfold impl_ValidBook.b impl_ValidBook.iw impl_ValidBook.sm at hb
    simp only [Bool.and_eq_true, decide_eq_true_eq] at hb
    obtain ⟨⟨⟨⟨⟨c0, ma, mb, mc⟩, v0⟩, _⟩, _⟩, _⟩ := hb
    unfold spec_LabelOf.g impl_labelOf.f
    rw [w64_id (z := c) (by omega) (by omega), w64_id (z := v) (by omega) (by omega), spec3 c0.1 (by omega), spec2 (by omega) (by omega), impl3 c0.1 (by omega), impl2 (by omega) (by omega)]
    simp only [Option.bind_some]
    rw [if_pos (by rw [strOfNums_size]; rfl), if_pos (by rw [strOfNums_size]; rfl), if_pos (by rw [strOfNums_size]; rfl), if_pos (by rw [strOfNums_size]; rfl)]
    rw [nums_append, nums_append]
    obtain ⟨ck, e1, e2⟩ := check_is (strOfNums ([48 + c / 100, 48 + c / 10 % 10, 48 + c % 10] ++ [m0, m1, m2] ++ [48 + v / 10 % 10, 48 + v % 10])) (by rw [strOfNums_size]; rfl) (by
      intro i hi
      have h8 : i = 0 ∨ i = 1 ∨ i = 2 ∨ i = 3 ∨ i = 4 ∨ i = 5 ∨ i = 6 ∨ i = 7 := by omega
      rcases h8 with rfl | rfl | rfl | rfl | rfl | rfl | rfl | rfl
      · rw [bt_nums _ 0 (48 + c / 100) rfl (by omega) (by omega)]; exact val_dig (by omega) (by omega)
      · rw [bt_nums _ 1 (48 + c / 10 % 10) rfl (by omega) (by omega)]; exact val_dig (by omega) (by omega)
      · rw [bt_nums _ 2 (48 + c % 10) rfl (by omega) (by omega)]; exact val_dig (by omega) (by omega)
      · rw [bt_nums _ 3 m0 rfl (by omega) (by omega)]; exact val_let ma.1 ma.2
      · rw [bt_nums _ 4 m1 rfl (by omega) (by omega)]; exact val_let mb.1 mb.2
      · rw [bt_nums _ 5 m2 rfl (by omega) (by omega)]; exact val_let mc.1 mc.2
      · rw [bt_nums _ 6 (48 + v / 10 % 10) rfl (by omega) (by omega)]; exact val_dig (by omega) (by omega)
      · rw [bt_nums _ 7 (48 + v % 10) rfl (by omega) (by omega)]; exact val_dig (by omega) (by omega))
    rw [e1, e2]
    simp only [Option.bind_some, if_true]
  · rw [if_neg hb, if_neg hb]
    simp only [Option.bind_some, if_true]
theorem cellsB : Tryd.prog.cellsOf 39 = 8 := by kernel_rfl
set_option maxRecDepth 100000 in
theorem open_book {H : Type} {enc : TypeId × Value → H} {w : World} {base : Nat} {spare : Nat → Bool} {held : Bool} {fuel : Nat} {cs : List Value} {q : DataW H × List MemPlace} (h : DataW.trod enc Tryd.prog w base spare held fuel 39 cs = some q) :
    ∃ c m0 m1 m2 v x y z, cs = [.int .i16 c, .int .u8 m0, .int .u8 m1, .int .u8 m2, .int .i16 v, .int .i16 x, .int .i16 y, .int .i16 z] ∧ (-32768 ≤ c ∧ c ≤ 32767) ∧ (-32768 ≤ v ∧ v ≤ 32767) ∧ (-32768 ≤ x ∧ x ≤ 32767) ∧ (-32768 ≤ y ∧ y ≤ 32767) ∧ (-32768 ≤ z ∧ z ≤ 32767) := by
  obtain ⟨xs, n, _, _, hl, hx, hf⟩ := DataW.trod_struct Tryd.underlying39 h
  rw [cellsB] at hl
  obtain ⟨c0, c1, c2, c3, c4, c5, c6, c7, rfl⟩ : ∃ c0 c1 c2 c3 c4 c5 c6 c7, cs = [c0, c1, c2, c3, c4, c5, c6, c7] := by
    match cs, hl with
    | [c0, c1, c2, c3, c4, c5, c6, c7], _ => exact ⟨c0, c1, c2, c3, c4, c5, c6, c7, rfl⟩
  obtain ⟨x0, x1, x2, x3, x4, x5, rfl⟩ : ∃ x0 x1 x2 x3 x4 x5, xs = [x0, x1, x2, x3, x4, x5] := by
    match xs, hx with
    | [x0, x1, x2, x3, x4, x5], _ => exact ⟨x0, x1, x2, x3, x4, x5, rfl⟩
  obtain ⟨y0, k0, o0⟩ := opens_int Tryd.underlying36 enc w base spare held n [c0] x0 (hf 0 _ rfl)
  obtain ⟨z1, z2, z3, n1, _, a1, a2, a3⟩ := trod_array3 Tryd.underlying37 (by kernel_rfl) (show DataW.trod enc Tryd.prog w base spare held n 37 [c1, c2, c3] = some x1 from hf 1 _ rfl)
  obtain ⟨b1, k1, _⟩ := opens_int Tryd.underlying5 enc w base spare held n1 [c1] z1 a1
  obtain ⟨b2, k2, _⟩ := opens_int Tryd.underlying5 enc w base spare held n1 [c2] z2 a2
  obtain ⟨b3, k3, _⟩ := opens_int Tryd.underlying5 enc w base spare held n1 [c3] z3 a3
  obtain ⟨y2, k4, o2⟩ := opens_int Tryd.underlying36 enc w base spare held n [c4] x2 (hf 2 _ rfl)
  obtain ⟨y3, k5, o3⟩ := opens_int Tryd.underlying36 enc w base spare held n [c5] x3 (hf 3 _ rfl)
  obtain ⟨y4, k6, o4⟩ := opens_int Tryd.underlying36 enc w base spare held n [c6] x4 (hf 4 _ rfl)
  obtain ⟨y5, k7, o5⟩ := opens_int Tryd.underlying36 enc w base spare held n [c7] x5 (hf 5 _ rfl)
  obtain rfl : c0 = _ := List.head_eq_of_cons_eq k0
  obtain rfl : c1 = _ := List.head_eq_of_cons_eq k1
  obtain rfl : c2 = _ := List.head_eq_of_cons_eq k2
  obtain rfl : c3 = _ := List.head_eq_of_cons_eq k3
  obtain rfl : c4 = _ := List.head_eq_of_cons_eq k4
  obtain rfl : c5 = _ := List.head_eq_of_cons_eq k5
  obtain rfl : c6 = _ := List.head_eq_of_cons_eq k6
  obtain rfl : c7 = _ := List.head_eq_of_cons_eq k7
  exact ⟨y0, b1, b2, b3, y2, y3, y4, y5, rfl, bounds_i16 o0, bounds_i16 o2, bounds_i16 o3, bounds_i16 o4, bounds_i16 o5⟩
end Go.Proofs.YtcognaiaancmaaaDoor.fnExactLabelOf
