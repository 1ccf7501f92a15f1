-- made by a program of this session (wip/pext.py) out of the translation; the parts by hand are wip/ext's
import Derived.Test.YtcognaiaancmaaaDoorPLabelOfx0
import Derived.Test.YtcognaiaancmaaaDoorPLabelOfx1
namespace Go.Proofs.YtcognaiaancmaaaDoor.PLabelOf
open Go.RowKit Go.Proofs.YtcognaiaancmaaaDoorW.PrintWords Go.Proofs.YtcognaiaancmaaaDoorW.PrintLast Go.Proofs.YtcognaiaancmaaaDoorW.PrintMore
attribute [local go_sem] max2_int min2_int max_two min_two max_three min_three max_four min_four   -- for this text's walks alone
set_option linter.unusedVariables false
set_option linter.unusedSimpArgs false

/-! ### spec_l07Digits: function 44 -/
def spec_l07Digits.l0 : Nat → Int → ByteArray → Option (ByteArray)
  | 0, _, _ => none
  | k + 1, x1, x5 => if (x5.size : Int) < x1 then (if 1 + x5.size ≤ 9223372036854775807 then (spec_l07Digits.l0 k x1 ((⟨#[48]⟩ : ByteArray) ++ x5)) else (none)) else (some x5)
def spec_l07Digits.f (k : Nat) (a0 : Int) (a1 : Int) : Option (ByteArray) := (spec_Decimal.f k a0).bind fun t115 => (spec_l07Digits.l0 k a1 t115)
theorem spec_l07Digits.mono_l : ∀ k, (∀ y0 y1, LeO (spec_l07Digits.l0 k y0 y1) (spec_l07Digits.l0 (k + 1) y0 y1))
  | 0 => fun _ _ r h => by simp [spec_l07Digits.l0] at h
  | k + 1 => by
    have ih0 := spec_l07Digits.mono_l k
    · intro y0 y1
      unfold spec_l07Digits.l0
      repeat' first
      | (with_reducible exact ih0 _ _)
      | (with_reducible exact spec_Decimal.mono _ _)
      | (with_reducible exact LeO.refl _)
      | (with_reducible exact LeO.none _)
      | (with_reducible refine LeO.ite ?_ ?_)
      | (with_reducible refine LeO.bind ?_ (fun _ => ?_))
      | exact ih0 _ _
      | exact spec_Decimal.mono _ _
      | exact LeO.none _
      | refine LeO.ite ?_ ?_
      | refine LeO.bind ?_ (fun _ => ?_)
theorem spec_l07Digits.mono : ∀ a0 a1 k, LeO (spec_l07Digits.f k a0 a1) (spec_l07Digits.f (k + 1) a0 a1) := by
  intro a0 a1 k
  have ih0 := spec_l07Digits.mono_l k
  unfold spec_l07Digits.f
  repeat' first
      | (with_reducible exact ih0 _ _)
      | (with_reducible exact spec_Decimal.mono _ _)
      | (with_reducible exact LeO.refl _)
      | (with_reducible exact LeO.none _)
      | (with_reducible refine LeO.ite ?_ ?_)
      | (with_reducible refine LeO.bind ?_ (fun _ => ?_))
      | exact ih0 _ _
      | exact spec_Decimal.mono _ _
      | exact LeO.none _
      | refine LeO.ite ?_ ?_
      | refine LeO.bind ?_ (fun _ => ?_)
set_option maxHeartbeats 8000000 in
set_option maxRecDepth 100000 in
theorem spec_l07Digits.calls (k : Nat) (a0 : Int) (a1 : Int) (r : ByteArray) (w : World) (ht_ : Go.Proofs.YtcognaiaancmaaaDoor.Tbl.Tb w) (h : spec_l07Digits.f k a0 a1 = some r) :
    Calls Tryd.prog 44 #[.int .i64 a0, .int .i64 a1] w fun e w' => e = .returned (.string r) ∧ Below w.heap.size w w' := by
  have HTB_ := Aside0.mk ht_
  clear ht_
  have HB := Aside0.mk (Below.refl w.heap.size w)
  have H : ((spec_Decimal.f k a0).bind fun t115 => (spec_l07Digits.l0 k a1 t115)) = some r := h
  clear h
  replace H := Option.bind_eq_some_iff.mp H
  obtain ⟨t115, A30, H⟩ := H
  replace H : (spec_l07Digits.l0 k a1 t115) = some r := H
  have A3 := Aside0.mk A30
  clear A30
  have H' := Aside0.mk H
  clear H
  go_enter Tryd.func44, Tryd.ntmps44
  go_wp2_with (first | ((with_reducible refine gate_callee (f := 33) rfl ?_); refine goesL_ (some 7) rfl rfl Tryd.func33 (by kernel_rfl) rfl #[.int .i64 a0] rfl (by (try simp only [List.map_toArray, List.map_cons, List.map_nil]); first | done | rfl | (simp only [List.length_drop, List.length_take]; rfl)) ?_; (with_reducible refine (spec_Decimal.calls k a0 t115 _ ?side1 A3.out).mono ?_); (case side1 => exact HTB_.out.later (by repeat (first | (with_reducible first | exact HB.out | apply below_alloc | apply pw_below_drewN | apply below_drew1) | exact HB.out))); rintro e w4 ⟨rfl, hb⟩; refine ⟨_, rfl, ?_⟩; have n0_ := Aside0.mk (below_step (by repeat (first | (with_reducible first | exact HB.out | apply below_alloc | apply pw_below_drewN | apply below_drew1) | exact HB.out)) hb); clear HB; have HB := n0_; clear n0_; (try clear hb); (try clear hb2); (try clear hk); (try clear hi)))
  go_loopg [5] k (fun kq v5 w' => ∃ (x5_1 : ByteArray), v5 = .string x5_1 ∧ Aside0 (spec_l07Digits.l0 kq a1 x5_1 = some r) ∧ Aside0 (kq ≤ k) ∧ Aside0 (Below w.heap.size w w'))
  case atStart => exact ⟨(t115), (by first | rfl | (simp; done) | (simp [*]; done)), H', ⟨Nat.le_refl _⟩, ⟨by repeat (first | (with_reducible first | exact HB.out | apply below_alloc | apply pw_below_drewN | apply below_drew1) | exact HB.out)⟩⟩
  case round =>
    clear H'
    try clear p2
    try clear c3
    try clear c4
    obtain ⟨x5_1, rfl, HA, HK1, HB⟩ := hrel
    cases gk with
    | zero => exact absurd HA.out (by simp [spec_l07Digits.l0])
    | succ k1 =>
      have H := HA.out
      clear HA
      simp only [spec_l07Digits.l0] at H
      by_cases c5 : (x5_1.size : Int) < a1
      · rw [if_pos c5] at H
        have c5b0 : decide ((x5_1.size : Int) < a1) = true := decide_eq_true c5
        clear c5
        by_cases c6 : 1 + x5_1.size ≤ 9223372036854775807
        · rw [if_pos c6] at H
          have c6b0 := eq_true c6
          have c6b1 : decide (1 + x5_1.size ≤ 9223372036854775807) = true := decide_eq_true c6
          try have c6b2 : (9223372036854775807 < 1 + x5_1.size) = False := eq_false (Nat.not_lt.2 c6)
          have H' := Aside0.mk H
          clear H
          go_wp2
          go_roundg k1
          case measure => have := HK1.out; omega
          case rel => exact ⟨((⟨#[48]⟩ : ByteArray) ++ x5_1), (by first | rfl | (simp; done) | (simp [*]; done)), H', ⟨by have := HK1.out; omega⟩, ⟨by repeat (first | (with_reducible first | exact HB.out | apply below_alloc | apply pw_below_drewN | apply below_drew1) | exact HB.out)⟩⟩
        · rw [if_neg c6] at H
          exact absurd H (by simp)
      · rw [if_neg c5] at H
        have c5b0 : decide ((x5_1.size : Int) < a1) = false := decide_eq_false c5
        clear c5
        obtain rfl := Option.some.inj H
        go_wp2
        go_ret
        exact ⟨by first | rfl | (simp [errW_none, errW_some] <;> rfl) | (simp [*, errW_none, errW_some] <;> rfl), by repeat (first | (with_reducible first | exact HB.out | apply below_alloc | apply pw_below_drewN | apply below_drew1) | exact HB.out)⟩

/-! ### spec_l07Value: function 55 -/
def spec_l07Value.j0 : Nat → Int → Bool → Option (Int)
  | 0, _, _ => none
  | k + 1, x0, x3 => if x3 = true then (some ((x0 - 48) % 256)) else (if x0 ≥ 97 then (if x0 ≤ 122 then (some (((x0 - 97) % 256) + 1)) else (some (-1))) else (some (-1)))
def spec_l07Value.f (k : Nat) (a0 : Int) : Option (Int) := if a0 ≥ 48 then (spec_l07Value.j0 k a0 (decide (a0 ≤ 57))) else (spec_l07Value.j0 k a0 false)
theorem spec_l07Value.mono_l : ∀ k, (∀ y0 y1, LeO (spec_l07Value.j0 k y0 y1) (spec_l07Value.j0 (k + 1) y0 y1))
  | 0 => fun _ _ r h => by simp [spec_l07Value.j0] at h
  | k + 1 => by
    have ih0 := spec_l07Value.mono_l k
    · intro y0 y1
      unfold spec_l07Value.j0
      repeat' first
      | (with_reducible exact ih0 _ _)
      | (with_reducible exact LeO.refl _)
      | (with_reducible exact LeO.none _)
      | (with_reducible refine LeO.ite ?_ ?_)
      | (with_reducible refine LeO.bind ?_ (fun _ => ?_))
      | exact ih0 _ _
      | exact LeO.none _
      | refine LeO.ite ?_ ?_
      | refine LeO.bind ?_ (fun _ => ?_)
theorem spec_l07Value.mono : ∀ a0 k, LeO (spec_l07Value.f k a0) (spec_l07Value.f (k + 1) a0) := by
  intro a0 k
  have ih0 := spec_l07Value.mono_l k
  unfold spec_l07Value.f
  repeat' first
      | (with_reducible exact ih0 _ _)
      | (with_reducible exact LeO.refl _)
      | (with_reducible exact LeO.none _)
      | (with_reducible refine LeO.ite ?_ ?_)
      | (with_reducible refine LeO.bind ?_ (fun _ => ?_))
      | exact ih0 _ _
      | exact LeO.none _
      | refine LeO.ite ?_ ?_
      | refine LeO.bind ?_ (fun _ => ?_)
set_option maxHeartbeats 8000000 in
set_option maxRecDepth 100000 in
theorem spec_l07Value.calls (k : Nat) (a0 : Int) (r : Int) (w : World) (h : spec_l07Value.f k a0 = some r) :
    Calls Tryd.prog 55 #[.int .u8 a0] w fun e w' => e = .returned (.int .i64 r) ∧ Drawn0 w w' := by
  have H : (if a0 ≥ 48 then (spec_l07Value.j0 k a0 (decide (a0 ≤ 57))) else (spec_l07Value.j0 k a0 false)) = some r := h
  clear h
  have HC2 := Aside0.mk H
  clear H
  go_enter Tryd.func55, Tryd.ntmps55
  go_upto_region 1 with (fail)
  go_cut [3] (fun v3 wc => ∃ (kq : Nat) (x3_1 : Bool), v3 = .bool x3_1 ∧ Aside0 (spec_l07Value.j0 kq a0 x3_1 = some r) ∧ Aside0 (kq ≤ k) ∧ Drawn0 w wc)
  case first =>
    have H := HC2.out
    clear HC2
    by_cases c3 : a0 ≥ 48
    · rw [if_pos c3] at H
      have c3b0 : decide (48 ≤ a0) = true := decide_eq_true c3
      clear c3
      (first | rw [c3b0] | (simp only [i64_w, i32_w]; rw [c3b0]) | skip)
      have H' := Aside0.mk H
      clear H
      go_wp2
      go_meet
      case rel => exact ⟨_, (decide (a0 ≤ 57)), (by first | rfl | (simp; done) | (simp [*]; done)), H', ⟨by first | omega | exact Nat.le_refl _⟩, by repeat (first | exact Drawn0.refl _ | apply Drawn0.step)⟩
    · rw [if_neg c3] at H
      have c3b0 : decide (48 ≤ a0) = false := decide_eq_false c3
      clear c3
      (first | rw [c3b0] | (simp only [i64_w, i32_w]; rw [c3b0]) | skip)
      have H' := Aside0.mk H
      clear H
      go_wp2
      go_meet
      case rel => exact ⟨_, (false), (by first | rfl | (simp; done) | (simp [*]; done)), H', ⟨by first | omega | exact Nat.le_refl _⟩, by repeat (first | exact Drawn0.refl _ | apply Drawn0.step)⟩
  case rest =>
    clear HC2
    try clear p2
    try clear c3
    try clear c3b0
    obtain ⟨kq, x3_1, rfl, HA, HJ1, ⟨mc1, rfl⟩⟩ := hcut
    cases kq with
    | zero => exact absurd HA.out (by simp [spec_l07Value.j0])
    | succ kj1 =>
      have H := HA.out
      clear HA
      simp only [spec_l07Value.j0] at H
      by_cases c4 : x3_1 = true
      · subst c4
        have H1 : (some ((a0 - 48) % 256)) = some r := by rw [if_pos rfl] at H; exact H
        clear H
        have H := H1
        clear H1
        obtain rfl := Option.some.inj H
        go_wp2
        go_ret
        exact ⟨by first | rfl | (simp; done) | (simp [*]; done), by repeat (first | exact Drawn0.refl _ | apply Drawn0.step)⟩
      · replace c4 := Bool.eq_false_iff.mpr c4
        subst c4
        have H1 : (if a0 ≥ 97 then (if a0 ≤ 122 then (some (((a0 - 97) % 256) + 1)) else (some (-1))) else (some (-1))) = some r := by rw [if_neg (show ¬ (false = true) by decide)] at H; exact H
        clear H
        have H := H1
        clear H1
        by_cases c5 : a0 ≥ 97
        · rw [if_pos c5] at H
          have c5b0 : decide (97 ≤ a0) = true := decide_eq_true c5
          clear c5
          by_cases c6 : a0 ≤ 122
          · rw [if_pos c6] at H
            have c6b0 : decide (a0 ≤ 122) = true := decide_eq_true c6
            clear c6
            obtain rfl := Option.some.inj H
            go_wp2
            go_ret
            exact ⟨by first | rfl | (simp; done) | (simp [*]; done), by repeat (first | exact Drawn0.refl _ | apply Drawn0.step)⟩
          · rw [if_neg c6] at H
            have c6b0 : decide (a0 ≤ 122) = false := decide_eq_false c6
            clear c6
            obtain rfl := Option.some.inj H
            go_wp2
            go_ret
            exact ⟨by first | rfl | (simp; done) | (simp [*]; done), by repeat (first | exact Drawn0.refl _ | apply Drawn0.step)⟩
        · rw [if_neg c5] at H
          have c5b0 : decide (97 ≤ a0) = false := decide_eq_false c5
          clear c5
          obtain rfl := Option.some.inj H
          go_wp2
          go_ret
          exact ⟨by first | rfl | (simp; done) | (simp [*]; done), by repeat (first | exact Drawn0.refl _ | apply Drawn0.step)⟩

/-! ### spec_l07Check: function 45 -/
def spec_l07Check.val (b : Int) : Int := if 48 ≤ b ∧ b ≤ 57 then b - 48 else if 97 ≤ b ∧ b ≤ 122 then b - 96 else -1
def spec_l07Check.wt (n : Nat) : Int := match n with
  | 0 => 1 | 1 => 3 | 2 => 7 | 3 => 9 | 4 => 1 | 5 => 3 | 6 => 7 | _ => 9
def spec_l07Check.sum (t : ByteArray) : Nat → Int
  | 0 => 0
  | n + 1 => wrap64 (spec_l07Check.sum t n + wrap64 (spec_l07Check.val (bt t n) * spec_l07Check.wt n))
def spec_l07Check.f (a0 : ByteArray) : Option Int := if 8 ≤ a0.size then some (IntKind.u8.wrap (wrap64 (48 + Int.tmod (spec_l07Check.sum a0 8) 10))) else none
theorem spec_l07Check.val_is (b : Int) (h0 : 0 ≤ b) (h1 : b ≤ 255) : spec_l07Value.f 3 b = some (spec_l07Check.val b) := by
  unfold spec_l07Value.f spec_l07Check.val
  have w48 : b - 48 = b - 48 := rfl
  by_cases c0 : 48 ≤ b <;> by_cases c1 : b ≤ 57 <;> by_cases c2 : 97 ≤ b <;> by_cases c3 : b ≤ 122
  all_goals first
    | (exfalso; omega)
    | (simp [spec_l07Value.j0, c0, c1, c2, c3, ge_iff_le, IntKind.wrap_u8, wrap64]; done)
    | (simp [spec_l07Value.j0, c0, c1, c2, c3, ge_iff_le, IntKind.wrap_u8, wrap64]; omega)
theorem spec_l07Check.w64 (z : Int) : IntKind.i64.wrap z = wrap64 z := by rw [IntKind.wrap_i64]; unfold wrap64; omega
set_option maxHeartbeats 8000000 in
theorem spec_l07Check.calls (a0 : ByteArray) (r : Int) (w : World) (h : spec_l07Check.f a0 = some r) :
    Calls Tryd.prog 45 #[.string a0] w fun e w' => e = .returned (.int .u8 r) ∧ Below w.heap.size w w' := by
  unfold spec_l07Check.f at h
  by_cases h8 : 8 ≤ a0.size
  · rw [if_pos h8] at h
    obtain rfl := Option.some.inj h
    clear h
    have HV := Aside0.mk (fun i => spec_l07Check.val_is (bt a0 i) (bt_range a0 i).1 (bt_range a0 i).2)
    have HS := Aside0.mk h8
    clear h8
    go_enter Tryd.func45, Tryd.ntmps45
    go_wp2
    go_loopg [4, 5] 9 (fun gg s i wr => ∃ kk : Nat, kk ≤ 8 ∧ kk + gg = 9 ∧ s = .int .i64 (spec_l07Check.sum a0 kk) ∧ i = .int .i64 kk ∧ Aside0 (Below (w.alloc (.cells #[.int .i64 1, .int .i64 3, .int .i64 7, .int .i64 9] 80)).heap.size (w.alloc (.cells #[.int .i64 1, .int .i64 3, .int .i64 7, .int .i64 9] 80)) wr))
    case atStart => exact ⟨0, by omega, by omega, rfl, rfl, ⟨Below.refl _ _⟩⟩
    case round =>
      obtain ⟨kk, hkk, hg, rfl, rfl, HB⟩ := hrel
      have h9 : kk = 0 ∨ kk = 1 ∨ kk = 2 ∨ kk = 3 ∨ kk = 4 ∨ kk = 5 ∨ kk = 6 ∨ kk = 7 ∨ kk = 8 := by omega
      clear hkk
      have hc0 : wr.cell? ⟨w.heap.size, 0, none⟩ = some (.int .i64 1) := pw_cell_below HB.out (by simp)
      have hc1 : wr.cell? ⟨w.heap.size, 1, none⟩ = some (.int .i64 3) := pw_cell_below HB.out (by simp)
      have hc2 : wr.cell? ⟨w.heap.size, 2, none⟩ = some (.int .i64 7) := pw_cell_below HB.out (by simp)
      have hc3 : wr.cell? ⟨w.heap.size, 3, none⟩ = some (.int .i64 9) := pw_cell_below HB.out (by simp)
      obtain ⟨x, hx⟩ : ∃ x : Int, x = kk := ⟨_, rfl⟩
      rw [← hx]
      have HX := Aside0.mk hx
      clear hx
      rcases h9 with rfl | rfl | rfl | rfl | rfl | rfl | rfl | rfl | rfl
      · have HVV := Aside0.mk (HV.out x)
        have hx := bt_at a0 x
        have p0 := eq_true (show 0 ≤ x by have := HX.out; omega)
        have q0 := eq_true (show x < (a0.size : Int) by have := HX.out; have := HS.out; omega)
        have d8 : decide (x < 8) = true := decide_eq_true (by have := HX.out; omega)
        have m4 : Int.tmod x 4 = 0 := by rw [HX.out]; rfl
        have hb0 := HB.out
        go_upto_region 6 with fail
        go_region_held3 (fun w' => w'.cell? ⟨w.heap.size, 0, none⟩ = some (.int .i64 1) ∧ Below (w.alloc (.cells #[.int .i64 1, .int .i64 3, .int .i64 7, .int .i64 9] 80)).heap.size (w.alloc (.cells #[.int .i64 1, .int .i64 3, .int .i64 7, .int .i64 9] 80)) w')
          (first | exact ⟨hc0, below_drew1 hb0⟩ | (go_split_ands; refine ⟨pw_cell_below hb2 ?_, below_step ?_ hb2⟩ <;> assumption) | (go_split_ands; refine ⟨?_, ?_⟩ <;> assumption))
          (first | (go_at_call 55; refine (spec_l07Value.calls 3 (bt a0 x) (spec_l07Check.val (bt a0 x)) _ HVV.out).mono ?_; rintro e w' ⟨rfl, hb2⟩; replace hb2 := Drawn0.below hb2))
        go_wp2
        go_split_ands
        go_roundg 8
        case measure => omega
        case rel => exact ⟨1, by omega, by omega, by rw [HX.out]; first | rfl | exact congrArg (Value.int .i64) (by simp [spec_l07Check.sum, spec_l07Check.wt, spec_l07Check.w64]), by rw [HX.out]; exact congrArg (Value.int .i64) (by unfold wrap64; omega), ⟨by assumption⟩⟩
      · have HVV := Aside0.mk (HV.out x)
        have hx := bt_at a0 x
        have p0 := eq_true (show 0 ≤ x by have := HX.out; omega)
        have q0 := eq_true (show x < (a0.size : Int) by have := HX.out; have := HS.out; omega)
        have d8 : decide (x < 8) = true := decide_eq_true (by have := HX.out; omega)
        have m4 : Int.tmod x 4 = 1 := by rw [HX.out]; rfl
        have hb0 := HB.out
        go_upto_region 6 with fail
        go_region_held3 (fun w' => w'.cell? ⟨w.heap.size, 1, none⟩ = some (.int .i64 3) ∧ Below (w.alloc (.cells #[.int .i64 1, .int .i64 3, .int .i64 7, .int .i64 9] 80)).heap.size (w.alloc (.cells #[.int .i64 1, .int .i64 3, .int .i64 7, .int .i64 9] 80)) w')
          (first | exact ⟨hc1, below_drew1 hb0⟩ | (go_split_ands; refine ⟨pw_cell_below hb2 ?_, below_step ?_ hb2⟩ <;> assumption) | (go_split_ands; refine ⟨?_, ?_⟩ <;> assumption))
          (first | (go_at_call 55; refine (spec_l07Value.calls 3 (bt a0 x) (spec_l07Check.val (bt a0 x)) _ HVV.out).mono ?_; rintro e w' ⟨rfl, hb2⟩; replace hb2 := Drawn0.below hb2))
        go_wp2
        go_split_ands
        go_roundg 7
        case measure => omega
        case rel => exact ⟨2, by omega, by omega, by rw [HX.out]; first | rfl | exact congrArg (Value.int .i64) (by simp [spec_l07Check.sum, spec_l07Check.wt, spec_l07Check.w64]), by rw [HX.out]; exact congrArg (Value.int .i64) (by unfold wrap64; omega), ⟨by assumption⟩⟩
      · have HVV := Aside0.mk (HV.out x)
        have hx := bt_at a0 x
        have p0 := eq_true (show 0 ≤ x by have := HX.out; omega)
        have q0 := eq_true (show x < (a0.size : Int) by have := HX.out; have := HS.out; omega)
        have d8 : decide (x < 8) = true := decide_eq_true (by have := HX.out; omega)
        have m4 : Int.tmod x 4 = 2 := by rw [HX.out]; rfl
        have hb0 := HB.out
        go_upto_region 6 with fail
        go_region_held3 (fun w' => w'.cell? ⟨w.heap.size, 2, none⟩ = some (.int .i64 7) ∧ Below (w.alloc (.cells #[.int .i64 1, .int .i64 3, .int .i64 7, .int .i64 9] 80)).heap.size (w.alloc (.cells #[.int .i64 1, .int .i64 3, .int .i64 7, .int .i64 9] 80)) w')
          (first | exact ⟨hc2, below_drew1 hb0⟩ | (go_split_ands; refine ⟨pw_cell_below hb2 ?_, below_step ?_ hb2⟩ <;> assumption) | (go_split_ands; refine ⟨?_, ?_⟩ <;> assumption))
          (first | (go_at_call 55; refine (spec_l07Value.calls 3 (bt a0 x) (spec_l07Check.val (bt a0 x)) _ HVV.out).mono ?_; rintro e w' ⟨rfl, hb2⟩; replace hb2 := Drawn0.below hb2))
        go_wp2
        go_split_ands
        go_roundg 6
        case measure => omega
        case rel => exact ⟨3, by omega, by omega, by rw [HX.out]; first | rfl | exact congrArg (Value.int .i64) (by simp [spec_l07Check.sum, spec_l07Check.wt, spec_l07Check.w64]), by rw [HX.out]; exact congrArg (Value.int .i64) (by unfold wrap64; omega), ⟨by assumption⟩⟩
      · have HVV := Aside0.mk (HV.out x)
        have hx := bt_at a0 x
        have p0 := eq_true (show 0 ≤ x by have := HX.out; omega)
        have q0 := eq_true (show x < (a0.size : Int) by have := HX.out; have := HS.out; omega)
        have d8 : decide (x < 8) = true := decide_eq_true (by have := HX.out; omega)
        have m4 : Int.tmod x 4 = 3 := by rw [HX.out]; rfl
        have hb0 := HB.out
        go_upto_region 6 with fail
        go_region_held3 (fun w' => w'.cell? ⟨w.heap.size, 3, none⟩ = some (.int .i64 9) ∧ Below (w.alloc (.cells #[.int .i64 1, .int .i64 3, .int .i64 7, .int .i64 9] 80)).heap.size (w.alloc (.cells #[.int .i64 1, .int .i64 3, .int .i64 7, .int .i64 9] 80)) w')
          (first | exact ⟨hc3, below_drew1 hb0⟩ | (go_split_ands; refine ⟨pw_cell_below hb2 ?_, below_step ?_ hb2⟩ <;> assumption) | (go_split_ands; refine ⟨?_, ?_⟩ <;> assumption))
          (first | (go_at_call 55; refine (spec_l07Value.calls 3 (bt a0 x) (spec_l07Check.val (bt a0 x)) _ HVV.out).mono ?_; rintro e w' ⟨rfl, hb2⟩; replace hb2 := Drawn0.below hb2))
        go_wp2
        go_split_ands
        go_roundg 5
        case measure => omega
        case rel => exact ⟨4, by omega, by omega, by rw [HX.out]; first | rfl | exact congrArg (Value.int .i64) (by simp [spec_l07Check.sum, spec_l07Check.wt, spec_l07Check.w64]), by rw [HX.out]; exact congrArg (Value.int .i64) (by unfold wrap64; omega), ⟨by assumption⟩⟩
      · have HVV := Aside0.mk (HV.out x)
        have hx := bt_at a0 x
        have p0 := eq_true (show 0 ≤ x by have := HX.out; omega)
        have q0 := eq_true (show x < (a0.size : Int) by have := HX.out; have := HS.out; omega)
        have d8 : decide (x < 8) = true := decide_eq_true (by have := HX.out; omega)
        have m4 : Int.tmod x 4 = 0 := by rw [HX.out]; rfl
        have hb0 := HB.out
        go_upto_region 6 with fail
        go_region_held3 (fun w' => w'.cell? ⟨w.heap.size, 0, none⟩ = some (.int .i64 1) ∧ Below (w.alloc (.cells #[.int .i64 1, .int .i64 3, .int .i64 7, .int .i64 9] 80)).heap.size (w.alloc (.cells #[.int .i64 1, .int .i64 3, .int .i64 7, .int .i64 9] 80)) w')
          (first | exact ⟨hc0, below_drew1 hb0⟩ | (go_split_ands; refine ⟨pw_cell_below hb2 ?_, below_step ?_ hb2⟩ <;> assumption) | (go_split_ands; refine ⟨?_, ?_⟩ <;> assumption))
          (first | (go_at_call 55; refine (spec_l07Value.calls 3 (bt a0 x) (spec_l07Check.val (bt a0 x)) _ HVV.out).mono ?_; rintro e w' ⟨rfl, hb2⟩; replace hb2 := Drawn0.below hb2))
        go_wp2
        go_split_ands
        go_roundg 4
        case measure => omega
        case rel => exact ⟨5, by omega, by omega, by rw [HX.out]; first | rfl | exact congrArg (Value.int .i64) (by simp [spec_l07Check.sum, spec_l07Check.wt, spec_l07Check.w64]), by rw [HX.out]; exact congrArg (Value.int .i64) (by unfold wrap64; omega), ⟨by assumption⟩⟩
      · have HVV := Aside0.mk (HV.out x)
        have hx := bt_at a0 x
        have p0 := eq_true (show 0 ≤ x by have := HX.out; omega)
        have q0 := eq_true (show x < (a0.size : Int) by have := HX.out; have := HS.out; omega)
        have d8 : decide (x < 8) = true := decide_eq_true (by have := HX.out; omega)
        have m4 : Int.tmod x 4 = 1 := by rw [HX.out]; rfl
        have hb0 := HB.out
        go_upto_region 6 with fail
        go_region_held3 (fun w' => w'.cell? ⟨w.heap.size, 1, none⟩ = some (.int .i64 3) ∧ Below (w.alloc (.cells #[.int .i64 1, .int .i64 3, .int .i64 7, .int .i64 9] 80)).heap.size (w.alloc (.cells #[.int .i64 1, .int .i64 3, .int .i64 7, .int .i64 9] 80)) w')
          (first | exact ⟨hc1, below_drew1 hb0⟩ | (go_split_ands; refine ⟨pw_cell_below hb2 ?_, below_step ?_ hb2⟩ <;> assumption) | (go_split_ands; refine ⟨?_, ?_⟩ <;> assumption))
          (first | (go_at_call 55; refine (spec_l07Value.calls 3 (bt a0 x) (spec_l07Check.val (bt a0 x)) _ HVV.out).mono ?_; rintro e w' ⟨rfl, hb2⟩; replace hb2 := Drawn0.below hb2))
        go_wp2
        go_split_ands
        go_roundg 3
        case measure => omega
        case rel => exact ⟨6, by omega, by omega, by rw [HX.out]; first | rfl | exact congrArg (Value.int .i64) (by simp [spec_l07Check.sum, spec_l07Check.wt, spec_l07Check.w64]), by rw [HX.out]; exact congrArg (Value.int .i64) (by unfold wrap64; omega), ⟨by assumption⟩⟩
      · have HVV := Aside0.mk (HV.out x)
        have hx := bt_at a0 x
        have p0 := eq_true (show 0 ≤ x by have := HX.out; omega)
        have q0 := eq_true (show x < (a0.size : Int) by have := HX.out; have := HS.out; omega)
        have d8 : decide (x < 8) = true := decide_eq_true (by have := HX.out; omega)
        have m4 : Int.tmod x 4 = 2 := by rw [HX.out]; rfl
        have hb0 := HB.out
        go_upto_region 6 with fail
        go_region_held3 (fun w' => w'.cell? ⟨w.heap.size, 2, none⟩ = some (.int .i64 7) ∧ Below (w.alloc (.cells #[.int .i64 1, .int .i64 3, .int .i64 7, .int .i64 9] 80)).heap.size (w.alloc (.cells #[.int .i64 1, .int .i64 3, .int .i64 7, .int .i64 9] 80)) w')
          (first | exact ⟨hc2, below_drew1 hb0⟩ | (go_split_ands; refine ⟨pw_cell_below hb2 ?_, below_step ?_ hb2⟩ <;> assumption) | (go_split_ands; refine ⟨?_, ?_⟩ <;> assumption))
          (first | (go_at_call 55; refine (spec_l07Value.calls 3 (bt a0 x) (spec_l07Check.val (bt a0 x)) _ HVV.out).mono ?_; rintro e w' ⟨rfl, hb2⟩; replace hb2 := Drawn0.below hb2))
        go_wp2
        go_split_ands
        go_roundg 2
        case measure => omega
        case rel => exact ⟨7, by omega, by omega, by rw [HX.out]; first | rfl | exact congrArg (Value.int .i64) (by simp [spec_l07Check.sum, spec_l07Check.wt, spec_l07Check.w64]), by rw [HX.out]; exact congrArg (Value.int .i64) (by unfold wrap64; omega), ⟨by assumption⟩⟩
      · have HVV := Aside0.mk (HV.out x)
        have hx := bt_at a0 x
        have p0 := eq_true (show 0 ≤ x by have := HX.out; omega)
        have q0 := eq_true (show x < (a0.size : Int) by have := HX.out; have := HS.out; omega)
        have d8 : decide (x < 8) = true := decide_eq_true (by have := HX.out; omega)
        have m4 : Int.tmod x 4 = 3 := by rw [HX.out]; rfl
        have hb0 := HB.out
        go_upto_region 6 with fail
        go_region_held3 (fun w' => w'.cell? ⟨w.heap.size, 3, none⟩ = some (.int .i64 9) ∧ Below (w.alloc (.cells #[.int .i64 1, .int .i64 3, .int .i64 7, .int .i64 9] 80)).heap.size (w.alloc (.cells #[.int .i64 1, .int .i64 3, .int .i64 7, .int .i64 9] 80)) w')
          (first | exact ⟨hc3, below_drew1 hb0⟩ | (go_split_ands; refine ⟨pw_cell_below hb2 ?_, below_step ?_ hb2⟩ <;> assumption) | (go_split_ands; refine ⟨?_, ?_⟩ <;> assumption))
          (first | (go_at_call 55; refine (spec_l07Value.calls 3 (bt a0 x) (spec_l07Check.val (bt a0 x)) _ HVV.out).mono ?_; rintro e w' ⟨rfl, hb2⟩; replace hb2 := Drawn0.below hb2))
        go_wp2
        go_split_ands
        go_roundg 1
        case measure => omega
        case rel => exact ⟨8, by omega, by omega, by rw [HX.out]; first | rfl | exact congrArg (Value.int .i64) (by simp [spec_l07Check.sum, spec_l07Check.wt, spec_l07Check.w64]), by rw [HX.out]; exact congrArg (Value.int .i64) (by unfold wrap64; omega), ⟨by assumption⟩⟩
      · have d8 : decide (x < 8) = false := decide_eq_false (by have := HX.out; omega)
        go_wp2
        go_ret
        exact ⟨rfl, below_step (below_alloc (Below.refl _ _) _) (by repeat (first | exact HB.out | apply below_alloc | apply pw_below_drewN | apply below_drew1))⟩
  · rw [if_neg h8] at h; cases h

/-! ### spec_LabelOf: function 14 -/
theorem spec_LabelOf.conv3 (w : World) (g o : Nat) (a b c : Int) (h0 : w.cell? ⟨g, o, none⟩ = some (.int .u8 a)) (h1 : w.cell? ⟨g, o + 1, none⟩ = some (.int .u8 b)) (h2 : w.cell? ⟨g, o + 2, none⟩ = some (.int .u8 c)) :
    (convert 62 9 (.slice (some ⟨g, o, none⟩) 3 3)).run Tryd.prog w = .ok (.string (strOfNums [a, b, c])) w :=
  run_convert_bytes_arg (P := Tryd.prog) w 62 5 Tryd.underlying62 Tryd.underlying5 g o 3 3 [a, b, c] rfl (fun i hi => by
    have h : i = 0 ∨ i = 1 ∨ i = 2 := by omega
    rcases h with rfl | rfl | rfl
    · exact h0
    · exact h1
    · exact h2) 9 Tryd.underlying9
theorem spec_LabelOf.conv1 (w : World) (g n : Nat) (a : Int) (h0 : w.cell? ⟨g, 0, none⟩ = some (.int .u8 a)) :
    (convert 62 9 (.slice (some ⟨g, 0, none⟩) 1 n)).run Tryd.prog w = .ok (.string (strOfNums [a])) w :=
  run_convert_bytes_arg (P := Tryd.prog) w 62 5 Tryd.underlying62 Tryd.underlying5 g 0 1 n [a] rfl (fun i hi => by
    have h : i = 0 := by omega
    subst h
    exact h0) 9 Tryd.underlying9
theorem spec_LabelOf.w64 (z : Int) : IntKind.i64.wrap z = wrap64 z := by rw [IntKind.wrap_i64]; unfold wrap64; omega
set_option maxHeartbeats 8000000 in
set_option maxRecDepth 100000 in
theorem spec_LabelOf.label (g : Nat) (c m0 m1 m2 v x y z : Int) (t1 t2 : ByteArray) (ck : Int) (w : World) (ht_ : Go.Proofs.YtcognaiaancmaaaDoor.Tbl.Tb w)
    (hI : w.heap[g]? = some (.cells #[.int .i16 c, .int .u8 m0, .int .u8 m1, .int .u8 m2, .int .i16 v, .int .i16 x, .int .i16 y, .int .i16 z] 41 (0, 0)))
    (d1 : spec_l07Digits.f 12 (wrap64 c) 3 = some t1) (d2 : spec_l07Digits.f 12 (wrap64 v) 2 = some t2) (s1 : t1.size = 3) (s2 : t2.size = 2)
    (hk : spec_l07Check.f (t1 ++ strOfNums [m0, m1, m2] ++ t2) = some ck) :
    Calls Tryd.prog 26 #[.pointer (some ⟨g, 0, none⟩)] w fun e w' => e = .returned (.string (t1 ++ strOfNums [m0, m1, m2] ++ t2 ++ strOfNums [ck])) ∧ Below w.heap.size w w' := by
  have HT := Aside0.mk ht_
  have D1 := Aside0.mk (show spec_l07Digits.f 12 (IntKind.i64.wrap c) 3 = some t1 by rw [spec_LabelOf.w64]; exact d1)
  have D2 := Aside0.mk (show spec_l07Digits.f 12 (IntKind.i64.wrap v) 2 = some t2 by rw [spec_LabelOf.w64]; exact d2)
  have HK := Aside0.mk hk
  have hB := Below.refl w.heap.size w
  have q0 := blk_cell hI 0
  have q1 := blk_cell hI 1
  have q2 := blk_cell hI 2
  have q3 := blk_cell hI 3
  have q4 := blk_cell hI 4
  simp at q0 q1 q2 q3 q4
  have s3 : (strOfNums [m0, m1, m2]).size = 3 := rfl
  have s4 : (strOfNums [ck]).size = 1 := rfl
  have z1 : (t1 ++ strOfNums [m0, m1, m2]).size = 6 := by rw [ByteArray.size_append, s1, s3]
  have z2 : (t1 ++ strOfNums [m0, m1, m2] ++ t2).size = 8 := by rw [ByteArray.size_append, z1, s2]
  have z3 : (t1 ++ strOfNums [m0, m1, m2] ++ t2 ++ strOfNums [ck]).size = 9 := by rw [ByteArray.size_append, z2, s4]
  clear ht_ hI d1 d2 hk
  go_enter Tryd.func26, Tryd.ntmps26
  go_upto_region 1 with fail
  go_region_held3 (fun w' => (w'.cell? ⟨g, 0, none⟩ = some (.int .i16 c) ∧ w'.cell? ⟨g, 1, none⟩ = some (.int .u8 m0) ∧ w'.cell? ⟨g, 2, none⟩ = some (.int .u8 m1) ∧ w'.cell? ⟨g, 3, none⟩ = some (.int .u8 m2) ∧ w'.cell? ⟨g, 4, none⟩ = some (.int .i16 v) ∧ (convert 62 9 (.slice (some ⟨g, 1, none⟩) 3 3)).run Tryd.prog w' = .ok (.string (strOfNums [m0, m1, m2])) w') ∧ Below w.heap.size w w')
    (first | exact ⟨⟨q0, q1, q2, q3, q4, spec_LabelOf.conv3 _ g 1 _ _ _ q1 q2 q3⟩, below_drew1 hB⟩ | (go_split_ands; refine ⟨⟨pw_cell_below hb2 ?_, pw_cell_below hb2 ?_, pw_cell_below hb2 ?_, pw_cell_below hb2 ?_, pw_cell_below hb2 ?_, spec_LabelOf.conv3 _ g 1 _ _ _ (pw_cell_below hb2 ?_) (pw_cell_below hb2 ?_) (pw_cell_below hb2 ?_)⟩, below_step ?_ hb2⟩ <;> assumption) | (go_split_ands; refine ⟨⟨?_, ?_, ?_, ?_, ?_, ?_⟩, ?_⟩ <;> assumption))
    (first | (go_at_call 44; go_split_ands; first | ((with_reducible refine (spec_l07Digits.calls 12 (IntKind.i64.wrap c) 3 t1 _ (HT.out.later (by assumption)) D1.out).mono ?_); rintro e w' ⟨rfl, hb2⟩) | ((with_reducible refine (spec_l07Digits.calls 12 (IntKind.i64.wrap v) 2 t2 _ (HT.out.later (by assumption)) D2.out).mono ?_); rintro e w' ⟨rfl, hb2⟩)))
  go_wp2_with fail
  go_split_ands
  refine (spec_l07Check.calls _ ck _ HK.out).mono ?_
  rintro e w3 ⟨rfl, hb3⟩
  have cv := spec_LabelOf.conv1 (w3.alloc (.cells #[.int .u8 ck] 5)) w3.heap.size 1 ck (by simp)
  go_wp2
  go_ret
  exact ⟨rfl, below_alloc (below_step (by assumption) hb3) _⟩
def spec_LabelOf.g (a0 a1 a2 a3 a4 : Int) : Option ByteArray :=
  (spec_l07Digits.f 12 (wrap64 a0) 3).bind fun t1 => (spec_l07Digits.f 12 (wrap64 a4) 2).bind fun t2 =>
    if t1.size = 3 then (if t2.size = 2 then (spec_l07Check.f (t1 ++ strOfNums [a1, a2, a3] ++ t2)).bind fun ck => some (t1 ++ strOfNums [a1, a2, a3] ++ t2 ++ strOfNums [ck]) else none) else none
def spec_LabelOf.f (a0_0 a0_1 a0_2 a0_3 a0_4 a0_5 a0_6 a0_7 : Int) : Option ByteArray :=
  (spec_l01Book.f 12 a0_0 a0_1 a0_2 a0_3 a0_4 a0_5 a0_6 a0_7).bind fun t => if t.1 = true then spec_LabelOf.g t.2.1 t.2.2.1 t.2.2.2.1 t.2.2.2.2.1 t.2.2.2.2.2.1 else some ⟨#[]⟩
set_option maxHeartbeats 8000000 in
set_option maxRecDepth 100000 in
theorem spec_LabelOf.calls (a0_0 a0_1 a0_2 a0_3 a0_4 a0_5 a0_6 a0_7 : Int) (r : ByteArray) (w : World) (ht_ : Go.Proofs.YtcognaiaancmaaaDoor.Tbl.Tb w) (h : spec_LabelOf.f a0_0 a0_1 a0_2 a0_3 a0_4 a0_5 a0_6 a0_7 = some r) :
    Calls Tryd.prog 14 #[.agg #[.int .i16 a0_0, .int .u8 a0_1, .int .u8 a0_2, .int .u8 a0_3, .int .i16 a0_4, .int .i16 a0_5, .int .i16 a0_6, .int .i16 a0_7]] w fun e w' => e = .returned (.string r) ∧ Below w.heap.size w w' := by
  obtain ⟨⟨ok, b0, b1, b2, b3, b4, b5, b6, b7⟩, e1, h⟩ := Option.bind_eq_some_iff.mp h
  have hI := IsS41.new w w a0_0 a0_1 a0_2 a0_3 a0_4 a0_5 a0_6 a0_7 (Below.refl _ _)
  have C1 := Aside0.mk (spec_l01Book.calls 12 w.heap.size _ _ _ _ _ _ _ _ ok b0 b1 b2 b3 b4 b5 b6 b7 w _ hI (below_alloc (Below.refl _ _) _) ht_ e1)
  have HT := Aside0.mk ht_
  have H := Aside0.mk h
  clear e1 ht_ h hI
  cases ok with
  | false =>
    have hr : (some (⟨#[]⟩ : ByteArray)) = some r := H.out
    obtain rfl := Option.some.inj hr
    clear hr H
    go_enter Tryd.func14, Tryd.ntmps14
    go_wp2_with (go_at_call 25; refine C1.out.mono ?_; rintro e w2 ⟨rfl, hI2, hb2, hk2⟩)
    go_ret
    exact ⟨rfl, hb2⟩
  | true =>
    have h : spec_LabelOf.g b0 b1 b2 b3 b4 = some r := H.out
    unfold spec_LabelOf.g at h
    obtain ⟨t1, d1, h⟩ := Option.bind_eq_some_iff.mp h
    obtain ⟨t2, d2, h⟩ := Option.bind_eq_some_iff.mp h
    by_cases s1 : t1.size = 3
    · rw [if_pos s1] at h
      by_cases s2 : t2.size = 2
      · rw [if_pos s2] at h
        obtain ⟨ck, hk, h⟩ := Option.bind_eq_some_iff.mp h
        obtain rfl := Option.some.inj h
        have X := Aside0.mk (fun w2 (hb2 : Below w.heap.size w w2) (hI2 : IsS41 w w2 w.heap.size b0 b1 b2 b3 b4 b5 b6 b7) => spec_LabelOf.label w.heap.size b0 b1 b2 b3 b4 b5 b6 b7 t1 t2 ck w2 (HT.out.later hb2) hI2.1 d1 d2 s1 s2 hk)
        clear h d1 d2 s1 s2 hk H HT
        go_enter Tryd.func14, Tryd.ntmps14
        go_wp2_with (first | (go_at_call 25; refine C1.out.mono ?_; rintro e w2 ⟨rfl, hI2, hb2, hk2⟩) | (go_at_call 26; refine (X.out _ hb2 hI2).mono ?_; rintro e w4 ⟨rfl, hb4⟩))
        go_ret
        exact ⟨rfl, below_step hb2 hb4⟩
      · rw [if_neg s2] at h; cases h
    · rw [if_neg s1] at h; cases h

/-! ### laws_toByteA3: function 27 -/
def laws_toByteA3.f (a0_0 : Int) (a0_1 : Int) (a0_2 : Int) : Option (Int × Int × Int) := some (a0_0, a0_1, a0_2)
def laws_toByteA3.W (w : World) (a b c x y z : Int) : World :=
  ((w.alloc (.cells #[.int .u8 a, .int .u8 b, .int .u8 c] 37)).alloc (.cells #[.int .u8 0, .int .u8 0, .int .u8 0] 37)).alloc (.cells #[.int .u8 x, .int .u8 y, .int .u8 z] 37)
set_option maxHeartbeats 4000000 in
theorem laws_toByteA3.calls (a0_0 : Int) (a0_1 : Int) (a0_2 : Int) (r1 : Int) (r2 : Int) (r3 : Int) (w : World) (h : laws_toByteA3.f a0_0 a0_1 a0_2 = some (r1, r2, r3)) :
    Calls Tryd.prog 27 #[.agg #[.int .u8 a0_0, .int .u8 a0_1, .int .u8 a0_2]] w fun e w' => e = .returned (.agg #[.int .u8 r1, .int .u8 r2, .int .u8 r3]) ∧ Below w.heap.size w w' := by
  cases h
  go_enter Tryd.func27, Tryd.ntmps27
  go_wp2
  go_loopg [4] 4 (fun gg i wr => (3 < gg ∧ i = .int .i64 0 ∧ wr = laws_toByteA3.W w a0_0 a0_1 a0_2 0 0 0) ∨ (2 < gg ∧ i = .int .i64 1 ∧ wr = laws_toByteA3.W w a0_0 a0_1 a0_2 a0_0 0 0) ∨ (1 < gg ∧ i = .int .i64 2 ∧ wr = laws_toByteA3.W w a0_0 a0_1 a0_2 a0_0 a0_1 0) ∨ (0 < gg ∧ i = .int .i64 3 ∧ wr = laws_toByteA3.W w a0_0 a0_1 a0_2 a0_0 a0_1 a0_2))
  case atStart => exact .inl ⟨by omega, rfl, rfl⟩
  case round =>
    rcases hrel with ⟨hg, rfl, rfl⟩ | ⟨hg, rfl, rfl⟩ | ⟨hg, rfl, rfl⟩ | ⟨hg, rfl, rfl⟩
    · unfold laws_toByteA3.W
      go_wp2
      go_roundg 3
      case measure => omega
      case rel => exact .inr (.inl ⟨by omega, rfl, rfl⟩)
    · unfold laws_toByteA3.W
      go_wp2
      go_roundg 2
      case measure => omega
      case rel => exact .inr (.inr (.inl ⟨by omega, rfl, rfl⟩))
    · unfold laws_toByteA3.W
      go_wp2
      go_roundg 1
      case measure => omega
      case rel => exact .inr (.inr (.inr ⟨by omega, rfl, rfl⟩))
    · unfold laws_toByteA3.W
      go_wp2
      exact bodyPost_ret (v := .agg #[.int .u8 a0_0, .int .u8 a0_1, .int .u8 a0_2]) (by simp [results, Tryd.results27, go_sem]) rfl ⟨rfl, by repeat (first | exact Below.refl _ _ | apply below_alloc | apply below_drew1 | refine Below.setCell ?_ (by simp) _)⟩

/-! ### laws_toBook: function 15 -/
def laws_toBook.f (a0_0 : Int) (a0_1 : Int) (a0_2 : Int) (a0_3 : Int) (a0_4 : Int) (a0_5 : Int) (a0_6 : Int) (a0_7 : Int) : Option (Int × Int × Int × Int × Int × Int × Int × Int) := (laws_toByteA3.f a0_1 a0_2 a0_3).bind fun bt119 => (some (a0_0, bt119.1, bt119.2.1, bt119.2.2, a0_4, a0_5, a0_6, a0_7))
set_option maxHeartbeats 8000000 in
set_option maxRecDepth 100000 in
theorem laws_toBook.calls (a0_0 : Int) (a0_1 : Int) (a0_2 : Int) (a0_3 : Int) (a0_4 : Int) (a0_5 : Int) (a0_6 : Int) (a0_7 : Int) (r1 : Int) (r2 : Int) (r3 : Int) (r4 : Int) (r5 : Int) (r6 : Int) (r7 : Int) (r8 : Int) (w : World) (ht_ : Go.Proofs.YtcognaiaancmaaaDoor.Tbl.Tb w) (h : laws_toBook.f a0_0 a0_1 a0_2 a0_3 a0_4 a0_5 a0_6 a0_7 = some (r1, r2, r3, r4, r5, r6, r7, r8)) :
    Calls Tryd.prog 15 #[.agg #[.int .i16 a0_0, .int .u8 a0_1, .int .u8 a0_2, .int .u8 a0_3, .int .i16 a0_4, .int .i16 a0_5, .int .i16 a0_6, .int .i16 a0_7]] w fun e w' => e = .returned (.agg #[.int .i16 r1, .int .u8 r2, .int .u8 r3, .int .u8 r4, .int .i16 r5, .int .i16 r6, .int .i16 r7, .int .i16 r8]) ∧ Below w.heap.size w w' := by
  have hu39 := Tryd.underlying39
  have hu41 := Tryd.underlying41
  have hu37 := Tryd.underlying37
  have HTB_ := Aside0.mk ht_
  clear ht_
  have HB := Aside0.mk (Below.refl w.heap.size w)
  have H : ((laws_toByteA3.f a0_1 a0_2 a0_3).bind fun bt119 => (some (a0_0, bt119.1, bt119.2.1, bt119.2.2, a0_4, a0_5, a0_6, a0_7))) = some (r1, r2, r3, r4, r5, r6, r7, r8) := h
  clear h
  replace H := Option.bind_eq_some_iff.mp H
  obtain ⟨⟨t119, t120, t121⟩, A20, H⟩ := H
  replace H : (some (a0_0, t119, t120, t121, a0_4, a0_5, a0_6, a0_7)) = some (r1, r2, r3, r4, r5, r6, r7, r8) := H
  have A2 := Aside0.mk A20
  clear A20
  simp only [Option.some.injEq, Prod.mk.injEq] at H
  obtain ⟨rfl, rfl, rfl, rfl, rfl, rfl, rfl, rfl⟩ := H
  go_enter Tryd.func15, Tryd.ntmps15
  go_wp2_with (first | ((with_reducible refine gate_dst (N := 1) rfl ?_); refine box_event ?hg (N := 1) ?hd (cs := #[.int .i16 a0_0, .int .u8 a0_1, .int .u8 a0_2, .int .u8 a0_3, .int .i16 a0_4, .int .i16 a0_5, .int .i16 a0_6, .int .i16 a0_7]) (t := 39) ?hr ?_; (case hd => rfl); (case hg => rfl); (case hr => first | (go_simp; done) | (go_simp; rfl)); intro gb116 hg w3 hbox hb; have n0_ := Aside0.mk (below_step (by repeat (first | (with_reducible first | exact HB.out | apply below_alloc | apply pw_below_drewN | apply below_drew1) | exact HB.out)) hb); have n1_ := Aside0.mk (hbox); have n2_ := Aside0.mk ((by rw [hg]; exact (below_size (by repeat (first | (with_reducible first | exact HB.out | apply below_alloc | apply pw_below_drewN | apply below_drew1) | exact HB.out))) : w.heap.size ≤ gb116)); have n3_ := Aside0.mk ((by rw [hg]; exact (below_size (by repeat (first | (with_reducible first | exact HB.out | apply below_alloc | apply pw_below_drewN | apply below_drew1) | exact HB.out))) : w.heap.size ≤ gb116)); clear HB; have HB := n0_; have BK116 := n1_; have GW116 := n2_; have GE116 := n3_; clear n0_ n1_ n2_ n3_; clear hb hbox hg) | ((with_reducible refine gate_dst (N := 2) rfl ?_); refine box_event ?hg (N := 2) ?hd (cs := #[.int .i16 0, .int .u8 0, .int .u8 0, .int .u8 0, .int .i16 0, .int .i16 0, .int .i16 0, .int .i16 0]) (t := 41) ?hr ?_; (case hd => rfl); (case hg => rfl); (case hr => first | (go_simp; done) | (go_simp; rfl)); intro gb117 hg w4 hbox hb; have n0_ := Aside0.mk (blk_below (g := gb116) (o := .cells #[.int .i16 a0_0, .int .u8 a0_1, .int .u8 a0_2, .int .u8 a0_3, .int .i16 a0_4, .int .i16 a0_5, .int .i16 a0_6, .int .i16 a0_7] 39 (0, 0)) (by (with_reducible repeat (first | refine blk_drewN ?_ _ | refine blk_drew ?_ | refine blk_alloc ?_ _)); exact BK116.out) hb); have n1_ := Aside0.mk (below_step (by repeat (first | (with_reducible first | exact HB.out | apply below_alloc | apply pw_below_drewN | apply below_drew1 | refine below_set ?_ GE116.out) | exact HB.out)) hb); have n2_ := Aside0.mk (hbox); have n3_ := Aside0.mk ((by rw [hg]; exact (below_size (by repeat (first | (with_reducible first | exact HB.out | apply below_alloc | apply pw_below_drewN | apply below_drew1 | refine below_set ?_ GE116.out) | exact HB.out))) : w.heap.size ≤ gb117)); have n4_ := Aside0.mk ((by rw [hg]; exact (below_size (by repeat (first | (with_reducible first | exact HB.out | apply below_alloc | apply pw_below_drewN | apply below_drew1 | refine below_set ?_ GE116.out) | exact HB.out))) : w.heap.size ≤ gb117)); have n5_ := Aside0.mk ((by rw [hg]; exact Nat.ne_of_lt (blk_lt (g := gb116) (o := .cells #[.int .i16 a0_0, .int .u8 a0_1, .int .u8 a0_2, .int .u8 a0_3, .int .i16 a0_4, .int .i16 a0_5, .int .i16 a0_6, .int .i16 a0_7] 39 (0, 0)) (by (with_reducible repeat (first | refine blk_drewN ?_ _ | refine blk_drew ?_ | refine blk_alloc ?_ _)); exact BK116.out)) : gb116 ≠ gb117)); have n6_ := Aside0.mk ((by rw [hg]; exact Nat.ne_of_gt (blk_lt (g := gb116) (o := .cells #[.int .i16 a0_0, .int .u8 a0_1, .int .u8 a0_2, .int .u8 a0_3, .int .i16 a0_4, .int .i16 a0_5, .int .i16 a0_6, .int .i16 a0_7] 39 (0, 0)) (by (with_reducible repeat (first | refine blk_drewN ?_ _ | refine blk_drew ?_ | refine blk_alloc ?_ _)); exact BK116.out)) : gb117 ≠ gb116)); clear BK116; clear HB; have BK116 := n0_; have HB := n1_; have BK117 := n2_; have GW117 := n3_; have GE117 := n4_; have NB116_117 := n5_; have NB117_116 := n6_; clear n0_ n1_ n2_ n3_ n4_ n5_ n6_; clear hb hbox hg) | ((with_reducible refine gate_dst (N := 3) rfl ?_); refine box_event ?hg (N := 3) ?hd (cs := #[.int .i16 0, .int .u8 0, .int .u8 0, .int .u8 0, .int .i16 0, .int .i16 0, .int .i16 0, .int .i16 0]) (t := 41) ?hr ?_; (case hd => rfl); (case hg => rfl); (case hr => first | (go_simp; done) | (go_simp; rfl)); intro gb118 hg w5 hbox hb; have n0_ := Aside0.mk (blk_below (g := gb116) (o := .cells #[.int .i16 a0_0, .int .u8 a0_1, .int .u8 a0_2, .int .u8 a0_3, .int .i16 a0_4, .int .i16 a0_5, .int .i16 a0_6, .int .i16 a0_7] 39 (0, 0)) (by (with_reducible repeat (first | refine blk_drewN ?_ _ | refine blk_drew ?_ | refine blk_alloc ?_ _)); exact BK116.out) hb); have n1_ := Aside0.mk (blk_below (g := gb117) (o := .cells #[.int .i16 0, .int .u8 0, .int .u8 0, .int .u8 0, .int .i16 0, .int .i16 0, .int .i16 0, .int .i16 0] 41 (0, 0)) (by (with_reducible repeat (first | refine blk_drewN ?_ _ | refine blk_drew ?_ | refine blk_alloc ?_ _)); exact BK117.out) hb); have n2_ := Aside0.mk (below_step (by repeat (first | (with_reducible first | exact HB.out | apply below_alloc | apply pw_below_drewN | apply below_drew1 | refine below_set ?_ GE116.out | refine below_set ?_ GE117.out) | exact HB.out)) hb); have n3_ := Aside0.mk (hbox); have n4_ := Aside0.mk ((by rw [hg]; exact (below_size (by repeat (first | (with_reducible first | exact HB.out | apply below_alloc | apply pw_below_drewN | apply below_drew1 | refine below_set ?_ GE116.out | refine below_set ?_ GE117.out) | exact HB.out))) : w.heap.size ≤ gb118)); have n5_ := Aside0.mk ((by rw [hg]; exact (below_size (by repeat (first | (with_reducible first | exact HB.out | apply below_alloc | apply pw_below_drewN | apply below_drew1 | refine below_set ?_ GE116.out | refine below_set ?_ GE117.out) | exact HB.out))) : w.heap.size ≤ gb118)); have n6_ := Aside0.mk ((by rw [hg]; exact Nat.ne_of_lt (blk_lt (g := gb116) (o := .cells #[.int .i16 a0_0, .int .u8 a0_1, .int .u8 a0_2, .int .u8 a0_3, .int .i16 a0_4, .int .i16 a0_5, .int .i16 a0_6, .int .i16 a0_7] 39 (0, 0)) (by (with_reducible repeat (first | refine blk_drewN ?_ _ | refine blk_drew ?_ | refine blk_alloc ?_ _)); exact BK116.out)) : gb116 ≠ gb118)); have n7_ := Aside0.mk ((by rw [hg]; exact Nat.ne_of_gt (blk_lt (g := gb116) (o := .cells #[.int .i16 a0_0, .int .u8 a0_1, .int .u8 a0_2, .int .u8 a0_3, .int .i16 a0_4, .int .i16 a0_5, .int .i16 a0_6, .int .i16 a0_7] 39 (0, 0)) (by (with_reducible repeat (first | refine blk_drewN ?_ _ | refine blk_drew ?_ | refine blk_alloc ?_ _)); exact BK116.out)) : gb118 ≠ gb116)); have n8_ := Aside0.mk ((by rw [hg]; exact Nat.ne_of_lt (blk_lt (g := gb117) (o := .cells #[.int .i16 0, .int .u8 0, .int .u8 0, .int .u8 0, .int .i16 0, .int .i16 0, .int .i16 0, .int .i16 0] 41 (0, 0)) (by (with_reducible repeat (first | refine blk_drewN ?_ _ | refine blk_drew ?_ | refine blk_alloc ?_ _)); exact BK117.out)) : gb117 ≠ gb118)); have n9_ := Aside0.mk ((by rw [hg]; exact Nat.ne_of_gt (blk_lt (g := gb117) (o := .cells #[.int .i16 0, .int .u8 0, .int .u8 0, .int .u8 0, .int .i16 0, .int .i16 0, .int .i16 0, .int .i16 0] 41 (0, 0)) (by (with_reducible repeat (first | refine blk_drewN ?_ _ | refine blk_drew ?_ | refine blk_alloc ?_ _)); exact BK117.out)) : gb118 ≠ gb117)); clear BK116; clear BK117; clear HB; have BK116 := n0_; have BK117 := n1_; have HB := n2_; have BK118 := n3_; have GW118 := n4_; have GE118 := n5_; have NB116_118 := n6_; have NB118_116 := n7_; have NB117_118 := n8_; have NB118_117 := n9_; clear n0_ n1_ n2_ n3_ n4_ n5_ n6_ n7_ n8_ n9_; clear hb hbox hg; have hnb6 := NB116_117.out; have hnc6 := NB117_116.out; have hnb7 := NB116_118.out; have hnc7 := NB118_116.out; have hcz8_0 : w5.cell? ⟨gb116, 0, none⟩ = some (.int .i16 a0_0) := (blk_cell BK116.out 0).trans rfl; have hcz8_1 : w5.cell? ⟨gb116, 1, none⟩ = some (.int .u8 a0_1) := (blk_cell BK116.out 1).trans rfl; have hcz8_2 : w5.cell? ⟨gb116, 2, none⟩ = some (.int .u8 a0_2) := (blk_cell BK116.out 2).trans rfl; have hcz8_3 : w5.cell? ⟨gb116, 3, none⟩ = some (.int .u8 a0_3) := (blk_cell BK116.out 3).trans rfl; have hcz8_4 : w5.cell? ⟨gb116, 4, none⟩ = some (.int .i16 a0_4) := (blk_cell BK116.out 4).trans rfl; have hcz8_5 : w5.cell? ⟨gb116, 5, none⟩ = some (.int .i16 a0_5) := (blk_cell BK116.out 5).trans rfl; have hcz8_6 : w5.cell? ⟨gb116, 6, none⟩ = some (.int .i16 a0_6) := (blk_cell BK116.out 6).trans rfl; have hcz8_7 : w5.cell? ⟨gb116, 7, none⟩ = some (.int .i16 a0_7) := (blk_cell BK116.out 7).trans rfl; have hfz8_0 := blk_frozen BK116.out 0; have hfz8_1 := blk_frozen BK116.out 1; have hfz8_2 := blk_frozen BK116.out 2; have hfz8_3 := blk_frozen BK116.out 3; have hfz8_4 := blk_frozen BK116.out 4; have hfz8_5 := blk_frozen BK116.out 5; have hfz8_6 := blk_frozen BK116.out 6; have hfz8_7 := blk_frozen BK116.out 7; have hnb9 := NB118_117.out; have hnc9 := NB117_118.out; have hcz10_0 : w5.cell? ⟨gb118, 0, none⟩ = some (.int .i16 0) := (blk_cell BK118.out 0).trans rfl; have hcz10_1 : w5.cell? ⟨gb118, 1, none⟩ = some (.int .u8 0) := (blk_cell BK118.out 1).trans rfl; have hcz10_2 : w5.cell? ⟨gb118, 2, none⟩ = some (.int .u8 0) := (blk_cell BK118.out 2).trans rfl; have hcz10_3 : w5.cell? ⟨gb118, 3, none⟩ = some (.int .u8 0) := (blk_cell BK118.out 3).trans rfl; have hcz10_4 : w5.cell? ⟨gb118, 4, none⟩ = some (.int .i16 0) := (blk_cell BK118.out 4).trans rfl; have hcz10_5 : w5.cell? ⟨gb118, 5, none⟩ = some (.int .i16 0) := (blk_cell BK118.out 5).trans rfl; have hcz10_6 : w5.cell? ⟨gb118, 6, none⟩ = some (.int .i16 0) := (blk_cell BK118.out 6).trans rfl; have hcz10_7 : w5.cell? ⟨gb118, 7, none⟩ = some (.int .i16 0) := (blk_cell BK118.out 7).trans rfl; have hfz10_0 := blk_frozen BK118.out 0; have hfz10_1 := blk_frozen BK118.out 1; have hfz10_2 := blk_frozen BK118.out 2; have hfz10_3 := blk_frozen BK118.out 3; have hfz10_4 := blk_frozen BK118.out 4; have hfz10_5 := blk_frozen BK118.out 5; have hfz10_6 := blk_frozen BK118.out 6; have hfz10_7 := blk_frozen BK118.out 7) | ((with_reducible refine gate_callee (f := 27) rfl ?_); refine goesL_ (some 9) rfl rfl Tryd.func27 (by kernel_rfl) rfl #[.agg #[.int .u8 a0_1, .int .u8 a0_2, .int .u8 a0_3]] rfl (by (try simp only [List.map_toArray, List.map_cons, List.map_nil]); first | done | rfl | (simp only [List.length_drop, List.length_take]; rfl)) ?_; (with_reducible refine (laws_toByteA3.calls a0_1 a0_2 a0_3 t119 t120 t121 _ A2.out).mono ?_); rintro e w11 ⟨rfl, hb⟩; refine ⟨_, rfl, ?_⟩; have n0_ := Aside0.mk (blk_below (g := gb116) (o := .cells #[.int .i16 a0_0, .int .u8 a0_1, .int .u8 a0_2, .int .u8 a0_3, .int .i16 a0_4, .int .i16 a0_5, .int .i16 a0_6, .int .i16 a0_7] 39 (0, 0)) (by (with_reducible repeat (first | refine blk_drewN ?_ _ | refine blk_drew ?_ | refine blk_alloc ?_ _)); refine blk_far ?_ NB116_118.out _; (with_reducible repeat (first | refine blk_drewN ?_ _ | refine blk_drew ?_ | refine blk_alloc ?_ _)); exact BK116.out) hb); have n1_ := Aside0.mk (blk_below (g := gb117) (o := .cells #[.int .i16 0, .int .u8 0, .int .u8 0, .int .u8 0, .int .i16 0, .int .i16 0, .int .i16 0, .int .i16 0] 41 (0, 0)) (by (with_reducible repeat (first | refine blk_drewN ?_ _ | refine blk_drew ?_ | refine blk_alloc ?_ _)); refine blk_far ?_ NB117_118.out _; (with_reducible repeat (first | refine blk_drewN ?_ _ | refine blk_drew ?_ | refine blk_alloc ?_ _)); exact BK117.out) hb); have n2_ := Aside0.mk (blk_below (g := gb118) (o := .cells #[.int .i16 a0_0, .int .u8 0, .int .u8 0, .int .u8 0, .int .i16 0, .int .i16 0, .int .i16 0, .int .i16 0] 41 (0, 0)) (by (with_reducible repeat (first | refine blk_drewN ?_ _ | refine blk_drew ?_ | refine blk_alloc ?_ _)); refine blk_put (cs := #[.int .i16 0, .int .u8 0, .int .u8 0, .int .u8 0, .int .i16 0, .int .i16 0, .int .i16 0, .int .i16 0]) ?_ 0 _ rfl; (with_reducible repeat (first | refine blk_drewN ?_ _ | refine blk_drew ?_ | refine blk_alloc ?_ _)); exact BK118.out) hb); have n3_ := Aside0.mk (below_step (by repeat (first | (with_reducible first | exact HB.out | apply below_alloc | apply pw_below_drewN | apply below_drew1 | refine below_set ?_ GE116.out | refine below_set ?_ GE117.out | refine below_set ?_ GE118.out) | exact HB.out)) hb); clear BK116; clear BK117; clear BK118; clear HB; have BK116 := n0_; have BK117 := n1_; have BK118 := n2_; have HB := n3_; clear n0_ n1_ n2_ n3_; (try clear hb); (try clear hb2); (try clear hk); (try clear hi); have hcz12_0 : w11.cell? ⟨gb118, 0, none⟩ = some (.int .i16 a0_0) := (blk_cell BK118.out 0).trans rfl; have hcz12_1 : w11.cell? ⟨gb118, 1, none⟩ = some (.int .u8 0) := (blk_cell BK118.out 1).trans rfl; have hcz12_2 : w11.cell? ⟨gb118, 2, none⟩ = some (.int .u8 0) := (blk_cell BK118.out 2).trans rfl; have hcz12_3 : w11.cell? ⟨gb118, 3, none⟩ = some (.int .u8 0) := (blk_cell BK118.out 3).trans rfl; have hcz12_4 : w11.cell? ⟨gb118, 4, none⟩ = some (.int .i16 0) := (blk_cell BK118.out 4).trans rfl; have hcz12_5 : w11.cell? ⟨gb118, 5, none⟩ = some (.int .i16 0) := (blk_cell BK118.out 5).trans rfl; have hcz12_6 : w11.cell? ⟨gb118, 6, none⟩ = some (.int .i16 0) := (blk_cell BK118.out 6).trans rfl; have hcz12_7 : w11.cell? ⟨gb118, 7, none⟩ = some (.int .i16 0) := (blk_cell BK118.out 7).trans rfl; have hfz12_0 := blk_frozen BK118.out 0; have hfz12_1 := blk_frozen BK118.out 1; have hfz12_2 := blk_frozen BK118.out 2; have hfz12_3 := blk_frozen BK118.out 3; have hfz12_4 := blk_frozen BK118.out 4; have hfz12_5 := blk_frozen BK118.out 5; have hfz12_6 := blk_frozen BK118.out 6; have hfz12_7 := blk_frozen BK118.out 7; have hcz13_0 : w11.cell? ⟨gb116, 0, none⟩ = some (.int .i16 a0_0) := (blk_cell BK116.out 0).trans rfl; have hcz13_1 : w11.cell? ⟨gb116, 1, none⟩ = some (.int .u8 a0_1) := (blk_cell BK116.out 1).trans rfl; have hcz13_2 : w11.cell? ⟨gb116, 2, none⟩ = some (.int .u8 a0_2) := (blk_cell BK116.out 2).trans rfl; have hcz13_3 : w11.cell? ⟨gb116, 3, none⟩ = some (.int .u8 a0_3) := (blk_cell BK116.out 3).trans rfl; have hcz13_4 : w11.cell? ⟨gb116, 4, none⟩ = some (.int .i16 a0_4) := (blk_cell BK116.out 4).trans rfl; have hcz13_5 : w11.cell? ⟨gb116, 5, none⟩ = some (.int .i16 a0_5) := (blk_cell BK116.out 5).trans rfl; have hcz13_6 : w11.cell? ⟨gb116, 6, none⟩ = some (.int .i16 a0_6) := (blk_cell BK116.out 6).trans rfl; have hcz13_7 : w11.cell? ⟨gb116, 7, none⟩ = some (.int .i16 a0_7) := (blk_cell BK116.out 7).trans rfl; have hfz13_0 := blk_frozen BK116.out 0; have hfz13_1 := blk_frozen BK116.out 1; have hfz13_2 := blk_frozen BK116.out 2; have hfz13_3 := blk_frozen BK116.out 3; have hfz13_4 := blk_frozen BK116.out 4; have hfz13_5 := blk_frozen BK116.out 5; have hfz13_6 := blk_frozen BK116.out 6; have hfz13_7 := blk_frozen BK116.out 7; have hcz14_0 : w11.cell? ⟨gb117, 0, none⟩ = some (.int .i16 0) := (blk_cell BK117.out 0).trans rfl; have hcz14_1 : w11.cell? ⟨gb117, 1, none⟩ = some (.int .u8 0) := (blk_cell BK117.out 1).trans rfl; have hcz14_2 : w11.cell? ⟨gb117, 2, none⟩ = some (.int .u8 0) := (blk_cell BK117.out 2).trans rfl; have hcz14_3 : w11.cell? ⟨gb117, 3, none⟩ = some (.int .u8 0) := (blk_cell BK117.out 3).trans rfl; have hcz14_4 : w11.cell? ⟨gb117, 4, none⟩ = some (.int .i16 0) := (blk_cell BK117.out 4).trans rfl; have hcz14_5 : w11.cell? ⟨gb117, 5, none⟩ = some (.int .i16 0) := (blk_cell BK117.out 5).trans rfl; have hcz14_6 : w11.cell? ⟨gb117, 6, none⟩ = some (.int .i16 0) := (blk_cell BK117.out 6).trans rfl; have hcz14_7 : w11.cell? ⟨gb117, 7, none⟩ = some (.int .i16 0) := (blk_cell BK117.out 7).trans rfl; have hfz14_0 := blk_frozen BK117.out 0; have hfz14_1 := blk_frozen BK117.out 1; have hfz14_2 := blk_frozen BK117.out 2; have hfz14_3 := blk_frozen BK117.out 3; have hfz14_4 := blk_frozen BK117.out 4; have hfz14_5 := blk_frozen BK117.out 5; have hfz14_6 := blk_frozen BK117.out 6; have hfz14_7 := blk_frozen BK117.out 7))
  refine bodyPost_ret (results_cell_row rfl _ _ gb117 41 #[.int .i16 a0_0, .int .u8 t119, .int .u8 t120, .int .u8 t121, .int .i16 a0_4, .int .i16 a0_5, .int .i16 a0_6, .int .i16 a0_7] (0, 0) _ rfl (by (with_reducible repeat (first | refine blk_drewN ?_ _ | refine blk_drew ?_ | refine blk_alloc ?_ _)); refine blk_put (cs := #[.int .i16 a0_0, .int .u8 t119, .int .u8 t120, .int .u8 t121, .int .i16 a0_4, .int .i16 a0_5, .int .i16 a0_6, .int .i16 0]) ?_ 7 _ rfl; (with_reducible repeat (first | refine blk_drewN ?_ _ | refine blk_drew ?_ | refine blk_alloc ?_ _)); refine blk_put (cs := #[.int .i16 a0_0, .int .u8 t119, .int .u8 t120, .int .u8 t121, .int .i16 a0_4, .int .i16 a0_5, .int .i16 0, .int .i16 0]) ?_ 6 _ rfl; (with_reducible repeat (first | refine blk_drewN ?_ _ | refine blk_drew ?_ | refine blk_alloc ?_ _)); refine blk_put (cs := #[.int .i16 a0_0, .int .u8 t119, .int .u8 t120, .int .u8 t121, .int .i16 a0_4, .int .i16 0, .int .i16 0, .int .i16 0]) ?_ 5 _ rfl; (with_reducible repeat (first | refine blk_drewN ?_ _ | refine blk_drew ?_ | refine blk_alloc ?_ _)); refine blk_put (cs := #[.int .i16 a0_0, .int .u8 t119, .int .u8 t120, .int .u8 t121, .int .i16 0, .int .i16 0, .int .i16 0, .int .i16 0]) ?_ 4 _ rfl; (with_reducible repeat (first | refine blk_drewN ?_ _ | refine blk_drew ?_ | refine blk_alloc ?_ _)); refine blk_put (cs := #[.int .i16 a0_0, .int .u8 t119, .int .u8 t120, .int .u8 0, .int .i16 0, .int .i16 0, .int .i16 0, .int .i16 0]) ?_ 3 _ rfl; (with_reducible repeat (first | refine blk_drewN ?_ _ | refine blk_drew ?_ | refine blk_alloc ?_ _)); refine blk_put (cs := #[.int .i16 a0_0, .int .u8 t119, .int .u8 0, .int .u8 0, .int .i16 0, .int .i16 0, .int .i16 0, .int .i16 0]) ?_ 2 _ rfl; (with_reducible repeat (first | refine blk_drewN ?_ _ | refine blk_drew ?_ | refine blk_alloc ?_ _)); refine blk_put (cs := #[.int .i16 a0_0, .int .u8 0, .int .u8 0, .int .u8 0, .int .i16 0, .int .i16 0, .int .i16 0, .int .i16 0]) ?_ 1 _ rfl; (with_reducible repeat (first | refine blk_drewN ?_ _ | refine blk_drew ?_ | refine blk_alloc ?_ _)); refine blk_put (cs := #[.int .i16 0, .int .u8 0, .int .u8 0, .int .u8 0, .int .i16 0, .int .i16 0, .int .i16 0, .int .i16 0]) ?_ 0 _ rfl; (with_reducible repeat (first | refine blk_drewN ?_ _ | refine blk_drew ?_ | refine blk_alloc ?_ _)); refine blk_far ?_ NB117_118.out _; (with_reducible repeat (first | refine blk_drewN ?_ _ | refine blk_drew ?_ | refine blk_alloc ?_ _)); refine blk_far ?_ NB117_118.out _; (with_reducible repeat (first | refine blk_drewN ?_ _ | refine blk_drew ?_ | refine blk_alloc ?_ _)); refine blk_far ?_ NB117_118.out _; (with_reducible repeat (first | refine blk_drewN ?_ _ | refine blk_drew ?_ | refine blk_alloc ?_ _)); refine blk_far ?_ NB117_118.out _; (with_reducible repeat (first | refine blk_drewN ?_ _ | refine blk_drew ?_ | refine blk_alloc ?_ _)); refine blk_far ?_ NB117_118.out _; (with_reducible repeat (first | refine blk_drewN ?_ _ | refine blk_drew ?_ | refine blk_alloc ?_ _)); refine blk_far ?_ NB117_118.out _; (with_reducible repeat (first | refine blk_drewN ?_ _ | refine blk_drew ?_ | refine blk_alloc ?_ _)); refine blk_far ?_ NB117_118.out _; (with_reducible repeat (first | refine blk_drewN ?_ _ | refine blk_drew ?_ | refine blk_alloc ?_ _)); exact BK117.out) Tryd.underlying41 rfl (by kernel_rfl)) rfl ?_
  exact ⟨by first | rfl | (simp [errW_none, errW_some] <;> rfl) | (simp [*, errW_none, errW_some] <;> rfl), by repeat (first | (with_reducible first | exact HB.out | apply below_alloc | apply pw_below_drewN | apply below_drew1 | refine below_set ?_ GE116.out | refine below_set ?_ GE117.out | refine below_set ?_ GE118.out) | exact HB.out)⟩

/-! ### impl_within_int16: function 46 -/
def impl_within_int16.f (a0 : Int) (a1 : Int) (a2 : Int) : Option (Bool) := if a1 ≤ a0 then (some (decide (a0 ≤ a2))) else (some false)
set_option maxHeartbeats 8000000 in
set_option maxRecDepth 100000 in
theorem impl_within_int16.calls (a0 : Int) (a1 : Int) (a2 : Int) (r : Bool) (w : World) (h : impl_within_int16.f a0 a1 a2 = some r) :
    Calls Tryd.prog 46 #[.int .i16 a0, .int .i16 a1, .int .i16 a2] w fun e w' => e = .returned (.bool r) ∧ Drawn0 w w' := by
  have H : (if a1 ≤ a0 then (some (decide (a0 ≤ a2))) else (some false)) = some r := h
  clear h
  by_cases c4 : a1 ≤ a0
  · rw [if_pos c4] at H
    have c4b0 : decide (a1 ≤ a0) = true := decide_eq_true c4
    clear c4
    obtain rfl := Option.some.inj H
    go_enter Tryd.func46, Tryd.ntmps46
    go_wp2
    go_ret
    exact ⟨by first | rfl | (simp; done) | (simp [*]; done), by repeat (first | exact Drawn0.refl _ | apply Drawn0.step)⟩
  · rw [if_neg c4] at H
    have c4b0 : decide (a1 ≤ a0) = false := decide_eq_false c4
    clear c4
    obtain rfl := Option.some.inj H
    go_enter Tryd.func46, Tryd.ntmps46
    go_wp2
    go_ret
    exact ⟨by first | rfl | (simp; done) | (simp [*]; done), by repeat (first | exact Drawn0.refl _ | apply Drawn0.step)⟩

/-! ### slices_IndexFunc_byte: function 65 -/
open Go.Proofs.YtcognaiaancmaaaDoor.Gen in
def slices_IndexFunc_byte.f (l0 : List Int) (p1 : Int → Option Bool) : Option Int := idxO p1 l0 0
open Go.Proofs.YtcognaiaancmaaaDoor.Gen in
set_option maxHeartbeats 4000000 in
theorem slices_IndexFunc_byte.calls (A0 : Option Addr) (c0 : Nat) (l0 : List Int) (g1 : Nat) (lb1 : Array Value) (p1 : Int → Option Bool) (r : Int) (w : World) (hp1 : FnB Tryd.prog g1 lb1 (Kd.int .u8) vOne p1 w) (hr0 : Kd.C (Kd.int .u8) w A0 l0.length l0) (hc0 : l0.length ≤ c0) (h : slices_IndexFunc_byte.f l0 p1 = some r) :
    Calls Tryd.prog 65 #[.slice A0 l0.length c0, .func (.func g1) #[] lb1] w fun e w' => e = .returned (.int .i64 r) ∧ Below w.heap.size w w' := by
  have hm : l0.length ≤ 9223372036854775807 := hr0.2.1
  have eg := hp1.enters
  have HP := Aside0.mk hp1
  have HR := Aside0.mk hr0
  have HF := Aside0.mk h
  clear hp1 hr0 h
  go_enter Tryd.func65, Tryd.ntmps65
  go_wp2
  go_loopg [5, 8] l0.length (fun gg _ s8 wr => ∃ kk : Nat, kk ≤ l0.length ∧ l0.length - kk ≤ gg ∧ s8 = .int .i64 kk ∧ Aside0 (Below w.heap.size w wr) ∧ Aside0 (idxO p1 (l0.drop kk) kk = some r))
  case atStart => exact ⟨0, Nat.zero_le _, by omega, rfl, ⟨Below.refl _ w⟩, ⟨HF.out⟩⟩
  case round =>
    obtain ⟨kk, hkk, hg, rfl, BW, HA⟩ := hrel
    by_cases hlt : kk < l0.length
    · have hltz : (kk : Int) < (l0.length : Int) := by omega
      have hx : l0[kk]? = some l0[kk] := List.getElem?_eq_getElem hlt
      have HD := HA.out
      rw [List.drop_eq_getElem_cons hlt] at HD
      generalize l0[kk] = x at hx HD
      obtain ⟨b, hb, HD⟩ := Option.bind_eq_some_iff.mp HD
      obtain ⟨ad, c0_, rfl, hK, hx0⟩ := cells1 (d := (Kd.int .u8)) rfl (Kd.C_below HR.out BW.out) kk x hx
      have hcall := HP.out.run _ x _ b BW.out hK hb
      have HX := Aside0.mk hx
      have HK := Aside0.mk hK
      clear hx hK HA hb
      cases b with
      | true =>
        have HE := Aside0.mk HD
        clear HD
        go_wp2_with (go_at_fn g1; refine hcall.mono ?_; rintro e w' ⟨rfl, hb'⟩)
        go_ret
        exact ⟨congrArg (fun z => Ending.returned (.int .i64 z)) (show (kk : Int) = r by simpa using HE.out), below_then BW.out BW.out.size hb'⟩
      | false =>
        have HE := Aside0.mk HD
        clear HD
        go_wp2_with (go_at_fn g1; refine hcall.mono ?_; rintro e w' ⟨rfl, hb'⟩)
        go_roundg (l0.length - (kk + 1))
        case measure => omega
        case rel => exact ⟨kk + 1, by omega, by omega, by go_num, ⟨below_then BW.out BW.out.size hb'⟩, ⟨by have := HE.out; simpa using this⟩⟩
    · have hltz : ¬ (kk : Int) < (l0.length : Int) := by omega
      have HE : Aside0 (r = -1) := ⟨by have := HA.out; rw [List.drop_of_length_le (by omega)] at this; exact (Option.some.inj this).symm⟩
      clear HA
      go_wp2
      go_ret
      exact ⟨congrArg (fun z => Ending.returned (.int .i64 z)) HE.out.symm, BW.out⟩

/-! ### slices_ContainsFunc_byte: function 56 -/
open Go.Proofs.YtcognaiaancmaaaDoor.Gen in
def slices_ContainsFunc_byte.f (l0 : List Int) (p1 : Int → Option Bool) : Option Bool := anyO p1 l0
open Go.Proofs.YtcognaiaancmaaaDoor.Gen in
set_option maxHeartbeats 4000000 in
theorem slices_ContainsFunc_byte.calls (A0 : Option Addr) (c0 : Nat) (l0 : List Int) (g1 : Nat) (lb1 : Array Value) (p1 : Int → Option Bool) (r : Bool) (w : World) (hp1 : FnB Tryd.prog g1 lb1 (Kd.int .u8) vOne p1 w) (hr0 : Kd.C (Kd.int .u8) w A0 l0.length l0) (hc0 : l0.length ≤ c0) (h : slices_ContainsFunc_byte.f l0 p1 = some r) :
    Calls Tryd.prog 56 #[.slice A0 l0.length c0, .func (.func g1) #[] lb1] w fun e w' => e = .returned (.bool r) ∧ Below w.heap.size w w' := by
  obtain ⟨i, hi, hd⟩ := idxO_any h 0 (by omega)
  have HP := Aside0.mk hp1
  have HR := Aside0.mk hr0
  have HI := Aside0.mk hi
  have HD := Aside0.mk hd
  clear hp1 hr0 h hi hd
  go_enter Tryd.func56, Tryd.ntmps56
  go_wp2_with (go_at_call 65; refine (slices_IndexFunc_byte.calls _ _ l0 g1 lb1 p1 i _ HP.out HR.out hc0 HI.out).mono ?_; rintro e w' ⟨rfl, hb'⟩)
  go_ret
  exact ⟨congrArg (fun z => Ending.returned (.bool z)) HD.out, hb'⟩

/-! ### impl_areAll_byte: function 47 -/
open Go.Proofs.YtcognaiaancmaaaDoor.Gen in
def impl_areAll_byte.f (l0 : List Int) (p1 : Int → Option Bool) : Option Bool := allO p1 l0
open Go.Proofs.YtcognaiaancmaaaDoor.Gen in
set_option maxHeartbeats 4000000 in
theorem impl_areAll_byte.inner (g1 : Nat) (lb1 : Array Value) (p1 : Int → Option Bool) (w : World) (b : Nat) (hcell : w.cell? ⟨b, 0, none⟩ = some (.func (.func g1) #[] lb1)) (hp1 : FnB Tryd.prog g1 lb1 (Kd.int .u8) vOne p1 w) :
    FnB Tryd.prog 57 #[.pointer (some ⟨b, 0, none⟩)] (Kd.int .u8) vOne (fun x => (p1 x).map (!·)) w := by
  have eg := hp1.enters
  refine ⟨fun _ _ => by kernel_rfl, fun W x cs r hW hK hx => ?_⟩
  obtain ⟨q, hq, rfl⟩ : ∃ q, p1 x = some q ∧ (!q) = r := by
    cases hq : p1 x with
    | none => rw [hq] at hx; cases hx
    | some q => rw [hq] at hx; exact ⟨q, rfl, by simpa using hx⟩
  have hcall := fun W' (hb' : Below W.heap.size W W') => hp1.run W' x cs q (below_then hW hW.size hb') (Kd.K_below _ hb' hK) hq
  have hc : W.cell? ⟨b, 0, none⟩ = some (.func (.func g1) #[] lb1) := pw_cell_below hW hcell
  obtain rfl : cs = [.int .u8 x] := hK
  have hc2 : ∀ o, (W.alloc o).cell? ⟨b, 0, none⟩ = some (.func (.func g1) #[] lb1) := fun o => pw_cell_below (below_alloc (Below.refl _ _) o) hc
  simp only [vAgg, vOne, List.append_toArray, List.cons_append, List.nil_append]
  clear hx
  try clear hK
  go_enter Tryd.func57, Tryd.ntmps57
  go_wp2_with (go_at_fn g1; refine (hcall _ (by repeat (first | exact Below.refl _ _ | apply below_alloc | apply below_drew1))).mono ?_; rintro e w' ⟨rfl, hb'⟩)
  go_ret
  exact ⟨rfl, by repeat (first | (refine below_step ?_ hb') | exact Below.refl _ _ | apply below_alloc | apply below_drew1)⟩
open Go.Proofs.YtcognaiaancmaaaDoor.Gen in
set_option maxHeartbeats 4000000 in
theorem impl_areAll_byte.calls (A0 : Option Addr) (c0 : Nat) (l0 : List Int) (g1 : Nat) (lb1 : Array Value) (p1 : Int → Option Bool) (r : Bool) (w : World) (hp1 : FnB Tryd.prog g1 lb1 (Kd.int .u8) vOne p1 w) (hr0 : Kd.C (Kd.int .u8) w A0 l0.length l0) (hc0 : l0.length ≤ c0) (h : impl_areAll_byte.f l0 p1 = some r) :
    Calls Tryd.prog 47 #[.slice A0 l0.length c0, .func (.func g1) #[] lb1] w fun e w' => e = .returned (.bool r) ∧ Below w.heap.size w w' := by
  have HA := Aside0.mk (anyO_all h)
  have HP := Aside0.mk hp1
  have HR := Aside0.mk hr0
  clear hp1 hr0 h
  go_enter Tryd.func47, Tryd.ntmps47
  go_wp2_with (go_at_call 56; refine (slices_ContainsFunc_byte.calls _ _ l0 57 _ (fun x => (p1 x).map (!·)) (!r) _ (impl_areAll_byte.inner g1 lb1 p1 _ w.heap.size (by simp) (FnB.later HP.out (below_alloc (Below.refl _ _) _))) (Kd.C_below HR.out (below_alloc (Below.refl _ _) _)) hc0 HA.out).mono ?_; rintro e w' ⟨rfl, hb'⟩)
  go_ret
  exact ⟨rfl, below_step (below_alloc (Below.refl _ _) _) hb'⟩

/-! ### impl_isSmall: function 48 -/
def impl_isSmall.f (a0 : Int) : Option (Bool) := if a0 ≥ 97 then (some (decide (a0 ≤ 122))) else (some false)
set_option maxHeartbeats 8000000 in
set_option maxRecDepth 100000 in
theorem impl_isSmall.calls (a0 : Int) (r : Bool) (w : World) (h : impl_isSmall.f a0 = some r) :
    Calls Tryd.prog 48 #[.int .u8 a0] w fun e w' => e = .returned (.bool r) ∧ Drawn0 w w' := by
  have H : (if a0 ≥ 97 then (some (decide (a0 ≤ 122))) else (some false)) = some r := h
  clear h
  by_cases c2 : a0 ≥ 97
  · rw [if_pos c2] at H
    have c2b0 : decide (97 ≤ a0) = true := decide_eq_true c2
    clear c2
    obtain rfl := Option.some.inj H
    go_enter Tryd.func48, Tryd.ntmps48
    go_wp2
    go_ret
    exact ⟨by first | rfl | (simp; done) | (simp [*]; done), by repeat (first | exact Drawn0.refl _ | apply Drawn0.step)⟩
  · rw [if_neg c2] at H
    have c2b0 : decide (97 ≤ a0) = false := decide_eq_false c2
    clear c2
    obtain rfl := Option.some.inj H
    go_enter Tryd.func48, Tryd.ntmps48
    go_wp2
    go_ret
    exact ⟨by first | rfl | (simp; done) | (simp [*]; done), by repeat (first | exact Drawn0.refl _ | apply Drawn0.step)⟩

/-! ### impl_ValidBook: function 28 -/
def impl_ValidBook.sm (a : Int) : Bool := decide (97 ≤ a ∧ a ≤ 122)
def impl_ValidBook.iw (a lo hi : Int) : Bool := decide (lo ≤ a ∧ a ≤ hi)
def impl_ValidBook.b (a0_0 a0_1 a0_2 a0_3 a0_4 a0_5 a0_6 a0_7 : Int) : Bool :=
  impl_ValidBook.iw a0_0 0 999 && (impl_ValidBook.sm a0_1 && (impl_ValidBook.sm a0_2 && impl_ValidBook.sm a0_3)) && impl_ValidBook.iw a0_4 1 99 && impl_ValidBook.iw a0_5 1 100 && impl_ValidBook.iw a0_6 50 400 && impl_ValidBook.iw a0_7 1 9999
def impl_ValidBook.f (a0_0 a0_1 a0_2 a0_3 a0_4 a0_5 a0_6 a0_7 : Int) : Option Bool := some (impl_ValidBook.b a0_0 a0_1 a0_2 a0_3 a0_4 a0_5 a0_6 a0_7)
theorem impl_ValidBook.iw_is (a lo hi : Int) : impl_within_int16.f a lo hi = some (impl_ValidBook.iw a lo hi) := by
  unfold impl_within_int16.f impl_ValidBook.iw
  by_cases h : lo ≤ a <;> simp [h]
theorem impl_ValidBook.sm_is (a : Int) : impl_isSmall.f a = some (impl_ValidBook.sm a) := by
  unfold impl_isSmall.f impl_ValidBook.sm
  by_cases h : 97 ≤ a <;> simp [h, ge_iff_le]
open Go.Proofs.YtcognaiaancmaaaDoor.Gen in
theorem impl_ValidBook.all_is (a b c : Int) : impl_areAll_byte.f [a, b, c] impl_isSmall.f = some (impl_ValidBook.sm a && (impl_ValidBook.sm b && impl_ValidBook.sm c)) := by
  unfold impl_areAll_byte.f
  rw [allO_of (q := impl_ValidBook.sm) (fun x _ => impl_ValidBook.sm_is x)]
  simp
open Go.Proofs.YtcognaiaancmaaaDoor.Gen in
theorem impl_ValidBook.small (w : World) : FnB Tryd.prog 48 #[] (Kd.int .u8) vOne impl_isSmall.f w := ⟨fun _ _ => by kernel_rfl, fun W x cs b hW hK hx => by
  obtain rfl : cs = [.int .u8 x] := hK
  exact (impl_isSmall.calls x b W hx).mono fun e w' h => ⟨h.1, h.2.below⟩⟩
theorem impl_ValidBook.row (w : World) (g o : Nat) (a b c : Int) (h0 : w.cell? ⟨g, o, none⟩ = some (.int .u8 a)) (h1 : w.cell? ⟨g, o + 1, none⟩ = some (.int .u8 b)) (h2 : w.cell? ⟨g, o + 2, none⟩ = some (.int .u8 c)) :
    Kd.C (Kd.int .u8) w (some ⟨g, o, none⟩) 3 [a, b, c] := by
  refine ⟨rfl, by omega, fun _ => ⟨_, rfl, fun j p hj => ?_⟩⟩
  have hlt : j < 3 := by
    rcases Nat.lt_or_ge j 3 with h | h
    · exact h
    · rw [List.getElem?_eq_none (by simp; omega)] at hj; cases hj
  refine ⟨[.int .u8 p], rfl, rfl, fun i u hu => ?_⟩
  have hi : i = 0 := by
    rcases Nat.eq_zero_or_pos i with h | h
    · exact h
    · rw [List.getElem?_eq_none (by simp; omega)] at hu; cases hu
  subst hi
  obtain rfl : u = .int .u8 p := by simpa using hu.symm
  have h3 : j = 0 ∨ j = 1 ∨ j = 2 := by omega
  rcases h3 with rfl | rfl | rfl
  · obtain rfl : a = p := by simpa using hj
    exact h0
  · obtain rfl : b = p := by simpa using hj
    exact h1
  · obtain rfl : c = p := by simpa using hj
    exact h2
theorem impl_ValidBook.areAll (w : World) (g : Nat) (a b c : Int) (r : Bool) (h0 : w.cell? ⟨g, 1, none⟩ = some (.int .u8 a)) (h1 : w.cell? ⟨g, 2, none⟩ = some (.int .u8 b)) (h2 : w.cell? ⟨g, 3, none⟩ = some (.int .u8 c))
    (hr : (impl_ValidBook.sm a && (impl_ValidBook.sm b && impl_ValidBook.sm c)) = r) :
    Calls Tryd.prog 47 #[.slice (some ⟨g, 1, none⟩) 3 3, .func (.func 48) #[] #[]] w fun e w' => e = .returned (.bool r) ∧ Below w.heap.size w w' :=
  impl_areAll_byte.calls _ 3 [a, b, c] 48 #[] impl_isSmall.f r w (impl_ValidBook.small w) (impl_ValidBook.row w g 1 a b c h0 h1 h2) (by simp) (by rw [impl_ValidBook.all_is, hr])
theorem impl_ValidBook.below_drawn_ (w : World) (o : Obj) (n : Nat) : Below w.heap.size w ((w.alloc o).drewN n) := by repeat (first | exact Below.refl _ _ | apply below_alloc | apply pw_below_drewN)
set_option maxHeartbeats 8000000 in
set_option maxRecDepth 100000 in
theorem impl_ValidBook.calls (a0_0 a0_1 a0_2 a0_3 a0_4 a0_5 a0_6 a0_7 : Int) (r : Bool) (w : World) (h : impl_ValidBook.f a0_0 a0_1 a0_2 a0_3 a0_4 a0_5 a0_6 a0_7 = some r) :
    Calls Tryd.prog 28 #[.agg #[.int .i16 a0_0, .int .u8 a0_1, .int .u8 a0_2, .int .u8 a0_3, .int .i16 a0_4, .int .i16 a0_5, .int .i16 a0_6, .int .i16 a0_7]] w fun e w' => e = .returned (.bool r) ∧ Below w.heap.size w w' := by
  have hr := Option.some.inj h
  subst hr
  clear h
  cases c0 : impl_ValidBook.iw a0_0 0 999 with
  | false =>
    have hv : impl_ValidBook.b a0_0 a0_1 a0_2 a0_3 a0_4 a0_5 a0_6 a0_7 = false := by unfold impl_ValidBook.b; simp only [c0]; simp
    rw [hv]
    have T0 := Aside0.mk (show impl_within_int16.f a0_0 0 999 = some false by rw [impl_ValidBook.iw_is, c0])
    clear hv c0
    go_enter Tryd.func28, Tryd.ntmps28
    go_wp2_with (first | (go_at_call 46; (with_reducible refine (impl_within_int16.calls a0_0 0 999 false _ T0.out).mono ?_); rintro e w' ⟨rfl, ⟨nd0, rfl⟩⟩))
    go_ret
    exact ⟨rfl, by repeat (first | assumption | exact Below.refl _ _ | apply below_alloc | apply pw_below_drewN | apply below_drew1)⟩
  | true =>
    cases c1 : (impl_ValidBook.sm a0_1 && (impl_ValidBook.sm a0_2 && impl_ValidBook.sm a0_3)) with
    | false =>
      have hv : impl_ValidBook.b a0_0 a0_1 a0_2 a0_3 a0_4 a0_5 a0_6 a0_7 = false := by unfold impl_ValidBook.b; simp only [c0, c1]; simp
      rw [hv]
      have T0 := Aside0.mk (show impl_within_int16.f a0_0 0 999 = some true by rw [impl_ValidBook.iw_is, c0])
      have T1 := Aside0.mk (show (impl_ValidBook.sm a0_1 && (impl_ValidBook.sm a0_2 && impl_ValidBook.sm a0_3)) = false from c1)
      clear hv c0 c1
      go_enter Tryd.func28, Tryd.ntmps28
      go_wp2_with (first | (go_at_call 46; (with_reducible refine (impl_within_int16.calls a0_0 0 999 true _ T0.out).mono ?_); rintro e w' ⟨rfl, ⟨nd0, rfl⟩⟩) | (go_at_call 47; (with_reducible refine (impl_ValidBook.areAll _ w.heap.size a0_1 a0_2 a0_3 false (by first | assumption | simp) (by first | assumption | simp) (by first | assumption | simp) T1.out).mono ?_); rintro e w' ⟨rfl, hb2⟩; have q4 : w'.cell? ⟨w.heap.size, 4, none⟩ = some (.int .i16 a0_4) := pw_cell_below hb2 (by simp); have q5 : w'.cell? ⟨w.heap.size, 5, none⟩ = some (.int .i16 a0_5) := pw_cell_below hb2 (by simp); have q6 : w'.cell? ⟨w.heap.size, 6, none⟩ = some (.int .i16 a0_6) := pw_cell_below hb2 (by simp); have q7 : w'.cell? ⟨w.heap.size, 7, none⟩ = some (.int .i16 a0_7) := pw_cell_below hb2 (by simp); have hb3 := below_step (impl_ValidBook.below_drawn_ w _ _) hb2))
      go_ret
      exact ⟨rfl, by repeat (first | assumption | exact Below.refl _ _ | apply below_alloc | apply pw_below_drewN | apply below_drew1)⟩
    | true =>
      cases c2 : impl_ValidBook.iw a0_4 1 99 with
      | false =>
        have hv : impl_ValidBook.b a0_0 a0_1 a0_2 a0_3 a0_4 a0_5 a0_6 a0_7 = false := by unfold impl_ValidBook.b; simp only [c0, c1, c2]; simp
        rw [hv]
        have T0 := Aside0.mk (show impl_within_int16.f a0_0 0 999 = some true by rw [impl_ValidBook.iw_is, c0])
        have T1 := Aside0.mk (show (impl_ValidBook.sm a0_1 && (impl_ValidBook.sm a0_2 && impl_ValidBook.sm a0_3)) = true from c1)
        have T2 := Aside0.mk (show impl_within_int16.f a0_4 1 99 = some false by rw [impl_ValidBook.iw_is, c2])
        clear hv c0 c1 c2
        go_enter Tryd.func28, Tryd.ntmps28
        go_wp2_with (first | (go_at_call 46; (with_reducible refine (impl_within_int16.calls a0_0 0 999 true _ T0.out).mono ?_); rintro e w' ⟨rfl, ⟨nd0, rfl⟩⟩) | (go_at_call 47; (with_reducible refine (impl_ValidBook.areAll _ w.heap.size a0_1 a0_2 a0_3 true (by first | assumption | simp) (by first | assumption | simp) (by first | assumption | simp) T1.out).mono ?_); rintro e w' ⟨rfl, hb2⟩; have q4 : w'.cell? ⟨w.heap.size, 4, none⟩ = some (.int .i16 a0_4) := pw_cell_below hb2 (by simp); have q5 : w'.cell? ⟨w.heap.size, 5, none⟩ = some (.int .i16 a0_5) := pw_cell_below hb2 (by simp); have q6 : w'.cell? ⟨w.heap.size, 6, none⟩ = some (.int .i16 a0_6) := pw_cell_below hb2 (by simp); have q7 : w'.cell? ⟨w.heap.size, 7, none⟩ = some (.int .i16 a0_7) := pw_cell_below hb2 (by simp); have hb3 := below_step (impl_ValidBook.below_drawn_ w _ _) hb2) | (go_at_call 46; (with_reducible refine (impl_within_int16.calls a0_4 1 99 false _ T2.out).mono ?_); rintro e w' ⟨rfl, ⟨nd2, rfl⟩⟩))
        go_ret
        exact ⟨rfl, by repeat (first | assumption | exact Below.refl _ _ | apply below_alloc | apply pw_below_drewN | apply below_drew1)⟩
      | true =>
        cases c3 : impl_ValidBook.iw a0_5 1 100 with
        | false =>
          have hv : impl_ValidBook.b a0_0 a0_1 a0_2 a0_3 a0_4 a0_5 a0_6 a0_7 = false := by unfold impl_ValidBook.b; simp only [c0, c1, c2, c3]; simp
          rw [hv]
          have T0 := Aside0.mk (show impl_within_int16.f a0_0 0 999 = some true by rw [impl_ValidBook.iw_is, c0])
          have T1 := Aside0.mk (show (impl_ValidBook.sm a0_1 && (impl_ValidBook.sm a0_2 && impl_ValidBook.sm a0_3)) = true from c1)
          have T2 := Aside0.mk (show impl_within_int16.f a0_4 1 99 = some true by rw [impl_ValidBook.iw_is, c2])
          have T3 := Aside0.mk (show impl_within_int16.f a0_5 1 100 = some false by rw [impl_ValidBook.iw_is, c3])
          clear hv c0 c1 c2 c3
          go_enter Tryd.func28, Tryd.ntmps28
          go_wp2_with (first | (go_at_call 46; (with_reducible refine (impl_within_int16.calls a0_0 0 999 true _ T0.out).mono ?_); rintro e w' ⟨rfl, ⟨nd0, rfl⟩⟩) | (go_at_call 47; (with_reducible refine (impl_ValidBook.areAll _ w.heap.size a0_1 a0_2 a0_3 true (by first | assumption | simp) (by first | assumption | simp) (by first | assumption | simp) T1.out).mono ?_); rintro e w' ⟨rfl, hb2⟩; have q4 : w'.cell? ⟨w.heap.size, 4, none⟩ = some (.int .i16 a0_4) := pw_cell_below hb2 (by simp); have q5 : w'.cell? ⟨w.heap.size, 5, none⟩ = some (.int .i16 a0_5) := pw_cell_below hb2 (by simp); have q6 : w'.cell? ⟨w.heap.size, 6, none⟩ = some (.int .i16 a0_6) := pw_cell_below hb2 (by simp); have q7 : w'.cell? ⟨w.heap.size, 7, none⟩ = some (.int .i16 a0_7) := pw_cell_below hb2 (by simp); have hb3 := below_step (impl_ValidBook.below_drawn_ w _ _) hb2) | (go_at_call 46; (with_reducible refine (impl_within_int16.calls a0_4 1 99 true _ T2.out).mono ?_); rintro e w' ⟨rfl, ⟨nd2, rfl⟩⟩) | (go_at_call 46; (with_reducible refine (impl_within_int16.calls a0_5 1 100 false _ T3.out).mono ?_); rintro e w' ⟨rfl, ⟨nd3, rfl⟩⟩))
          go_ret
          exact ⟨rfl, by repeat (first | assumption | exact Below.refl _ _ | apply below_alloc | apply pw_below_drewN | apply below_drew1)⟩
        | true =>
          cases c4 : impl_ValidBook.iw a0_6 50 400 with
          | false =>
            have hv : impl_ValidBook.b a0_0 a0_1 a0_2 a0_3 a0_4 a0_5 a0_6 a0_7 = false := by unfold impl_ValidBook.b; simp only [c0, c1, c2, c3, c4]; simp
            rw [hv]
            have T0 := Aside0.mk (show impl_within_int16.f a0_0 0 999 = some true by rw [impl_ValidBook.iw_is, c0])
            have T1 := Aside0.mk (show (impl_ValidBook.sm a0_1 && (impl_ValidBook.sm a0_2 && impl_ValidBook.sm a0_3)) = true from c1)
            have T2 := Aside0.mk (show impl_within_int16.f a0_4 1 99 = some true by rw [impl_ValidBook.iw_is, c2])
            have T3 := Aside0.mk (show impl_within_int16.f a0_5 1 100 = some true by rw [impl_ValidBook.iw_is, c3])
            have T4 := Aside0.mk (show impl_within_int16.f a0_6 50 400 = some false by rw [impl_ValidBook.iw_is, c4])
            clear hv c0 c1 c2 c3 c4
            go_enter Tryd.func28, Tryd.ntmps28
            go_wp2_with (first | (go_at_call 46; (with_reducible refine (impl_within_int16.calls a0_0 0 999 true _ T0.out).mono ?_); rintro e w' ⟨rfl, ⟨nd0, rfl⟩⟩) | (go_at_call 47; (with_reducible refine (impl_ValidBook.areAll _ w.heap.size a0_1 a0_2 a0_3 true (by first | assumption | simp) (by first | assumption | simp) (by first | assumption | simp) T1.out).mono ?_); rintro e w' ⟨rfl, hb2⟩; have q4 : w'.cell? ⟨w.heap.size, 4, none⟩ = some (.int .i16 a0_4) := pw_cell_below hb2 (by simp); have q5 : w'.cell? ⟨w.heap.size, 5, none⟩ = some (.int .i16 a0_5) := pw_cell_below hb2 (by simp); have q6 : w'.cell? ⟨w.heap.size, 6, none⟩ = some (.int .i16 a0_6) := pw_cell_below hb2 (by simp); have q7 : w'.cell? ⟨w.heap.size, 7, none⟩ = some (.int .i16 a0_7) := pw_cell_below hb2 (by simp); have hb3 := below_step (impl_ValidBook.below_drawn_ w _ _) hb2) | (go_at_call 46; (with_reducible refine (impl_within_int16.calls a0_4 1 99 true _ T2.out).mono ?_); rintro e w' ⟨rfl, ⟨nd2, rfl⟩⟩) | (go_at_call 46; (with_reducible refine (impl_within_int16.calls a0_5 1 100 true _ T3.out).mono ?_); rintro e w' ⟨rfl, ⟨nd3, rfl⟩⟩) | (go_at_call 46; (with_reducible refine (impl_within_int16.calls a0_6 50 400 false _ T4.out).mono ?_); rintro e w' ⟨rfl, ⟨nd4, rfl⟩⟩))
            go_ret
            exact ⟨rfl, by repeat (first | assumption | exact Below.refl _ _ | apply below_alloc | apply pw_below_drewN | apply below_drew1)⟩
          | true =>
            cases c5 : impl_ValidBook.iw a0_7 1 9999 with
            | false =>
              have hv : impl_ValidBook.b a0_0 a0_1 a0_2 a0_3 a0_4 a0_5 a0_6 a0_7 = false := by unfold impl_ValidBook.b; simp only [c0, c1, c2, c3, c4, c5]; simp
              rw [hv]
              have T0 := Aside0.mk (show impl_within_int16.f a0_0 0 999 = some true by rw [impl_ValidBook.iw_is, c0])
              have T1 := Aside0.mk (show (impl_ValidBook.sm a0_1 && (impl_ValidBook.sm a0_2 && impl_ValidBook.sm a0_3)) = true from c1)
              have T2 := Aside0.mk (show impl_within_int16.f a0_4 1 99 = some true by rw [impl_ValidBook.iw_is, c2])
              have T3 := Aside0.mk (show impl_within_int16.f a0_5 1 100 = some true by rw [impl_ValidBook.iw_is, c3])
              have T4 := Aside0.mk (show impl_within_int16.f a0_6 50 400 = some true by rw [impl_ValidBook.iw_is, c4])
              have T5 := Aside0.mk (show impl_within_int16.f a0_7 1 9999 = some false by rw [impl_ValidBook.iw_is, c5])
              clear hv c0 c1 c2 c3 c4 c5
              go_enter Tryd.func28, Tryd.ntmps28
              go_wp2_with (first | (go_at_call 46; (with_reducible refine (impl_within_int16.calls a0_0 0 999 true _ T0.out).mono ?_); rintro e w' ⟨rfl, ⟨nd0, rfl⟩⟩) | (go_at_call 47; (with_reducible refine (impl_ValidBook.areAll _ w.heap.size a0_1 a0_2 a0_3 true (by first | assumption | simp) (by first | assumption | simp) (by first | assumption | simp) T1.out).mono ?_); rintro e w' ⟨rfl, hb2⟩; have q4 : w'.cell? ⟨w.heap.size, 4, none⟩ = some (.int .i16 a0_4) := pw_cell_below hb2 (by simp); have q5 : w'.cell? ⟨w.heap.size, 5, none⟩ = some (.int .i16 a0_5) := pw_cell_below hb2 (by simp); have q6 : w'.cell? ⟨w.heap.size, 6, none⟩ = some (.int .i16 a0_6) := pw_cell_below hb2 (by simp); have q7 : w'.cell? ⟨w.heap.size, 7, none⟩ = some (.int .i16 a0_7) := pw_cell_below hb2 (by simp); have hb3 := below_step (impl_ValidBook.below_drawn_ w _ _) hb2) | (go_at_call 46; (with_reducible refine (impl_within_int16.calls a0_4 1 99 true _ T2.out).mono ?_); rintro e w' ⟨rfl, ⟨nd2, rfl⟩⟩) | (go_at_call 46; (with_reducible refine (impl_within_int16.calls a0_5 1 100 true _ T3.out).mono ?_); rintro e w' ⟨rfl, ⟨nd3, rfl⟩⟩) | (go_at_call 46; (with_reducible refine (impl_within_int16.calls a0_6 50 400 true _ T4.out).mono ?_); rintro e w' ⟨rfl, ⟨nd4, rfl⟩⟩) | (go_at_call 46; (with_reducible refine (impl_within_int16.calls a0_7 1 9999 false _ T5.out).mono ?_); rintro e w' ⟨rfl, ⟨nd5, rfl⟩⟩))
              go_ret
              exact ⟨rfl, by repeat (first | assumption | exact Below.refl _ _ | apply below_alloc | apply pw_below_drewN | apply below_drew1)⟩
            | true =>
              have hv : impl_ValidBook.b a0_0 a0_1 a0_2 a0_3 a0_4 a0_5 a0_6 a0_7 = true := by unfold impl_ValidBook.b; simp only [c0, c1, c2, c3, c4, c5]; simp
              rw [hv]
              have T0 := Aside0.mk (show impl_within_int16.f a0_0 0 999 = some true by rw [impl_ValidBook.iw_is, c0])
              have T1 := Aside0.mk (show (impl_ValidBook.sm a0_1 && (impl_ValidBook.sm a0_2 && impl_ValidBook.sm a0_3)) = true from c1)
              have T2 := Aside0.mk (show impl_within_int16.f a0_4 1 99 = some true by rw [impl_ValidBook.iw_is, c2])
              have T3 := Aside0.mk (show impl_within_int16.f a0_5 1 100 = some true by rw [impl_ValidBook.iw_is, c3])
              have T4 := Aside0.mk (show impl_within_int16.f a0_6 50 400 = some true by rw [impl_ValidBook.iw_is, c4])
              have T5 := Aside0.mk (show impl_within_int16.f a0_7 1 9999 = some true by rw [impl_ValidBook.iw_is, c5])
              clear hv c0 c1 c2 c3 c4 c5
              go_enter Tryd.func28, Tryd.ntmps28
              go_wp2_with (first | (go_at_call 46; (with_reducible refine (impl_within_int16.calls a0_0 0 999 true _ T0.out).mono ?_); rintro e w' ⟨rfl, ⟨nd0, rfl⟩⟩) | (go_at_call 47; (with_reducible refine (impl_ValidBook.areAll _ w.heap.size a0_1 a0_2 a0_3 true (by first | assumption | simp) (by first | assumption | simp) (by first | assumption | simp) T1.out).mono ?_); rintro e w' ⟨rfl, hb2⟩; have q4 : w'.cell? ⟨w.heap.size, 4, none⟩ = some (.int .i16 a0_4) := pw_cell_below hb2 (by simp); have q5 : w'.cell? ⟨w.heap.size, 5, none⟩ = some (.int .i16 a0_5) := pw_cell_below hb2 (by simp); have q6 : w'.cell? ⟨w.heap.size, 6, none⟩ = some (.int .i16 a0_6) := pw_cell_below hb2 (by simp); have q7 : w'.cell? ⟨w.heap.size, 7, none⟩ = some (.int .i16 a0_7) := pw_cell_below hb2 (by simp); have hb3 := below_step (impl_ValidBook.below_drawn_ w _ _) hb2) | (go_at_call 46; (with_reducible refine (impl_within_int16.calls a0_4 1 99 true _ T2.out).mono ?_); rintro e w' ⟨rfl, ⟨nd2, rfl⟩⟩) | (go_at_call 46; (with_reducible refine (impl_within_int16.calls a0_5 1 100 true _ T3.out).mono ?_); rintro e w' ⟨rfl, ⟨nd3, rfl⟩⟩) | (go_at_call 46; (with_reducible refine (impl_within_int16.calls a0_6 50 400 true _ T4.out).mono ?_); rintro e w' ⟨rfl, ⟨nd4, rfl⟩⟩) | (go_at_call 46; (with_reducible refine (impl_within_int16.calls a0_7 1 9999 true _ T5.out).mono ?_); rintro e w' ⟨rfl, ⟨nd5, rfl⟩⟩))
              go_ret
              exact ⟨rfl, by repeat (first | assumption | exact Below.refl _ _ | apply below_alloc | apply pw_below_drewN | apply below_drew1)⟩

/-! ### impl_weights: function 58 -/
def impl_weights.f  : Option (List Int) := some (([1, 3, 7, 9, 1, 3, 7, 9] : List Int))
set_option maxHeartbeats 8000000 in
set_option maxRecDepth 100000 in
theorem impl_weights.calls  (r : List Int) (w : World) (ht_ : Go.Proofs.YtcognaiaancmaaaDoor.Tbl.Tb w) (h : impl_weights.f  = some r) :
    Calls Tryd.prog 58 #[] w fun e w' => ∃ v0_ : Value, e = .returned (v0_) ∧ Kd.R (Kd.int .i64) 3 w' w.heap.size (fun _ => True) v0_ r ∧ Below w.heap.size w w' := by
  have HTB_ := Aside0.mk ht_
  clear ht_
  have HB := Aside0.mk (Below.refl w.heap.size w)
  have H : (some (([1, 3, 7, 9, 1, 3, 7, 9] : List Int))) = some r := h
  clear h
  obtain ⟨y122, hy122⟩ : ∃ y_ : List Int, y_ = (([1, 3, 7, 9, 1, 3, 7, 9] : List Int)) := ⟨_, rfl⟩
  replace H : (some y122) = some r := by first | (rw [hy122]; with_reducible exact H) | (have H2_ := (Option.bind_some _ _).symm.trans H; rw [hy122]; with_reducible exact H2_) | (have H2_ := (Option.bind_some _ _).symm.trans H; with_reducible exact H2_) | with_reducible exact H | (rw [hy122]; exact H) | exact H
  have Ny122 := Aside0.mk hy122
  clear hy122
  obtain rfl := Option.some.inj H
  go_enter Tryd.func58, Tryd.ntmps58
  go_wp2_with (first | ((with_reducible refine gate_dst (N := 1) rfl ?_); refine Kd.R_lit (Kd.int .i64) _ 3 ?hg (N := 1) ?hd (xs := ([1, 3, 7, 9, 1, 3, 7, 9] : List Int)) (inner := [.int .i64 1, .int .i64 3, .int .i64 7, .int .i64 9, .int .i64 1, .int .i64 3, .int .i64 7, .int .i64 9]) (ok := fun _ => True) (okp := fun _ => True) ?hr ?hp (fun _ hk => hk) trivial (Below.refl _ _) (Nat.le_refl _) (by simp) ?_; (case hd => rfl); (case hg => rfl); (case hr => first | (go_simp; done) | (go_simp; rfl)); (case hp => exact (Reps.one (show Kd.M (Kd.int .i64) _ _ _ 1 [.int .i64 1] from rfl) (Reps.one (show Kd.M (Kd.int .i64) _ _ _ 3 [.int .i64 3] from rfl) (Reps.one (show Kd.M (Kd.int .i64) _ _ _ 7 [.int .i64 7] from rfl) (Reps.one (show Kd.M (Kd.int .i64) _ _ _ 9 [.int .i64 9] from rfl) (Reps.one (show Kd.M (Kd.int .i64) _ _ _ 1 [.int .i64 1] from rfl) (Reps.one (show Kd.M (Kd.int .i64) _ _ _ 3 [.int .i64 3] from rfl) (Reps.one (show Kd.M (Kd.int .i64) _ _ _ 7 [.int .i64 7] from rfl) (Reps.one (show Kd.M (Kd.int .i64) _ _ _ 9 [.int .i64 9] from rfl) (Reps.none _ _)))))))))); intro v123 w1 ho2 hb hg_ hnew_; clear hg_ hnew_; (first | rw [← Ny122.out] at ho2 | (simp only [Int.reduceToNat] at ho2; rw [← Ny122.out] at ho2)); have n0_ := Aside0.mk (Kd.R_lower ho2 (below_size (by repeat (first | (with_reducible first | exact HB.out | apply below_alloc | apply pw_below_drewN | apply below_drew1) | exact HB.out)))); have n1_ := Aside0.mk (below_step (by repeat (first | (with_reducible first | exact HB.out | apply below_alloc | apply pw_below_drewN | apply below_drew1) | exact HB.out)) hb); clear HB; have HO124 := n0_; have HB := n1_; clear n0_ n1_; clear hb ho2))
  go_ret
  exact ⟨_, by first | rfl | (simp [errW_none, errW_some] <;> rfl) | (simp [*, errW_none, errW_some] <;> rfl), by (with_reducible repeat (first | apply Kd.R_alloc | apply Kd.R_drewN | apply Kd.R_drew)); exact HO124.out, by repeat (first | (with_reducible first | exact HB.out | apply below_alloc | apply pw_below_drewN | apply below_drew1) | exact HB.out)⟩

/-! ### strings_IndexByte: function 66 -/
def strings_IndexByte.f (a0 : ByteArray) (a1 : Int) : Option Int := if 0 ≤ a1 then (if a1 ≤ 255 then some (Lib.indexByte a0.data.toList (UInt8.ofNat a1.toNat)) else none) else none
theorem strings_IndexByte.calls (a0 : ByteArray) (a1 : Int) (r : Int) (w : World) (h : strings_IndexByte.f a0 a1 = some r) :
    Calls Tryd.prog 66 #[.string a0, .int .u8 a1] w fun e w' => e = .returned (.int .i64 r) ∧ Drawn0 w w' := by
  unfold strings_IndexByte.f at h
  by_cases h0 : 0 ≤ a1
  · rw [if_pos h0] at h
    by_cases h1 : a1 ≤ 255
    · rw [if_pos h1] at h
      obtain rfl := Option.some.inj h
      refine (Tryd.strings_IndexByte a0 a1 w).mono ?_
      rintro e w' ⟨rfl, rfl⟩
      exact ⟨rfl, Drawn0.refl _⟩
    · rw [if_neg h1] at h; cases h
  · rw [if_neg h0] at h; cases h

end Go.Proofs.YtcognaiaancmaaaDoor.PLabelOf
