-- made by a program of this session (wip/pext.py) out of the translation; the parts by hand are wip/ext's
import Derived.Test.YthmciempoodhpaaDoorPRdlx0
import Derived.Test.YthmciempoodhpaaDoorPRdlx2
namespace Go.Proofs.YthmciempoodhpaaDoor.PRdl
open Go.RowKit Go.Proofs.YthmciempoodhpaaDoorW.PrintWords Go.Proofs.YthmciempoodhpaaDoorW.PrintLast Go.Proofs.YthmciempoodhpaaDoorW.PrintMore
attribute [local go_sem] max2_int min2_int max_two min_two max_three min_three max_four min_four   -- for this text's walks alone
set_option linter.unusedVariables false
set_option linter.unusedSimpArgs false

/-! ### impl_padded: function 23 -/
def impl_padded.f (a0 : Int) (a1 : Int) : Option (ByteArray) := (impl_dec_int16.f a0).bind fun t120 => ((strings_Repeat.f (⟨#[48]⟩ : ByteArray) (wrap64 (a1 - (t120.size : Int)))).bind fun t121 => (if t121.size + t120.size ≤ 9223372036854775807 then (some (t121 ++ t120)) else (none)))
set_option maxHeartbeats 8000000 in
set_option maxRecDepth 100000 in
theorem impl_padded.calls (a0 : Int) (a1 : Int) (r : ByteArray) (w : World) (ht_ : Go.Proofs.YthmciempoodhpaaDoor.Tbl.Tb w) (h : impl_padded.f a0 a1 = some r) :
    Calls Tryd.prog 23 #[.int .i16 a0, .int .i64 a1] w fun e w' => e = .returned (.string r) ∧ Below w.heap.size w w' := by
  have HTB_ := Aside0.mk ht_
  clear ht_
  have HB := Aside0.mk (Below.refl w.heap.size w)
  have H : ((impl_dec_int16.f a0).bind fun t120 => ((strings_Repeat.f (⟨#[48]⟩ : ByteArray) (wrap64 (a1 - (t120.size : Int)))).bind fun t121 => (if t121.size + t120.size ≤ 9223372036854775807 then (some (t121 ++ t120)) else (none)))) = some r := h
  clear h
  replace H := Option.bind_eq_some_iff.mp H
  obtain ⟨t120, A30, H⟩ := H
  replace H : ((strings_Repeat.f (⟨#[48]⟩ : ByteArray) (wrap64 (a1 - (t120.size : Int)))).bind fun t121 => (if t121.size + t120.size ≤ 9223372036854775807 then (some (t121 ++ t120)) else (none))) = some r := H
  have A3 := Aside0.mk A30
  clear A30
  replace H := Option.bind_eq_some_iff.mp H
  obtain ⟨t121, A40, H⟩ := H
  replace H : (if t121.size + t120.size ≤ 9223372036854775807 then (some (t121 ++ t120)) else (none)) = some r := H
  have A4 := Aside0.mk A40
  clear A40
  by_cases c5 : t121.size + t120.size ≤ 9223372036854775807
  · rw [if_pos c5] at H
    have c5b0 := eq_true c5
    have c5b1 : decide (t121.size + t120.size ≤ 9223372036854775807) = true := decide_eq_true c5
    try have c5b2 : (9223372036854775807 < t121.size + t120.size) = False := eq_false (Nat.not_lt.2 c5)
    obtain rfl := Option.some.inj H
    go_enter Tryd.func23, Tryd.ntmps23
    go_wp2_with (first | ((with_reducible refine gate_callee (f := 33) rfl ?_); refine goesL_ (some 7) rfl rfl Tryd.func33 (by kernel_rfl) rfl #[.int .i16 a0] rfl (by (try simp only [List.map_toArray, List.map_cons, List.map_nil]); first | done | rfl | (simp only [List.length_drop, List.length_take]; rfl)) ?_; (with_reducible refine (impl_dec_int16.calls a0 t120 _ ?side1 A3.out).mono ?_); (case side1 => exact HTB_.out.later (by repeat (first | (with_reducible first | exact HB.out | apply below_alloc | apply pw_below_drewN | apply below_drew1) | exact HB.out))); rintro e w6 ⟨rfl, hb⟩; refine ⟨_, rfl, ?_⟩; have n0_ := Aside0.mk (below_step (by repeat (first | (with_reducible first | exact HB.out | apply below_alloc | apply pw_below_drewN | apply below_drew1) | exact HB.out)) hb); clear HB; have HB := n0_; clear n0_; (try clear hb); (try clear hb2); (try clear hk); (try clear hi)) | ((with_reducible refine gate_callee (f := 34) rfl ?_); refine goesL_ (some 12) rfl rfl Tryd.func34 (by kernel_rfl) rfl #[.string (⟨#[48]⟩ : ByteArray), .int .i64 (wrap64 (a1 - (t120.size : Int)))] rfl (by (try simp only [List.map_toArray, List.map_cons, List.map_nil]); first | done | rfl | (simp only [List.length_drop, List.length_take]; rfl)) ?_; (with_reducible refine (strings_Repeat.calls (⟨#[48]⟩ : ByteArray) (wrap64 (a1 - (t120.size : Int))) t121 _ A4.out).mono ?_); rintro e w7 ⟨rfl, hb⟩; refine ⟨_, rfl, ?_⟩; have n0_ := Aside0.mk (below_step (by repeat (first | (with_reducible first | exact HB.out | apply below_alloc | apply pw_below_drewN | apply below_drew1) | exact HB.out)) hb); clear HB; have HB := n0_; clear n0_; (try clear hb); (try clear hb2); (try clear hk); (try clear hi)))
    go_ret
    exact ⟨by first | rfl | (simp [errW_none, errW_some] <;> rfl) | (simp [*, errW_none, errW_some] <;> rfl) | (simp [IntKind.wrap_i64, wrap64]; done), by repeat (first | (with_reducible first | exact HB.out | apply below_alloc | apply pw_below_drewN | apply below_drew1) | exact HB.out)⟩
  · rw [if_neg c5] at H
    exact absurd H (by simp)

/-! ### impl_labelOf: function 17 -/
def impl_labelOf.f (a0_0 a0_1 a0_2 a0_3 a0_4 a0_5 a0_6 a0_7 : Int) : Option ByteArray :=
  (impl_padded.f a0_0 3).bind fun t1 => (impl_padded.f a0_4 2).bind fun t2 =>
    if t1.size = 3 then (if t2.size = 2 then impl_checked.f 12 (t1 ++ strOfNums [a0_1, a0_2, a0_3] ++ t2) else none) else none
set_option maxHeartbeats 8000000 in
set_option maxRecDepth 100000 in
theorem impl_labelOf.calls (a0_0 a0_1 a0_2 a0_3 a0_4 a0_5 a0_6 a0_7 : Int) (r : ByteArray) (w : World) (ht_ : Go.Proofs.YthmciempoodhpaaDoor.Tbl.Tb w) (h : impl_labelOf.f a0_0 a0_1 a0_2 a0_3 a0_4 a0_5 a0_6 a0_7 = some r) :
    Calls Tryd.prog 17 #[.agg #[.int .i16 a0_0, .int .u8 a0_1, .int .u8 a0_2, .int .u8 a0_3, .int .i16 a0_4, .int .i16 a0_5, .int .i16 a0_6, .int .i16 a0_7]] w fun e w' => e = .returned (.string r) ∧ Below w.heap.size w w' := by
  unfold impl_labelOf.f at h
  obtain ⟨t1, d1, h⟩ := Option.bind_eq_some_iff.mp h
  obtain ⟨t2, d2, h⟩ := Option.bind_eq_some_iff.mp h
  by_cases s1 : t1.size = 3
  · rw [if_pos s1] at h
    by_cases s2 : t2.size = 2
    · rw [if_pos s2] at h
      have HT := Aside0.mk ht_
      have D1 := Aside0.mk d1
      have D2 := Aside0.mk d2
      have HK := Aside0.mk h
      have s3 : (strOfNums [a0_1, a0_2, a0_3]).size = 3 := rfl
      have z1 : (t1 ++ strOfNums [a0_1, a0_2, a0_3]).size = 6 := by rw [ByteArray.size_append, s1, s3]
      have z2 : (t1 ++ strOfNums [a0_1, a0_2, a0_3] ++ t2).size = 8 := by rw [ByteArray.size_append, z1, s2]
      clear ht_ h d1 d2
      go_enter Tryd.func17, Tryd.ntmps17
      go_upto_region 1 with fail
      go_region_held3 (fun w' => (w'.cell? ⟨w.heap.size, 0, none⟩ = some (.int .i16 a0_0) ∧ w'.cell? ⟨w.heap.size, 1, none⟩ = some (.int .u8 a0_1) ∧ w'.cell? ⟨w.heap.size, 2, none⟩ = some (.int .u8 a0_2) ∧ w'.cell? ⟨w.heap.size, 3, none⟩ = some (.int .u8 a0_3) ∧ w'.cell? ⟨w.heap.size, 4, none⟩ = some (.int .i16 a0_4) ∧ (convert 32 9 (.slice (some ⟨w.heap.size, 1, none⟩) 3 3)).run Tryd.prog w' = .ok (.string (strOfNums [a0_1, a0_2, a0_3])) w') ∧ Below w.heap.size w w')
        (first | exact ⟨⟨by simp, by simp, by simp, by simp, by simp, Go.Proofs.YthmciempoodhpaaDoor.Conv.conv3 _ w.heap.size 1 _ _ _ (by simp) (by simp) (by simp)⟩, by repeat (first | exact Below.refl _ _ | apply below_alloc | apply below_drew1)⟩ | (go_split_ands; refine ⟨⟨pw_cell_below hb2 ?_, pw_cell_below hb2 ?_, pw_cell_below hb2 ?_, pw_cell_below hb2 ?_, pw_cell_below hb2 ?_, Go.Proofs.YthmciempoodhpaaDoor.Conv.conv3 _ w.heap.size 1 _ _ _ (pw_cell_below hb2 ?_) (pw_cell_below hb2 ?_) (pw_cell_below hb2 ?_)⟩, below_step ?_ hb2⟩ <;> assumption) | (go_split_ands; refine ⟨⟨?_, ?_, ?_, ?_, ?_, ?_⟩, ?_⟩ <;> assumption))
        (first | (go_at_call 23; go_split_ands; first | ((with_reducible refine (impl_padded.calls a0_0 3 t1 _ (HT.out.later (by assumption)) D1.out).mono ?_); rintro e w' ⟨rfl, hb2⟩) | ((with_reducible refine (impl_padded.calls a0_4 2 t2 _ (HT.out.later (by assumption)) D2.out).mono ?_); rintro e w' ⟨rfl, hb2⟩)) | (go_at_call 22; go_split_ands; (with_reducible refine (impl_checked.calls 12 (t1 ++ strOfNums [a0_1, a0_2, a0_3] ++ t2) r _ (HT.out.later (by assumption)) HK.out).mono ?_); rintro e w' ⟨rfl, hb2⟩))
      go_wp2
      go_ret
      go_split_ands
      exact ⟨rfl, by assumption⟩
    · rw [if_neg s2] at h; cases h
  · rw [if_neg s1] at h; cases h

end Go.Proofs.YthmciempoodhpaaDoor.PRdl
