-- made by a program of this session (wip/pext.py) out of the translation; the parts by hand are wip/ext's
import Derived.Test.YtolhlackfphdcaaDoorPNeax0
import Derived.Test.YtolhlackfphdcaaDoorPNeax2
namespace Go.Proofs.YtolhlackfphdcaaDoor.PNea
open Go.RowKit Go.Proofs.YtolhlackfphdcaaDoorW.PrintWords Go.Proofs.YtolhlackfphdcaaDoorW.PrintLast Go.Proofs.YtolhlackfphdcaaDoorW.PrintMore
attribute [local go_sem] max2_int min2_int max_two min_two max_three min_three max_four min_four   -- for this text's walks alone
set_option linter.unusedVariables false
set_option linter.unusedSimpArgs false

/-! ### laws_markStringS: function 8 -/
def laws_markStringS.l0 : Nat → List ByteArray → Int → Int → Option (Int × List ByteArray)
  | 0, _, _, _ => none
  | k + 1, x0, x1, x5 => if x5 < (x0.length : Int) then ((laws_markText.f k x1).bind fun t118 => (if 0 ≤ x5 then (laws_markStringS.l0 k (x0.set (x5 : Int).toNat t118) (wrap64 (x1 + 1)) (wrap64 (x5 + 1))) else (none))) else (some (x1, x0))
def laws_markStringS.f (k : Nat) (l0 : List ByteArray) (a1 : Int) : Option (Int × List ByteArray) := laws_markStringS.l0 k l0 a1 0
theorem laws_markStringS.mono_l : ∀ k, (∀ y0 y1 y2, LeO (laws_markStringS.l0 k y0 y1 y2) (laws_markStringS.l0 (k + 1) y0 y1 y2))
  | 0 => fun _ _ _ r h => by simp [laws_markStringS.l0] at h
  | k + 1 => by
    have ih0 := laws_markStringS.mono_l k
    · intro y0 y1 y2
      unfold laws_markStringS.l0
      repeat' first
      | (with_reducible exact ih0 _ _ _)
      | (with_reducible exact laws_markText.mono _ _)
      | (with_reducible exact LeO.refl _)
      | (with_reducible exact LeO.none _)
      | (with_reducible refine LeO.ite ?_ ?_)
      | (with_reducible refine LeO.bind ?_ (fun _ => ?_))
      | exact ih0 _ _ _
      | exact laws_markText.mono _ _
      | exact LeO.none _
      | refine LeO.ite ?_ ?_
      | refine LeO.bind ?_ (fun _ => ?_)
theorem laws_markStringS.mono : ∀ a0 a1 k, LeO (laws_markStringS.f k a0 a1) (laws_markStringS.f (k + 1) a0 a1) := by
  intro a0 a1 k
  have ih0 := laws_markStringS.mono_l k
  unfold laws_markStringS.f
  repeat' first
      | (with_reducible exact ih0 _ _ _)
      | (with_reducible exact laws_markText.mono _ _)
      | (with_reducible exact LeO.refl _)
      | (with_reducible exact LeO.none _)
      | (with_reducible refine LeO.ite ?_ ?_)
      | (with_reducible refine LeO.bind ?_ (fun _ => ?_))
      | exact ih0 _ _ _
      | exact laws_markText.mono _ _
      | exact LeO.none _
      | refine LeO.ite ?_ ?_
      | refine LeO.bind ?_ (fun _ => ?_)
set_option maxHeartbeats 8000000 in
set_option maxRecDepth 100000 in
theorem laws_markStringS.calls (k : Nat) (P0_ : Nat → Prop) (u9000_ : Value) (l0 : List ByteArray) (a1 : Int) (r1 : Int) (r2 : List ByteArray) (w0 w : World) (hB : Below w0.heap.size w0 w) (ho0 : Kd.R Kd.string 9 w w0.heap.size P0_ u9000_ l0) (ht_ : Go.Proofs.YtolhlackfphdcaaDoor.Tbl.Tb w0) (h : laws_markStringS.f k l0 a1 = some (r1, r2)) :
    Calls Tryd.prog 8 #[u9000_, .int .i64 a1] w fun e w' => e = .returned (.int .i64 r1) ∧ Kd.R Kd.string 9 w' w0.heap.size (fun k_ => (P0_ k_ ∨ w.heap.size ≤ k_)) u9000_ r2 ∧ Below w0.heap.size w0 w' ∧ Kept w w' (fun k_ => P0_ k_) := by
  have HO0 := Aside0.mk (show Kd.R Kd.string 9 w w0.heap.size (fun k_ => (P0_ k_ ∨ w.heap.size ≤ k_)) u9000_ l0 from Kd.R_mono ho0 (fun k_ hk => (.inl hk)))
  have HK := Aside0.mk (Kept.refl w (fun k_ => P0_ k_))
  have HTB_ := Aside0.mk ht_
  clear ht_
  have HW0 := Aside0.mk hB.size
  have HB := Aside0.mk hB
  clear hB
  have H : (laws_markStringS.l0 k l0 a1 0) = some (r1, r2) := h
  clear h
  have H' := Aside0.mk H
  clear H
  go_enter Tryd.func8, Tryd.ntmps8
  go_wp2
  go_loopg [1, 5] k (fun kq v1 v5 w' => ∃ (x0_1 : List ByteArray) (x1_1 : Int) (x5_1 : Int), v1 = .int .i64 x1_1 ∧ v5 = .int .i64 x5_1 ∧ Aside0 (laws_markStringS.l0 kq x0_1 x1_1 x5_1 = some (r1, r2)) ∧ Aside0 (kq ≤ k) ∧ Aside0 (Kd.R Kd.string 9 w' w0.heap.size (fun k_ => (P0_ k_ ∨ w.heap.size ≤ k_)) u9000_ x0_1) ∧ Aside0 (Kept w w' (fun k_ => P0_ k_)) ∧ Aside0 (Below w0.heap.size w0 w'))
  case atStart => exact ⟨(l0), (a1), (0), (by first | rfl | (simp; done) | (simp [*]; done)), (by first | rfl | (simp; done) | (simp [*]; done)), H', ⟨Nat.le_refl _⟩, ⟨by (with_reducible repeat (first | apply Kd.R_alloc | apply Kd.R_drewN | apply Kd.R_drew)); exact HO0.out⟩, ⟨by repeat (first | (with_reducible first | exact HK.out | apply Kept.alloc | apply Kept.drewN | apply Kept.drew) | exact HK.out)⟩, ⟨by repeat (first | (with_reducible first | exact HB.out | apply below_alloc | apply pw_below_drewN | apply below_drew1) | exact HB.out)⟩⟩
  case round =>
    clear H'
    try clear p2
    obtain ⟨x0_1, x1_1, x5_1, rfl, rfl, HA, HK1, HO_0, HK, HB⟩ := hrel
    cases gk with
    | zero => exact absurd HA.out (by simp [laws_markStringS.l0])
    | succ k1 =>
      have H := HA.out
      clear HA
      simp only [laws_markStringS.l0] at H
      by_cases c3 : x5_1 < (x0_1.length : Int)
      · rw [if_pos c3] at H
        have c3b0 : decide (x5_1 < (x0_1.length : Int)) = true := decide_eq_true c3
        clear c3
        replace H := Option.bind_eq_some_iff.mp H
        obtain ⟨t118, A40, H⟩ := H
        replace H : (if 0 ≤ x5_1 then (laws_markStringS.l0 k1 (x0_1.set (x5_1 : Int).toNat t118) (wrap64 (x1_1 + 1)) (wrap64 (x5_1 + 1))) else (none)) = some (r1, r2) := H
        have A4 := Aside0.mk A40
        clear A40
        by_cases c5 : 0 ≤ x5_1
        · rw [if_pos c5] at H
          have c5b0 : decide (0 ≤ x5_1) = true := decide_eq_true c5
          clear c5
          obtain ⟨y119, hy119⟩ : ∃ y_ : List ByteArray, y_ = (x0_1.set (x5_1 : Int).toNat t118) := ⟨_, rfl⟩
          replace H : (laws_markStringS.l0 k1 y119 (wrap64 (x1_1 + 1)) (wrap64 (x5_1 + 1))) = some (r1, r2) := by first | (rw [hy119]; with_reducible exact H) | (have H2_ := (Option.bind_some _ _).symm.trans H; rw [hy119]; with_reducible exact H2_) | (have H2_ := (Option.bind_some _ _).symm.trans H; with_reducible exact H2_) | with_reducible exact H | (rw [hy119]; exact H) | exact H
          have Ny119 := Aside0.mk hy119
          clear hy119
          have H' := Aside0.mk H
          clear H
          obtain ⟨Ao7, co7, eo7⟩ := Kd.R_slice HO_0.out
          subst eo7
          go_wp2_with (first | ((with_reducible refine gate_callee (f := 15) rfl ?_); refine goesL_ (some 15) rfl rfl Tryd.func15 (by kernel_rfl) rfl #[.int .i64 x1_1] rfl (by (try simp only [List.map_toArray, List.map_cons, List.map_nil]); first | done | rfl | (simp only [List.length_drop, List.length_take]; rfl)) ?_; (with_reducible refine (laws_markText.calls k1 x1_1 t118 _ ?side1 A4.out).mono ?_); (case side1 => exact HTB_.out.later (by repeat (first | (with_reducible first | exact HB.out | apply below_alloc | apply pw_below_drewN | apply below_drew1) | exact HB.out))); rintro e w8 ⟨rfl, hb⟩; refine ⟨_, rfl, ?_⟩; have n0_ := Aside0.mk (Kd.R_below (by (with_reducible repeat (first | apply Kd.R_alloc | apply Kd.R_drewN | apply Kd.R_drew)); exact HO_0.out) hb); have n1_ := Aside0.mk (Kept.below (S := (fun k_ => P0_ k_)) (by repeat (first | (with_reducible first | exact HK.out | apply Kept.alloc | apply Kept.drewN | apply Kept.drew) | exact HK.out)) hb); have n2_ := Aside0.mk (below_step (by repeat (first | (with_reducible first | exact HB.out | apply below_alloc | apply pw_below_drewN | apply below_drew1) | exact HB.out)) hb); clear HO_0; clear HK; clear HB; have HO_0 := n0_; have HK := n1_; have HB := n2_; clear n0_ n1_ n2_; (try clear hb); (try clear hb2); (try clear hk); (try clear hi); have p6 : 0 ≤ (x5_1 : Int) := of_decide_eq_true (by first | (with_reducible assumption) | assumption); have q6 : (x5_1 : Int) < ((x0_1.length : Int) : Int) := of_decide_eq_true (by first | (with_reducible assumption) | assumption); obtain ⟨go6, co6, eo6, gb6, gl6, cl6, HG6⟩ := Kd.R_form HO_0.out (by omega); (first | cases eo6 | (injection eo6 with ea_ en_ ec_; (first | subst ea_ | (injection ea_ with ea_; subst ea_)); subst ec_; clear en_)); have GB6 := Aside0.mk gb6; have GG6 := Aside0.mk HG6; clear gb6 gl6 HG6; have HMgo6 := Aside0.mk (show (P0_ go6 ∨ w.heap.size ≤ go6) from (HO_0.out.1 _ rfl)); obtain ⟨hx6_0, hf6_0⟩ := Kd.R_celln (⟨#[]⟩ : ByteArray) HO_0.out (x5_1 : Int) p6 q6; replace p6 := eq_true p6; replace q6 := eq_true q6; obtain ⟨hy9_, hz9_⟩ := Kd.R_celln (⟨#[]⟩ : ByteArray) HO_0.out (x5_1 : Int) (of_decide_eq_true (by first | (with_reducible assumption) | assumption)) (of_decide_eq_true (by first | (with_reducible assumption) | assumption)); have HP9 := Kd.R_putg HO_0.out (x5_1 : Int) t118) | ((with_reducible refine gate_store (t := 9) (p := 16) rfl ?_); refine store_event (t := 9) (p := 16) (v := ?vo_w10) (w1 := (w8.setCell ⟨go6, (x5_1 : Int).toNat, none⟩ (.string t118))) ?hg ?ho ?hn ?hr ?_; (case ho => rfl); (case hg => rfl); (case hn => rfl); (case hr => first | (go_simp; done) | (go_simp; rfl)); intro w10 hw; have hg : w8.grownBy w10 (some go6) := (by rw [hw]; exact HP9.2); have hp_ : Kd.R Kd.string 9 w10 w0.heap.size (fun k_ => (P0_ k_ ∨ w.heap.size ≤ k_)) (.slice (some ⟨go6, 0, none⟩) x0_1.length co7) y119 := (by rw [hw, Ny119.out]; exact HP9.1); clear HP9; have n0_ := Aside0.mk (hp_); have n1_ := Aside0.mk ((by rw [hw]; exact below_set (HB.out) GB6.out : Below w0.heap.size w0 w10)); have n2_ := Aside0.mk (Kept.of_grown (S := (fun k_ => P0_ k_)) hg (by repeat (first | (with_reducible first | exact HK.out | apply Kept.alloc | apply Kept.drewN | apply Kept.drew) | exact HK.out)) (fun k_ e_ => (HO_0.out.1 k_ e_))); clear HO_0; clear HB; clear HK; have HO_0 := n0_; have HB := n1_; have HK := n2_; clear n0_ n1_ n2_; clear hg hw hp_))
          go_roundg k1
          case measure => have := HK1.out; omega
          case rel => exact ⟨(y119), (wrap64 (x1_1 + 1)), (wrap64 (x5_1 + 1)), (by first | rfl | (simp; done) | (simp [*]; done)), (by first | rfl | (simp; done) | (simp [*]; done)), H', ⟨by have := HK1.out; omega⟩, ⟨by (with_reducible repeat (first | apply Kd.R_alloc | apply Kd.R_drewN | apply Kd.R_drew)); exact HO_0.out⟩, ⟨by repeat (first | (with_reducible first | exact HK.out | apply Kept.alloc | apply Kept.drewN | apply Kept.drew) | exact HK.out)⟩, ⟨by repeat (first | (with_reducible first | exact HB.out | apply below_alloc | apply pw_below_drewN | apply below_drew1) | exact HB.out)⟩⟩
        · rw [if_neg c5] at H
          exact absurd H (by simp)
      · rw [if_neg c3] at H
        have c3b0 : decide (x5_1 < (x0_1.length : Int)) = false := decide_eq_false c3
        clear c3
        simp only [Option.some.injEq, Prod.mk.injEq] at H
        obtain ⟨rfl, rfl⟩ := H
        obtain ⟨Ao11, co11, eo11⟩ := Kd.R_slice HO_0.out
        subst eo11
        go_wp2
        go_ret
        exact ⟨by first | rfl | (simp [errW_none, errW_some] <;> rfl) | (simp [*, errW_none, errW_some] <;> rfl) | (simp [IntKind.wrap_i64, wrap64]; done), by (with_reducible repeat (first | apply Kd.R_alloc | apply Kd.R_drewN | apply Kd.R_drew)); exact HO_0.out, by repeat (first | (with_reducible first | exact HB.out | apply below_alloc | apply pw_below_drewN | apply below_drew1) | exact HB.out), by repeat (first | (with_reducible first | exact HK.out | apply Kept.alloc | apply Kept.drewN | apply Kept.drew) | exact HK.out)⟩

/-! ### laws_heldStringS: function 9 -/
def laws_heldStringS.l0 : Nat → List ByteArray → Int → Int → Option (Int)
  | 0, _, _, _ => none
  | k + 1, x0, x1, x5 => if x5 < (x0.length : Int) then (if 0 ≤ x5 then ((laws_markText.f k x1).bind fun t121 => (if (rdOf ByteArray.empty x0 x5).toList = t121.toList then (laws_heldStringS.l0 k x0 (wrap64 (x1 + 1)) (wrap64 (x5 + 1))) else (some (-1)))) else (none)) else (some x1)
def laws_heldStringS.f (k : Nat) (l0 : List ByteArray) (a1 : Int) : Option (Int) := laws_heldStringS.l0 k l0 a1 0
theorem laws_heldStringS.mono_l : ∀ k, (∀ y0 y1 y2, LeO (laws_heldStringS.l0 k y0 y1 y2) (laws_heldStringS.l0 (k + 1) y0 y1 y2))
  | 0 => fun _ _ _ r h => by simp [laws_heldStringS.l0] at h
  | k + 1 => by
    have ih0 := laws_heldStringS.mono_l k
    · intro y0 y1 y2
      unfold laws_heldStringS.l0
      repeat' first
      | (with_reducible exact ih0 _ _ _)
      | (with_reducible exact laws_markText.mono _ _)
      | (with_reducible exact LeO.refl _)
      | (with_reducible exact LeO.none _)
      | (with_reducible refine LeO.ite ?_ ?_)
      | (with_reducible refine LeO.bind ?_ (fun _ => ?_))
      | exact ih0 _ _ _
      | exact laws_markText.mono _ _
      | exact LeO.none _
      | refine LeO.ite ?_ ?_
      | refine LeO.bind ?_ (fun _ => ?_)
theorem laws_heldStringS.mono : ∀ a0 a1 k, LeO (laws_heldStringS.f k a0 a1) (laws_heldStringS.f (k + 1) a0 a1) := by
  intro a0 a1 k
  have ih0 := laws_heldStringS.mono_l k
  unfold laws_heldStringS.f
  repeat' first
      | (with_reducible exact ih0 _ _ _)
      | (with_reducible exact laws_markText.mono _ _)
      | (with_reducible exact LeO.refl _)
      | (with_reducible exact LeO.none _)
      | (with_reducible refine LeO.ite ?_ ?_)
      | (with_reducible refine LeO.bind ?_ (fun _ => ?_))
      | exact ih0 _ _ _
      | exact laws_markText.mono _ _
      | exact LeO.none _
      | refine LeO.ite ?_ ?_
      | refine LeO.bind ?_ (fun _ => ?_)
set_option maxHeartbeats 8000000 in
set_option maxRecDepth 100000 in
theorem laws_heldStringS.calls (k : Nat) (A0 : Option Addr) (c0 : Nat) (l0 : List ByteArray) (a1 : Int) (r : Int) (w : World) (hr0 : Kd.C Kd.string w A0 l0.length l0) (hc0 : l0.length ≤ c0) (ht_ : Go.Proofs.YtolhlackfphdcaaDoor.Tbl.Tb w) (h : laws_heldStringS.f k l0 a1 = some r) :
    Calls Tryd.prog 9 #[.slice A0 l0.length c0, .int .i64 a1] w fun e w' => e = .returned (.int .i64 r) ∧ Below w.heap.size w w' := by
  have HR0 := Aside0.mk hr0
  have HC0 := Aside0.mk hc0
  clear hr0 hc0
  have HTB_ := Aside0.mk ht_
  clear ht_
  have HB := Aside0.mk (Below.refl w.heap.size w)
  have H : (laws_heldStringS.l0 k l0 a1 0) = some r := h
  clear h
  have H' := Aside0.mk H
  clear H
  go_enter Tryd.func9, Tryd.ntmps9
  go_wp2
  go_loopg [1, 5] k (fun kq v1 v5 w' => ∃ (x1_1 : Int) (x5_1 : Int), v1 = .int .i64 x1_1 ∧ v5 = .int .i64 x5_1 ∧ Aside0 (laws_heldStringS.l0 kq l0 x1_1 x5_1 = some r) ∧ Aside0 (kq ≤ k) ∧ Aside0 (Below w.heap.size w w'))
  case atStart => exact ⟨(a1), (0), (by first | rfl | (simp; done) | (simp [*]; done)), (by first | rfl | (simp; done) | (simp [*]; done)), H', ⟨Nat.le_refl _⟩, ⟨by repeat (first | (with_reducible first | exact HB.out | apply below_alloc | apply pw_below_drewN | apply below_drew1) | exact HB.out)⟩⟩
  case round =>
    clear H'
    try clear p2
    obtain ⟨x1_1, x5_1, rfl, rfl, HA, HK1, HB⟩ := hrel
    cases gk with
    | zero => exact absurd HA.out (by simp [laws_heldStringS.l0])
    | succ k1 =>
      have H := HA.out
      clear HA
      simp only [laws_heldStringS.l0] at H
      by_cases c3 : x5_1 < (l0.length : Int)
      · rw [if_pos c3] at H
        have c3b0 : decide (x5_1 < (l0.length : Int)) = true := decide_eq_true c3
        clear c3
        by_cases c4 : 0 ≤ x5_1
        · rw [if_pos c4] at H
          have c4b0 : decide (0 ≤ x5_1) = true := decide_eq_true c4
          clear c4
          replace H := Option.bind_eq_some_iff.mp H
          obtain ⟨t121, A50, H⟩ := H
          replace H : (if (rdOf ByteArray.empty l0 x5_1).toList = t121.toList then (laws_heldStringS.l0 k1 l0 (wrap64 (x1_1 + 1)) (wrap64 (x5_1 + 1))) else (some (-1))) = some r := H
          have A5 := Aside0.mk A50
          clear A50
          by_cases c6 : (rdOf ByteArray.empty l0 x5_1).toList = t121.toList
          · rw [if_pos c6] at H
            have c6b0 : ((rdOf ByteArray.empty l0 x5_1).toList == t121.toList) = true := beq_iff_eq.mpr c6
            have c6b1 : ((rdOf ByteArray.empty l0 x5_1).toList != t121.toList) = false := bne_eq_false_iff_eq.mpr c6
            clear c6
            have H' := Aside0.mk H
            clear H
            try go_wp2
            have n0_ := Aside0.mk (below_drew1 HB.out)
            clear HB
            have HB := n0_
            clear n0_
            have p120 : 0 ≤ (x5_1 : Int) := of_decide_eq_true (by first | (with_reducible assumption) | assumption)
            have q120 : x5_1 < (l0.length : Int) := of_decide_eq_true (by first | (with_reducible assumption) | assumption)
            obtain ⟨ad120, e120, hx120_0⟩ := Kd.at_string HR0.out x5_1 p120 q120
            have hw120_0 := hx120_0
            cases e120
            replace hx120_0 := (HB.out.cell (World.block_lt_of_cell? w _ hx120_0)).trans hx120_0
            replace p120 := eq_true p120
            replace q120 := eq_true q120
            refine start_ (n := 7) (S := fun w' => w'.cell? (ad120.add (x5_1).toNat) = some (.string (rdOf ByteArray.empty l0 x5_1))) (ds := []) #[false, false, false, false, false, false, false] (by kernel_rfl) rfl rfl (((HB.out.cell (World.block_lt_of_cell? w _ hw120_0)).trans hw120_0)) (fun hHeld => ?_)
            generalize wr.drew = w7 at HB hx120_0 hHeld ⊢
            refine pure_ (i := 0) (N := some 12) (v := ?_) (a' := ?_) #[true, false, false, false, false, false, false] rfl rfl (by kernel_rfl) (fun _ _ _ h => h) (Or.inl ⟨by rfl, ?_⟩) ?_ ?_
            rotate_left
            · intro w'
              go_simp
              with_reducible rfl
            rotate_left
            · simp only [Act.put, List.setIfInBounds_toArray, List.set_cons_zero, List.set_cons_succ, i64_w, i32_w]
              rfl
            refine pure_ (i := 1) (N := some 13) (v := ?_) (a' := ?_) #[true, true, false, false, false, false, false] rfl rfl (by kernel_rfl) (fun _ _ _ h => h) (Or.inl ⟨by rfl, ?_⟩) ?_ ?_
            rotate_left
            · intro w'
              go_simp
              with_reducible rfl
            rotate_left
            · simp only [Act.put, List.setIfInBounds_toArray, List.set_cons_zero, List.set_cons_succ, i64_w, i32_w]
              rfl
            refine pure_ (i := 2) (N := some 14) (v := ?_) (a' := ?_) #[true, true, true, false, false, false, false] rfl rfl (by kernel_rfl) (fun _ _ _ h => h) (Or.inl ⟨by rfl, ?_⟩) ?_ ?_
            rotate_left
            · intro w'
              go_simp
              with_reducible rfl
            rotate_left
            · simp only [Act.put, List.setIfInBounds_toArray, List.set_cons_zero, List.set_cons_succ, i64_w, i32_w]
              rfl
            refine pure_ (i := 4) (N := some 16) (v := ?_) (a' := ?_) #[true, true, true, false, true, false, false] rfl rfl (by kernel_rfl) (fun _ _ _ h => h) (Or.inl ⟨by rfl, ?_⟩) ?_ ?_
            rotate_left
            · intro w'
              go_simp
              with_reducible rfl
            rotate_left
            · simp only [Act.put, List.setIfInBounds_toArray, List.set_cons_zero, List.set_cons_succ, i64_w, i32_w]
              rfl
            refine take_ (i := 3) (N := some 15) (v := ?_) (a' := ?_) #[true, true, true, true, true, false, false] rfl rfl (by kernel_rfl) (fun _ _ _ h => h) (Or.inl ⟨by rfl, ?_⟩) hHeld ?_ ?_
            rotate_left
            · intro w' s0
              go_simp
              with_reducible rfl
            rotate_left
            · simp only [Act.put, List.setIfInBounds_toArray, List.set_cons_zero, List.set_cons_succ, i64_w, i32_w]
              rfl
            refine one_ (i := 5) (N := some 17) #[true, true, true, true, true, true, false] rfl rfl (by kernel_rfl) (by decide) (fun K hK => ?_)
            refine goes_ Tryd.func15 (by kernel_rfl) rfl #[.int .i64 x1_1] (by rfl) rfl rfl (by (try simp only [List.map_toArray, List.map_cons, List.map_nil]); first | done | rfl | (simp only [List.length_drop, List.length_take]; rfl)) ?_
            with_reducible refine (laws_markText.calls k1 x1_1 t121 _ ?side1 A5.out).mono ?_
            (case side1 => exact HTB_.out.later (by repeat (first | (with_reducible first | exact HB.out | apply below_alloc | apply pw_below_drewN | apply below_drew1) | exact HB.out)))
            rintro e w8 ⟨rfl, hb⟩
            refine ⟨_, rfl, ?_⟩
            have n0_ := Aside0.mk (below_step (by repeat (first | (with_reducible first | exact HB.out | apply below_alloc | apply pw_below_drewN | apply below_drew1) | exact HB.out)) hb)
            clear HB
            have HB := n0_
            clear n0_
            (try clear hb)
            (try clear hb2)
            (try clear hk)
            (try clear hi)
            refine hK.out _ _ (((HB.out.cell (World.block_lt_of_cell? w _ hw120_0)).trans hw120_0)) (fun hHeld => ?_)
            clear hK K
            refine norm_ (a' := ?_) ?_ ?_
            rotate_left
            · show Act.put _ (some 17) _ = _
              simp only [Act.put, List.setIfInBounds_toArray, List.set_cons_zero, List.set_cons_succ, i64_w, i32_w]
              rfl
            refine pure_ (i := 6) (N := some 18) (v := ?_) (a' := ?_) #[true, true, true, true, true, true, true] rfl rfl (by kernel_rfl) (fun _ _ _ h => h) (Or.inl ⟨by rfl, ?_⟩) ?_ ?_
            rotate_left
            · intro w'
              go_simp
              with_reducible rfl
            rotate_left
            · simp only [Act.put, List.setIfInBounds_toArray, List.set_cons_zero, List.set_cons_succ, i64_w, i32_w]
              rfl
            refine done_ (by kernel_rfl) ?_
            try go_wp2
            go_roundg k1
            case measure => have := HK1.out; omega
            case rel => exact ⟨(wrap64 (x1_1 + 1)), (wrap64 (x5_1 + 1)), (by first | rfl | (simp; done) | (simp [*]; done)), (by first | rfl | (simp; done) | (simp [*]; done)), H', ⟨by have := HK1.out; omega⟩, ⟨by repeat (first | (with_reducible first | exact HB.out | apply below_alloc | apply pw_below_drewN | apply below_drew1) | exact HB.out)⟩⟩
          · rw [if_neg c6] at H
            have c6b0 : ((rdOf ByteArray.empty l0 x5_1).toList == t121.toList) = false := beq_eq_false_iff_ne.mpr c6
            have c6b1 : ((rdOf ByteArray.empty l0 x5_1).toList != t121.toList) = true := bne_iff_ne.mpr c6
            obtain rfl := Option.some.inj H
            try go_wp2
            have n0_ := Aside0.mk (below_drew1 HB.out)
            clear HB
            have HB := n0_
            clear n0_
            have p120 : 0 ≤ (x5_1 : Int) := of_decide_eq_true (by first | (with_reducible assumption) | assumption)
            have q120 : x5_1 < (l0.length : Int) := of_decide_eq_true (by first | (with_reducible assumption) | assumption)
            obtain ⟨ad120, e120, hx120_0⟩ := Kd.at_string HR0.out x5_1 p120 q120
            have hw120_0 := hx120_0
            cases e120
            replace hx120_0 := (HB.out.cell (World.block_lt_of_cell? w _ hx120_0)).trans hx120_0
            replace p120 := eq_true p120
            replace q120 := eq_true q120
            refine start_ (n := 7) (S := fun w' => w'.cell? (ad120.add (x5_1).toNat) = some (.string (rdOf ByteArray.empty l0 x5_1))) (ds := []) #[false, false, false, false, false, false, false] (by kernel_rfl) rfl rfl (((HB.out.cell (World.block_lt_of_cell? w _ hw120_0)).trans hw120_0)) (fun hHeld => ?_)
            generalize wr.drew = w9 at HB hx120_0 hHeld ⊢
            refine pure_ (i := 0) (N := some 12) (v := ?_) (a' := ?_) #[true, false, false, false, false, false, false] rfl rfl (by kernel_rfl) (fun _ _ _ h => h) (Or.inl ⟨by rfl, ?_⟩) ?_ ?_
            rotate_left
            · intro w'
              go_simp
              with_reducible rfl
            rotate_left
            · simp only [Act.put, List.setIfInBounds_toArray, List.set_cons_zero, List.set_cons_succ, i64_w, i32_w]
              rfl
            refine pure_ (i := 1) (N := some 13) (v := ?_) (a' := ?_) #[true, true, false, false, false, false, false] rfl rfl (by kernel_rfl) (fun _ _ _ h => h) (Or.inl ⟨by rfl, ?_⟩) ?_ ?_
            rotate_left
            · intro w'
              go_simp
              with_reducible rfl
            rotate_left
            · simp only [Act.put, List.setIfInBounds_toArray, List.set_cons_zero, List.set_cons_succ, i64_w, i32_w]
              rfl
            refine pure_ (i := 2) (N := some 14) (v := ?_) (a' := ?_) #[true, true, true, false, false, false, false] rfl rfl (by kernel_rfl) (fun _ _ _ h => h) (Or.inl ⟨by rfl, ?_⟩) ?_ ?_
            rotate_left
            · intro w'
              go_simp
              with_reducible rfl
            rotate_left
            · simp only [Act.put, List.setIfInBounds_toArray, List.set_cons_zero, List.set_cons_succ, i64_w, i32_w]
              rfl
            refine pure_ (i := 4) (N := some 16) (v := ?_) (a' := ?_) #[true, true, true, false, true, false, false] rfl rfl (by kernel_rfl) (fun _ _ _ h => h) (Or.inl ⟨by rfl, ?_⟩) ?_ ?_
            rotate_left
            · intro w'
              go_simp
              with_reducible rfl
            rotate_left
            · simp only [Act.put, List.setIfInBounds_toArray, List.set_cons_zero, List.set_cons_succ, i64_w, i32_w]
              rfl
            refine take_ (i := 3) (N := some 15) (v := ?_) (a' := ?_) #[true, true, true, true, true, false, false] rfl rfl (by kernel_rfl) (fun _ _ _ h => h) (Or.inl ⟨by rfl, ?_⟩) hHeld ?_ ?_
            rotate_left
            · intro w' s0
              go_simp
              with_reducible rfl
            rotate_left
            · simp only [Act.put, List.setIfInBounds_toArray, List.set_cons_zero, List.set_cons_succ, i64_w, i32_w]
              rfl
            refine one_ (i := 5) (N := some 17) #[true, true, true, true, true, true, false] rfl rfl (by kernel_rfl) (by decide) (fun K hK => ?_)
            refine goes_ Tryd.func15 (by kernel_rfl) rfl #[.int .i64 x1_1] (by rfl) rfl rfl (by (try simp only [List.map_toArray, List.map_cons, List.map_nil]); first | done | rfl | (simp only [List.length_drop, List.length_take]; rfl)) ?_
            with_reducible refine (laws_markText.calls k1 x1_1 t121 _ ?side1 A5.out).mono ?_
            (case side1 => exact HTB_.out.later (by repeat (first | (with_reducible first | exact HB.out | apply below_alloc | apply pw_below_drewN | apply below_drew1) | exact HB.out)))
            rintro e w10 ⟨rfl, hb⟩
            refine ⟨_, rfl, ?_⟩
            have n0_ := Aside0.mk (below_step (by repeat (first | (with_reducible first | exact HB.out | apply below_alloc | apply pw_below_drewN | apply below_drew1) | exact HB.out)) hb)
            clear HB
            have HB := n0_
            clear n0_
            (try clear hb)
            (try clear hb2)
            (try clear hk)
            (try clear hi)
            refine hK.out _ _ (((HB.out.cell (World.block_lt_of_cell? w _ hw120_0)).trans hw120_0)) (fun hHeld => ?_)
            clear hK K
            refine norm_ (a' := ?_) ?_ ?_
            rotate_left
            · show Act.put _ (some 17) _ = _
              simp only [Act.put, List.setIfInBounds_toArray, List.set_cons_zero, List.set_cons_succ, i64_w, i32_w]
              rfl
            refine pure_ (i := 6) (N := some 18) (v := ?_) (a' := ?_) #[true, true, true, true, true, true, true] rfl rfl (by kernel_rfl) (fun _ _ _ h => h) (Or.inl ⟨by rfl, ?_⟩) ?_ ?_
            rotate_left
            · intro w'
              go_simp
              with_reducible rfl
            rotate_left
            · simp only [Act.put, List.setIfInBounds_toArray, List.set_cons_zero, List.set_cons_succ, i64_w, i32_w]
              rfl
            refine done_ (by kernel_rfl) ?_
            try go_wp2
            go_ret
            exact ⟨by first | rfl | (simp [errW_none, errW_some] <;> rfl) | (simp [*, errW_none, errW_some] <;> rfl) | (simp [IntKind.wrap_i64, wrap64]; done), by repeat (first | (with_reducible first | exact HB.out | apply below_alloc | apply pw_below_drewN | apply below_drew1) | exact HB.out)⟩
        · rw [if_neg c4] at H
          exact absurd H (by simp)
      · rw [if_neg c3] at H
        have c3b0 : decide (x5_1 < (l0.length : Int)) = false := decide_eq_false c3
        clear c3
        obtain rfl := Option.some.inj H
        go_wp2
        go_ret
        exact ⟨by first | rfl | (simp [errW_none, errW_some] <;> rfl) | (simp [*, errW_none, errW_some] <;> rfl) | (simp [IntKind.wrap_i64, wrap64]; done), by repeat (first | (with_reducible first | exact HB.out | apply below_alloc | apply pw_below_drewN | apply below_drew1) | exact HB.out)⟩

/-! ### slices_IndexFunc_string: function 23 -/
open Go.Proofs.YtolhlackfphdcaaDoor.Gen in
def slices_IndexFunc_string.f (l0 : List ByteArray) (p1 : ByteArray → Option Bool) : Option Int := idxO p1 l0 0
open Go.Proofs.YtolhlackfphdcaaDoor.Gen in
set_option maxHeartbeats 4000000 in
theorem slices_IndexFunc_string.calls (A0 : Option Addr) (c0 : Nat) (l0 : List ByteArray) (g1 : Nat) (lb1 : Array Value) (p1 : ByteArray → Option Bool) (r : Int) (w : World) (hp1 : FnB Tryd.prog g1 lb1 Kd.string vOne p1 w) (hr0 : Kd.C Kd.string w A0 l0.length l0) (hc0 : l0.length ≤ c0) (h : slices_IndexFunc_string.f l0 p1 = some r) :
    Calls Tryd.prog 23 #[.slice A0 l0.length c0, .func (.func g1) #[] lb1] w fun e w' => e = .returned (.int .i64 r) ∧ Below w.heap.size w w' := by
  have hm : l0.length ≤ 9223372036854775807 := hr0.2.1
  have eg := hp1.enters
  have HP := Aside0.mk hp1
  have HR := Aside0.mk hr0
  have HF := Aside0.mk h
  clear hp1 hr0 h
  go_enter Tryd.func23, Tryd.ntmps23
  go_wp2
  go_loopg [5, 8] l0.length (fun gg _ s8 wr => ∃ kk : Nat, kk ≤ l0.length ∧ l0.length - kk ≤ gg ∧ s8 = .int .i64 kk ∧ Aside0 (Below w.heap.size w wr) ∧ Aside0 (idxO p1 (l0.drop kk) kk = some r))
  case atStart => exact ⟨0, Nat.zero_le _, by omega, rfl, ⟨Below.refl _ w⟩, ⟨HF.out⟩⟩
  case round =>
    obtain ⟨kk, hkk, hg, rfl, BW, HA⟩ := hrel
    by_cases hlt : kk < l0.length
    · have hltz : (kk : Int) < (l0.length : Int) := by omega
      have hx : l0[kk]? = some l0[kk] := List.getElem?_eq_getElem hlt
      have HD := HA.out
      rw [List.drop_eq_getElem_cons hlt] at HD
      generalize l0[kk] = x at hx HD
      obtain ⟨b, hb, HD⟩ := Option.bind_eq_some_iff.mp HD
      obtain ⟨ad, c0_, rfl, hK, hx0⟩ := cells1 (d := Kd.string) rfl (Kd.C_below HR.out BW.out) kk x hx
      have hcall := HP.out.run _ x _ b BW.out hK hb
      have HX := Aside0.mk hx
      have HK := Aside0.mk hK
      clear hx hK HA hb
      cases b with
      | true =>
        have HE := Aside0.mk HD
        clear HD
        go_wp2_with (go_at_fn g1; refine hcall.mono ?_; rintro e w' ⟨rfl, hb'⟩)
        go_ret
        exact ⟨congrArg (fun z => Ending.returned (.int .i64 z)) (show (kk : Int) = r by simpa using HE.out), below_then BW.out BW.out.size hb'⟩
      | false =>
        have HE := Aside0.mk HD
        clear HD
        go_wp2_with (go_at_fn g1; refine hcall.mono ?_; rintro e w' ⟨rfl, hb'⟩)
        go_roundg (l0.length - (kk + 1))
        case measure => omega
        case rel => exact ⟨kk + 1, by omega, by omega, by go_num, ⟨below_then BW.out BW.out.size hb'⟩, ⟨by have := HE.out; simpa using this⟩⟩
    · have hltz : ¬ (kk : Int) < (l0.length : Int) := by omega
      have HE : Aside0 (r = -1) := ⟨by have := HA.out; rw [List.drop_of_length_le (by omega)] at this; exact (Option.some.inj this).symm⟩
      clear HA
      go_wp2
      go_ret
      exact ⟨congrArg (fun z => Ending.returned (.int .i64 z)) HE.out.symm, BW.out⟩

/-! ### slices_DeleteFunc_string: function 18 -/
open Go.Proofs.YtolhlackfphdcaaDoor.Gen Go.Proofs.YtolhlackfphdcaaDoor.Fil in
def slices_DeleteFunc_string.f (l0 : List ByteArray) (p1 : ByteArray → Option Bool) : Option (List ByteArray) := filtO p1 l0
open Go.Proofs.YtolhlackfphdcaaDoor.Gen Go.Proofs.YtolhlackfphdcaaDoor.Fil in
set_option maxHeartbeats 4000000 in
theorem slices_DeleteFunc_string.calls (g1 : Nat) (lb1 : Array Value) (p1 : ByteArray → Option Bool) (I : World → Prop) (base gb cap : Nat) (ok : Nat → Prop) (l0 r : List ByteArray) (w : World) (hp1 : FnI Tryd.prog g1 lb1 Kd.string vOne p1 I) (hI : I w)
    (hIb : ∀ W W', I W → Below W.heap.size W W' → I W') (hIs : ∀ W i v, I W → I (W.setCell ⟨gb, i, none⟩ v)) (hR : Kd.R Kd.string 9 w base ok (.slice (some ⟨gb, 0, none⟩) l0.length cap) l0) (h : slices_DeleteFunc_string.f l0 p1 = some r) :
    Calls Tryd.prog 18 #[.slice (some ⟨gb, 0, none⟩) l0.length cap, .func (.func g1) #[] lb1] w fun e w' => e = .returned (.slice (some ⟨gb, 0, none⟩) r.length cap) ∧ Kd.R Kd.string 9 w' base ok (.slice (some ⟨gb, 0, none⟩) r.length cap) r ∧ I w' ∧ KeepBut w w' gb none ∧ Below base w w' := by
  obtain ⟨_, hcap0, hC0⟩ := Kd.R_reads' hR
  have hm : l0.length ≤ 9223372036854775807 := hC0.2.1
  have hbase : base ≤ gb := by
    obtain ⟨inner, ho⟩ := Kd.R_own hR
    exact own_base ho gb (by simp [Value.ownBlock])
  have hlt0 : gb < w.heap.size := by
    obtain ⟨inner, ho⟩ := Kd.R_own hR
    exact own_lt ho gb (by simp [Value.ownBlock])
  have eg := hp1.enters
  obtain ⟨q, hq, hqr⟩ := filtO_idx h 0
  have hIF := slices_IndexFunc_string.calls (some ⟨gb, 0, none⟩) cap l0 g1 lb1 p1 q w (hp1.at fun W hW => hIb _ _ hI hW) hC0 hcap0 hq
  have HP := Aside0.mk hp1
  have HR := Aside0.mk hR
  have HI := Aside0.mk hI
  have HIB := Aside0.mk hIb
  have HIS := Aside0.mk hIs
  have HC0 := Aside0.mk hC0
  have HBA := Aside0.mk hbase
  have HL0 := Aside0.mk hlt0
  rcases hqr with ⟨rfl, hr⟩ | ⟨k0, rest0, hk0, rfl, hf0, hr⟩
  · obtain rfl := hr
    clear hp1 hR hI hIb hIs h hq hC0 hbase hlt0
    go_enter Tryd.func18, Tryd.ntmps18
    go_wp2_with (go_at_call 23; refine hIF.mono ?_; rintro e w' ⟨rfl, hb'⟩)
    go_ret
    exact ⟨rfl, Kd.R_below HR.out hb', HIB.out _ _ HI.out hb', KeepBut.of_below hb' _ _, hb'.mono (by have := HL0.out; have := HBA.out; omega)⟩
  · have HF0 := Aside0.mk hf0
    have HRR := Aside0.mk hr
    clear hr
    have e0 : ((0 + k0 : Nat) : Int) = (k0 : Int) := by omega
    rw [e0] at hIF
    have hne1 : ((k0 : Int) == -1) = false := beq_eq_false_iff_ne.2 (by omega)
    clear hp1 hR hI hIb hIs h hq hC0 hbase hlt0 hf0 e0
    go_enter Tryd.func18, Tryd.ntmps18
    go_wp2_with (go_at_call 23; refine hIF.mono ?_; rintro e w' ⟨rfl, hb'⟩)
    go_loopg [5, 6, 7] l0.length (fun gg s5 s6 _ wr => ∃ (i j : Nat) (cur rest : List ByteArray), s5 = .int .i64 i ∧ s6 = .int .i64 j ∧ i < j ∧ j ≤ l0.length ∧ l0.length - j ≤ gg ∧ Aside0 (cur.length = l0.length ∧ cur.drop j = l0.drop j ∧ filtO p1 (l0.drop j) = some rest ∧ cur.take i ++ rest = l0.take k0 ++ rest0) ∧ Aside0 (Kd.R Kd.string 9 wr base ok (.slice (some ⟨gb, 0, none⟩) l0.length cap) cur) ∧ Aside0 (I wr) ∧ Aside0 (KeepBut w wr gb none) ∧ Aside0 (Below base w wr))
    case atStart => exact ⟨k0, k0 + 1, l0, rest0, rfl, by go_num, by omega, by omega, by omega, ⟨rfl, rfl, HF0.out, rfl⟩, ⟨Kd.R_below HR.out hb'⟩, ⟨HIB.out _ _ HI.out hb'⟩, ⟨KeepBut.of_below hb' _ _⟩, ⟨hb'.mono (by have := HL0.out; have := HBA.out; omega)⟩⟩
    case round =>
      obtain ⟨i, j, cur, rest, rfl, rfl, hij, hjn, hgg, HS, HRw, HIw, HKw, HBw⟩ := hrel
      clear hb'
      by_cases hlt : j < l0.length
      · have hltz : (j : Int) < (l0.length : Int) := by omega
        have hlen := HS.out.1
        have hx : l0[j]? = some l0[j] := List.getElem?_eq_getElem hlt
        have hxc : cur[j]? = some l0[j] := by
          have e : (cur.drop j)[0]? = (l0.drop j)[0]? := by rw [HS.out.2.1]
          rw [List.getElem?_drop, List.getElem?_drop, Nat.add_zero] at e
          rw [e, hx]
        have HD := HS.out.2.2.1
        rw [List.drop_eq_getElem_cons hlt] at HD
        generalize hxx : l0[j] = x at hx hxc HD
        obtain ⟨b, hb, HD⟩ := Option.bind_eq_some_iff.mp HD
        obtain ⟨t, ht, HD⟩ := Option.bind_eq_some_iff.mp HD
        have HD := Option.some.inj HD
        have hRc : Kd.R Kd.string 9 wr base ok (.slice (some ⟨gb, 0, none⟩) cur.length cap) cur := by rw [hlen]; exact HRw.out
        have cj : wr.cell? ⟨gb, j, none⟩ = some (Value.string x) := by
          have := (Kd.R_cell x hRc (j : Int) (by omega) (by omega)).1
          rw [Int.toNat_natCast, show rdOf x cur (j : Int) = x from by unfold rdOf; rw [Int.toNat_natCast, List.getD_eq_getElem?_getD, hxc]; rfl] at this
          exact this
        have hcall := HP.out.run wr x _ b HIw.out (show Kd.K Kd.string wr x [Value.string x] from rfl) hb
        have HX := Aside0.mk (And.intro hx (And.intro hxc (And.intro ht HD)))
        clear hx hxc ht HD hRc hb hxx hlen
        cases b with
        | true =>
          go_wp2_with (go_at_fn g1; refine hcall.mono ?_; rintro e w2 ⟨rfl, hb2⟩)
          go_roundg (l0.length - (j + 1))
          case measure => omega
          case rel =>
            refine ⟨i, j + 1, cur, t, rfl, by go_num, by omega, by omega, by omega, ⟨HS.out.1, ?_, HX.out.2.2.1, ?_⟩, ⟨Kd.R_below HRw.out hb2⟩, ⟨HIB.out _ _ HIw.out hb2⟩, ⟨HKw.out.trans (KeepBut.of_below hb2 _ _) (.inl rfl)⟩, ⟨HBw.out.trans (hb2.mono (by have := HBw.out.size; have := HL0.out; have := HBA.out; omega))⟩⟩
            · have e1 := HS.out.2.1
              have e2 := congrArg (List.drop 1) e1
              rwa [List.drop_drop, List.drop_drop] at e2
            · have e1 := HS.out.2.2.2
              have e2 : t = rest := HX.out.2.2.2
              rw [e2]; exact e1
        | false =>
          have hRi : ∃ old, wr.cell? ⟨gb, i, none⟩ = some (Value.string old) ∧ wr.frozen? ⟨gb, i, none⟩ = false := by
            have hRc : Kd.R Kd.string 9 wr base ok (.slice (some ⟨gb, 0, none⟩) cur.length cap) cur := by rw [HS.out.1]; exact HRw.out
            have := Kd.R_cell x hRc (i : Int) (by omega) (by have := HS.out.1; omega)
            rw [Int.toNat_natCast] at this
            exact ⟨_, this⟩
          obtain ⟨old, ci, fi⟩ := hRi
          have hci : ∀ w2, Below wr.heap.size wr w2 → w2.cell? ⟨gb, i, none⟩ = some (Value.string old) ∧ w2.frozen? ⟨gb, i, none⟩ = false := fun w2 hb2 => ⟨pw_cell_below hb2 ci, by rw [hb2.frozen (p := ⟨gb, i, none⟩) (by have := HKw.out.1; have := HL0.out; show gb < _; omega)]; exact fi⟩
          have HCI := Aside0.mk hci
          clear hci ci fi
          go_wp2_with (go_at_fn g1; refine hcall.mono ?_; rintro e w2 ⟨rfl, hb2⟩; obtain ⟨c2, f2⟩ := HCI.out w2 hb2)
          have hput := Kd.R_putg (Kd.R_below HRw.out hb2) (i : Int) x
          rw [Int.toNat_natCast] at hput
          go_roundg (l0.length - (j + 1))
          case measure => omega
          case rel =>
            refine ⟨i + 1, j + 1, cur.set i x, t, by go_num, by go_num, by omega, by omega, by omega, ⟨by rw [List.length_set]; exact HS.out.1, ?_, HX.out.2.2.1, ?_⟩, ⟨hput.1⟩, ⟨HIS.out _ _ _ (HIB.out _ _ HIw.out hb2)⟩, ⟨(HKw.out.trans (KeepBut.of_below hb2 _ _) (.inl rfl)).set_ _ _⟩, ⟨(HBw.out.trans (hb2.mono (by have := HBw.out.size; have := HL0.out; have := HBA.out; omega))).setCell (p := ⟨gb, i, none⟩) HBA.out _⟩⟩
            · have e1 := HS.out.2.1
              rw [List.drop_set_of_lt (by omega)]
              have e2 := congrArg (List.drop 1) e1
              rwa [List.drop_drop, List.drop_drop] at e2
            · have e1 := HS.out.2.2.2
              have e2 : x :: t = rest := HX.out.2.2.2
              rw [← e1, ← e2, List.take_succ_eq_append_getElem (by rw [List.length_set, HS.out.1]; omega), List.getElem_set_self, List.take_set_of_le (by omega)]
              simp
      · obtain rfl : j = l0.length := by omega
        have hltz : ¬ (l0.length : Int) < (l0.length : Int) := by omega
        obtain ⟨hRz, hgz⟩ := R_clear HRw.out i (l0.length - i) (by have := HS.out.1; omega) (⟨#[]⟩ : ByteArray)
        have hRc : Kd.R Kd.string 9 wr base ok (.slice (some ⟨gb, 0, none⟩) cur.length cap) cur := by rw [HS.out.1]; exact HRw.out
        have hcells : ∀ t, t < l0.length - i → wr.cell? ⟨gb, i + t, none⟩ = some (Value.string (rdOf (⟨#[]⟩ : ByteArray) cur ((i + t : Nat) : Int))) ∧ wr.frozen? ⟨gb, i + t, none⟩ = false := fun t ht => by
          have := Kd.R_cell (⟨#[]⟩ : ByteArray) hRc ((i + t : Nat) : Int) (by omega) (by have := HS.out.1; omega)
          rw [Int.toNat_natCast] at this
          exact this
        have hcl : ∀ ty, (Builtin.clear_ #[22] ty #[.slice (some ⟨gb, i, none⟩) (l0.length - i) (cap - i)]).run Tryd.prog wr = .ok (.tuple #[]) (wr.setCells gb i (List.replicate (l0.length - i) (Value.string (⟨#[]⟩ : ByteArray)))) :=
          fun ty => Lib.run_clear_slice wr _ 9 ty (Value.string (⟨#[]⟩ : ByteArray)) Tryd.underlying22 (fun _ => by kernel_rfl) rfl rfl gb i _ _ (by omega) (fun t ht => by rw [(hcells t ht).1]; rfl) (fun t ht => (hcells t ht).2)
        have HZ := Aside0.mk hRz
        have HG := Aside0.mk hgz
        clear hRz hgz hcells hRc
        go_wp2
        go_ret
        have e1 := HS.out.2.2.2
        have e2 := HS.out.2.2.1
        rw [List.drop_length] at e2
        have e3 : rest = [] := (Option.some.inj e2).symm
        rw [e3, List.append_nil] at e1
        have e5 : r = cur.take i := HRR.out.trans e1.symm
        have e4 : r.length = i := by rw [e5, List.length_take, HS.out.1]; omega
        rw [e4, e5]
        exact ⟨rfl, HZ.out, I_cells HIS.out _ _ _ HIw.out, keep_grown HKw.out HG.out, HBw.out.grown HG.out (by have := HBw.out.size; have := HL0.out; have := HBA.out; omega) (fun k hk => by cases hk; exact HBA.out)⟩

/-! ### impl_labelsOf: function 14 -/
def impl_labelsOf.pr (other : ByteArray) (t : ByteArray) : Option Bool := if t = other then some true else (impl_isLabel.f t).map (!·)
def impl_labelsOf.srt (l : List ByteArray) : List ByteArray := ((l.map (fun x : ByteArray => x.data.toList)).mergeSort (fun x y => decide (x ≤ y))).map (fun x => ⟨x.toArray⟩)
def impl_labelsOf.cmp (l : List ByteArray) : List ByteArray := (Lib.compact (l.map (fun x : ByteArray => x.data.toList))).map (fun x => ⟨x.toArray⟩)
def impl_labelsOf.f (l : List ByteArray) (other : ByteArray) : Option (List ByteArray) := (Go.Proofs.YtolhlackfphdcaaDoor.Fil.filtO (impl_labelsOf.pr other) l).bind fun own => some (impl_labelsOf.cmp (impl_labelsOf.srt own))
set_option maxHeartbeats 2000000 in
open Go.Proofs.YtolhlackfphdcaaDoor.Gen Go.Proofs.YtolhlackfphdcaaDoor.Fil in
theorem impl_labelsOf.pred (wB : World) (htB : Go.Proofs.YtolhlackfphdcaaDoor.Tbl.Tb wB) (other : ByteArray) (b : Nat) :
    FnI Tryd.prog 19 #[.pointer (some ⟨b, 0, none⟩)] Kd.string vOne (impl_labelsOf.pr other) (fun W => Below wB.heap.size wB W ∧ W.cell? ⟨b, 0, none⟩ = some (.string other)) := by
  refine ⟨fun _ _ => by kernel_rfl, fun W x cs r hI hK hx => ?_⟩
  obtain rfl : cs = [.string x] := hK
  obtain ⟨hBW, hc⟩ := hI
  show Calls Tryd.prog 19 #[.string x, .pointer (some ⟨b, 0, none⟩)] W _
  unfold impl_labelsOf.pr at hx
  by_cases e : x = other
  · subst e
    rw [if_pos rfl] at hx
    obtain rfl := Option.some.inj hx
    clear hx
    go_enter Tryd.func19, Tryd.ntmps19
    go_wp2
    go_ret
    exact ⟨rfl, Below.refl _ _⟩
  · rw [if_neg e] at hx
    obtain ⟨q, hq, rfl⟩ := Option.map_eq_some_iff.1 hx
    have hcall := impl_isLabel.calls x q W (htB.later hBW) hq
    have hne : (x.toList == other.toList) = false := by
      rw [beq_eq_false_iff_ne, ByteArray.toList_eq, ByteArray.toList_eq]
      intro h
      exact e (by cases x; cases other; simp only [ByteArray.mk.injEq]; exact Array.toList_inj.1 h)
    clear hx e hq
    go_enter Tryd.func19, Tryd.ntmps19
    go_wp2_with (go_at_call 20; refine hcall.mono ?_; rintro e w' ⟨rfl, hb'⟩)
    go_ret
    exact ⟨rfl, hb'⟩
section
open Go.Sort
theorem impl_labelsOf.back (l : List (List UInt8)) : (l.map (fun x => (⟨x.toArray⟩ : ByteArray))).map Value.string = l.map encStr := by
  rw [List.map_map]
  apply List.map_congr_left
  intro x _
  simp [encStr]
theorem impl_labelsOf.holds {w : World} {base gb cap : Nat} {ok : Nat → Prop} {l : List ByteArray} (h : Kd.R Kd.string 9 w base ok (.slice (some ⟨gb, 0, none⟩) l.length cap) l) :
    w.ownsRow base 9 1 (.slice (some ⟨gb, 0, none⟩) (l.map (fun x : ByteArray => x.data.toList)).length cap) (l.map (fun x : ByteArray => x.data.toList)).length ((l.map (fun x : ByteArray => x.data.toList)).map encStr) ∧ base ≤ gb ∧ gb < w.heap.size ∧ l.length ≤ cap ∧ l.length ≤ maxLen ∧ Holds encStr w gb 0 (l.map (fun x : ByteArray => x.data.toList)).toArray := by
  have ho := Kd.own_of_R h
  unfold encs at ho
  rw [← Lib.map_encStr] at ho
  have ho2 : w.ownsRow base 9 1 (.slice (some ⟨gb, 0, none⟩) (l.map (fun x : ByteArray => x.data.toList)).length cap) (l.map (fun x : ByteArray => x.data.toList)).length ((l.map (fun x : ByteArray => x.data.toList)).map encStr) := by rw [List.length_map]; exact ho
  obtain ⟨g, cap', e, h1, h2, h3, h4, h5, h6⟩ := Lib.holds_of_ownsRow ho2 (by intro e; cases e)
  injection e with e1 _ e3
  injection e1 with e1
  injection e1 with e1
  subst e1; subst e3
  rw [List.length_map] at h3
  exact ⟨ho2, h1, h2, h3, by omega, h6⟩
theorem impl_labelsOf.put {w : World} {base gb cap q : Nat} {ok : Nat → Prop} {l : List ByteArray} (h : Kd.R Kd.string 9 w base ok (.slice (some ⟨gb, 0, none⟩) l.length cap) l) (ys : List (List UInt8)) (k : Nat) (os : Array Obj) (hy : ys.length = l.length) (hk : k ≤ l.length) :
    Kd.R Kd.string 9 (grow (putRow encStr (Sort.ahead w q) gb 0 ys.toArray) os) base ok (.slice (some ⟨gb, 0, none⟩) k cap) ((ys.take k).map (fun x => (⟨x.toArray⟩ : ByteArray))) := by
  obtain ⟨ho, h1, h2, h3, h4, h5⟩ := impl_labelsOf.holds h
  have hp := Lib.ownsRow_putRow (q := q) (k := k) ho (ys := ys) (by rw [List.length_map]; exact hy) (by rw [List.length_map]; exact hk)
  have hp2 := Lib.ownsRow_grow hp 0 os
  refine Kd.R_of_own ?_ h.1
  unfold encs
  rw [impl_labelsOf.back]
  have e : ((ys.take k).map (fun x => (⟨x.toArray⟩ : ByteArray))).length = k := by rw [List.length_map, List.length_take]; omega
  rw [e]
  exact hp2
theorem impl_labelsOf.low {w0 w : World} {B gb q : Nat} {d : Array (List UInt8)} (os : Array Obj) (h : Below B w0 w) (hg : B ≤ gb) (hw : B ≤ w.heap.size) : Below B w0 (grow (putRow encStr (Sort.ahead w q) gb 0 d) os) := by
  have h1 := Lib.below_putRow (q := q) (d := d) (enc := encStr) h hg
  exact ⟨h1.os, h1.tape, h1.output, by have := h1.size; show _ ≤ ((putRow encStr (Sort.ahead w q) gb 0 d).heap ++ os).size; rw [Array.size_append]; omega, fun k hk => by
    have e1 := h1.block k hk
    show ((putRow encStr (Sort.ahead w q) gb 0 d).heap ++ os)[k]? = _
    rw [Array.getElem?_append_left (by have := h1.size; simp only [putRow, mapBlock, Array.size_modify, Sort.ahead]; omega)]
    exact e1⟩
theorem impl_labelsOf.sort (base gb cap : Nat) (ok : Nat → Prop) (l : List ByteArray) (w0 w : World) (hB : Below base w0 w) (hbw : base ≤ w.heap.size) (hn : l.length < 4611686018427387904) (hR : Kd.R Kd.string 9 w base ok (.slice (some ⟨gb, 0, none⟩) l.length cap) l) :
    Calls Tryd.prog 21 #[.slice (some ⟨gb, 0, none⟩) l.length cap] w fun e w' => e = .returned (.tuple #[]) ∧ Kd.R Kd.string 9 w' base ok (.slice (some ⟨gb, 0, none⟩) (impl_labelsOf.srt l).length cap) (impl_labelsOf.srt l) ∧ (impl_labelsOf.srt l).length = l.length ∧ Below base w0 w' := by
  obtain ⟨ho, h1, h2, h3, h4, h5⟩ := impl_labelsOf.holds hR
  have hc := Tryd.slices_Sort_string gb 0 cap (l.map (fun x : ByteArray => x.data.toList)) w h5 h2 (by rw [List.length_map]; exact hn)
  rw [List.length_map] at hc
  refine hc.mono ?_
  rintro e w' ⟨he, n, os, rfl⟩
  have hl : ((l.map (fun x : ByteArray => x.data.toList)).mergeSort fun x y => decide (x ≤ y)).length = l.length := by rw [List.length_mergeSort, List.length_map]
  have hp := impl_labelsOf.put (q := n) hR _ l.length os hl (Nat.le_refl _)
  rw [List.take_of_length_le (by omega)] at hp
  have hl2 : (impl_labelsOf.srt l).length = l.length := by unfold impl_labelsOf.srt; rw [List.length_map, hl]
  refine ⟨he, ?_, hl2, impl_labelsOf.low os hB h1 hbw⟩
  rw [hl2]
  exact hp
theorem impl_labelsOf.compact (base gb cap : Nat) (ok : Nat → Prop) (l : List ByteArray) (w0 w : World) (hB : Below base w0 w) (hbw : base ≤ w.heap.size) (hR : Kd.R Kd.string 9 w base ok (.slice (some ⟨gb, 0, none⟩) l.length cap) l) :
    Calls Tryd.prog 22 #[.slice (some ⟨gb, 0, none⟩) l.length cap] w fun e w' => e = .returned (.slice (some ⟨gb, 0, none⟩) (impl_labelsOf.cmp l).length cap) ∧ Kd.R Kd.string 9 w' base ok (.slice (some ⟨gb, 0, none⟩) (impl_labelsOf.cmp l).length cap) (impl_labelsOf.cmp l) ∧ Below base w0 w' := by
  obtain ⟨ho, h1, h2, h3, h4, h5⟩ := impl_labelsOf.holds hR
  have hc := Tryd.slices_Compact_string gb 0 cap (l.map (fun x : ByteArray => x.data.toList)) w h5 (by rw [List.length_map]; unfold maxLen at h4; omega) (by rw [List.length_map]; exact h3)
  rw [List.length_map] at hc
  refine hc.mono ?_
  rintro e w' ⟨he, q, rfl⟩
  have hle : (Lib.compact (l.map (fun x : ByteArray => x.data.toList))).length ≤ l.length := by
    have hm : ∀ (d : Array (List UInt8)) (m : Nat), (Lib.compactUpTo d m).length ≤ m := by
      intro d m
      induction m with
      | zero => exact Nat.le_refl _
      | succ m ih => rw [Lib.compactUpTo_succ, List.length_append]; split <;> simp <;> omega
    have := hm (l.map (fun x : ByteArray => x.data.toList)).toArray (l.map (fun x : ByteArray => x.data.toList)).length
    unfold Lib.compact
    rw [List.length_map] at this ⊢
    exact this
  have hl2 : (impl_labelsOf.cmp l).length = (Lib.compact (l.map (fun x : ByteArray => x.data.toList))).length := by unfold impl_labelsOf.cmp; rw [List.length_map]
  have hp := impl_labelsOf.put (q := q) hR (Lib.compact (l.map (fun x : ByteArray => x.data.toList)) ++ List.replicate (l.length - (Lib.compact (l.map (fun x : ByteArray => x.data.toList))).length) []) (Lib.compact (l.map (fun x : ByteArray => x.data.toList))).length #[] (by rw [List.length_append, List.length_replicate]; omega) hle
  have hlow := impl_labelsOf.low (q := q) (d := (Lib.compact (l.map (fun x : ByteArray => x.data.toList)) ++ List.replicate (l.length - (Lib.compact (l.map (fun x : ByteArray => x.data.toList))).length) []).toArray) #[] hB h1 hbw
  rw [List.take_left' rfl] at hp
  have eg : ∀ W : World, grow W #[] = W := fun W => by unfold grow; rw [Array.append_empty]
  rw [eg] at hp hlow
  rw [hl2]
  exact ⟨he, hp, hlow⟩
end
set_option maxHeartbeats 2000000 in
open Go.Proofs.YtolhlackfphdcaaDoor.Gen Go.Proofs.YtolhlackfphdcaaDoor.Fil in
theorem impl_labelsOf.own (wB w : World) (htB : Go.Proofs.YtolhlackfphdcaaDoor.Tbl.Tb wB) (hB : Below wB.heap.size wB w) (gb cap : Nat) (l r : List ByteArray) (other : ByteArray) (hn : l.length < 4611686018427387904)
    (hR : Kd.R Kd.string 9 w wB.heap.size (fun _ => True) (.slice (some ⟨gb, 0, none⟩) l.length cap) l) (h : impl_labelsOf.f l other = some r) :
    Calls Tryd.prog 14 #[.slice (some ⟨gb, 0, none⟩) l.length cap, .string other] w fun e w' => ∃ v, e = .returned v ∧ Kd.R Kd.string 9 w' wB.heap.size (fun _ => True) v r ∧ Below wB.heap.size wB w' := by
  obtain ⟨own, ho, hr⟩ := Option.bind_eq_some_iff.1 h
  obtain rfl := Option.some.inj hr
  have hlt0 : gb < w.heap.size := (impl_labelsOf.holds hR).2.2.1
  have hbase : wB.heap.size ≤ gb := (impl_labelsOf.holds hR).2.1
  have hle : own.length ≤ l.length := by
    have : ∀ (l r : List ByteArray), filtO (impl_labelsOf.pr other) l = some r → r.length ≤ l.length := by
      intro l
      induction l with
      | nil => intro r h; cases h; exact Nat.le_refl _
      | cons x l ih =>
        intro r h
        obtain ⟨b, hb, h⟩ := Option.bind_eq_some_iff.1 h
        obtain ⟨t, ht, h⟩ := Option.bind_eq_some_iff.1 h
        have := ih t ht
        obtain rfl := Option.some.inj h
        split <;> simp only [List.length_cons] <;> omega
    exact this _ _ ho
  have hdel := slices_DeleteFunc_string.calls 19 #[.pointer (some ⟨w.heap.size, 0, none⟩)] (impl_labelsOf.pr other) (fun W => Below wB.heap.size wB W ∧ W.cell? ⟨w.heap.size, 0, none⟩ = some (.string other)) wB.heap.size gb cap (fun _ => True) l own (w.alloc (.cells #[.string other] 9))
    (impl_labelsOf.pred wB htB other w.heap.size) ⟨below_alloc hB _, by simp⟩ (fun W W' hI hb => ⟨below_then hI.1 hI.1.size hb, pw_cell_below hb hI.2⟩)
    (fun W i v hI => ⟨hI.1.setCell (p := ⟨gb, i, none⟩) hbase _, by rw [World.cell?_setCell_other _ _ _ _ (by intro e; simp only [Addr.mk.injEq] at e; omega)]; exact hI.2⟩) (Kd.R_below hR (below_alloc (Below.refl _ _) _)) ho
  have HD := Aside0.mk hdel
  have HB := Aside0.mk hB
  have HS := Aside0.mk hB.size
  have HL := Aside0.mk (Nat.lt_of_le_of_lt hle hn)
  clear hdel hR h ho hB htB hlt0 hbase hle hr hn
  go_enter Tryd.func14, Tryd.ntmps14
  go_wp2_with (first
    | (go_at_call 18; refine HD.out.mono ?_; rintro e w1 ⟨rfl, hR1, hI1, hK1, hb1⟩; have HR1 := Aside0.mk hR1; have HB1 := Aside0.mk hI1.1; clear hR1 hI1 hK1 hb1)
    | (go_at_call 21; refine (impl_labelsOf.sort wB.heap.size gb cap (fun _ => True) own wB _ HB1.out HB1.out.size HL.out HR1.out).mono ?_; rintro e w2 ⟨rfl, hR2, hl2, hb2⟩; have HR2 := Aside0.mk hR2; have HB2 := Aside0.mk hb2; have HL2 := Aside0.mk hl2; clear hR2 hb2 hl2)
    | (go_at_call 22; have hcc := impl_labelsOf.compact wB.heap.size gb cap (fun _ => True) (impl_labelsOf.srt own) wB _ HB2.out HB2.out.size HR2.out; rw [HL2.out] at hcc; refine hcc.mono ?_; rintro e w3 ⟨rfl, hR3, hb3⟩; clear hcc))
  go_ret
  exact ⟨_, rfl, hR3, hb3⟩

/-! ### impl_SwappedLabels: function 6 -/
def impl_SwappedLabels.nums (t : ByteArray) (i : Nat) : List Int := ((bytesOf t).set i (bt t ((i : Int) + 1))).set (i + 1) (bt t (i : Int))
def impl_SwappedLabels.sw (t : ByteArray) (i : Nat) : ByteArray := strOfNums (impl_SwappedLabels.nums t i)
def impl_SwappedLabels.f (t : ByteArray) : Option (List ByteArray × Int) := if t.size = 9 then (impl_labelsOf.f ((List.range 8).map (impl_SwappedLabels.sw t)) t).bind fun r => some (r, 0) else some ([], 5)
theorem impl_SwappedLabels.info : (Tryd.prog.info? 9).map (fun i => (i.zero, i.size, i.bytes)) = some (some (.string ⟨#[]⟩), 1, 16) := by kernel_rfl
theorem impl_SwappedLabels.byte (t : ByteArray) (j : Nat) (hj : j < t.size) : (bytesOf t).getD j 0 = bt t (j : Int) := by
  unfold bt bytesOf
  rw [Int.toNat_natCast, dif_pos hj, List.getD_eq_getElem?_getD, List.getElem?_map, List.getElem?_eq_getElem (by simpa using hj)]
  rfl
theorem impl_SwappedLabels.cellB (t : ByteArray) (w : World) (j : Nat) (hj : j < t.size) : (Lib.bytesWorld w 5 t).cell? ⟨w.heap.size, j, none⟩ = some (.int .u8 (bt t (j : Int))) := by
  rw [Lib.bytesWorld_cell _ _ _ j hj]
  have e : ((t.data.toList.getD j 0).toNat : Int) = bt t (j : Int) := by
    unfold bt
    rw [Int.toNat_natCast, dif_pos hj, List.getD_eq_getElem?_getD, List.getElem?_eq_getElem (by simpa using hj)]
    rfl
  exact congrArg (fun z => some (Value.int .u8 z)) e
theorem impl_SwappedLabels.free (t : ByteArray) (w : World) (j : Nat) (hj : j < t.size) : (Lib.bytesWorld w 5 t).frozen? ⟨w.heap.size, j, none⟩ = false := by
  have h := Lib.bytesWorld_at_new w 5 t
  have hc := impl_SwappedLabels.cellB t w j hj
  unfold World.cell? at hc
  rw [h] at hc
  have hl : j < (Lib.bytesCells w 5 t).size := by
    rcases Nat.lt_or_ge j (Lib.bytesCells w 5 t).size with h' | h'
    · exact h'
    · simp [Array.getElem?_eq_none h'] at hc
  unfold World.frozen?
  rw [h]
  simp
  omega
set_option maxHeartbeats 8000000 in
set_option maxRecDepth 100000 in
theorem impl_SwappedLabels.calls (a0 : ByteArray) (r1 : List ByteArray) (r2 : Int) (w : World) (ht_ : Go.Proofs.YtolhlackfphdcaaDoor.Tbl.Tb w) (h : impl_SwappedLabels.f a0 = some (r1, r2)) :
    Calls Tryd.prog 6 #[.string a0] w fun e w' => ∃ v0_ : Value, e = .returned (.tuple #[v0_, .int .i64 r2]) ∧ Kd.R Kd.string 9 w' w.heap.size (fun _ => True) v0_ r1 ∧ Below w.heap.size w w' := by
  unfold impl_SwappedLabels.f at h
  by_cases hs : a0.size = 9
  · rw [if_pos hs] at h
    obtain ⟨r, hr, h⟩ := Option.bind_eq_some_iff.1 h
    cases h
    have HT := Aside0.mk ht_
    have HR := Aside0.mk hr
    have hsb : ((a0.size : Int) != 9) = false := by rw [hs]; rfl
    have HSZ := Aside0.mk hs
    clear ht_ hr hs
    go_enter Tryd.func6, Tryd.ntmps6
    go_wp2
    go_loopg [4, 5, 6, 10] 8 (fun gg s4 _ _ s10 wr => ∃ kk : Nat, kk ≤ 8 ∧ 8 - kk ≤ gg ∧ s10 = .int .i64 kk ∧ Aside0 (Kd.R Kd.string 9 wr w.heap.size (fun _ => True) s4 ((List.range kk).map (impl_SwappedLabels.sw a0))) ∧ Aside0 (Below w.heap.size w wr))
    case atStart => exact ⟨0, by omega, by omega, rfl, ⟨Kd.R_nil _ _ _ _ _⟩, ⟨Below.refl _ _⟩⟩
    case round =>
      obtain ⟨kk, hk, hg, rfl, HRw, HBw⟩ := hrel
      clear hsb
      by_cases hlt : kk < 8
      · have hltz : (kk : Int) < 8 := by omega
        have hC : (convert 9 29 (.string a0)).run Tryd.prog wr = .ok (.slice (some ⟨wr.heap.size, 0, none⟩) 9 (grownCap wr 9 0 5)) (Lib.bytesWorld wr 5 a0) := by
          have := Lib.run_convert_string_bytes (P := Tryd.prog) wr 9 29 5 a0 Tryd.underlying9 Tryd.underlying29 Tryd.underlying5
          rwa [HSZ.out] at this
        have hcell : ∀ j : Nat, j < 9 → (Lib.bytesWorld wr 5 a0).cell? ⟨wr.heap.size, j, none⟩ = some (.int .u8 (bt a0 (j : Int))) := fun j hj => impl_SwappedLabels.cellB a0 wr j (by have := HSZ.out; omega)
        have c0 := hcell kk (by omega)
        have c1 := hcell (kk + 1) (by omega)
        have f0 := impl_SwappedLabels.free a0 wr kk (by have := HSZ.out; omega)
        have f1 := impl_SwappedLabels.free a0 wr (kk + 1) (by have := HSZ.out; omega)
        have hbl := Lib.bytesWorld_below wr 5 a0
        have hsz := Lib.bytesWorld_size wr 5 a0
        have HC := Aside0.mk hcell
        have HBL := Aside0.mk hbl
        have HSI := Aside0.mk hsz
        clear hcell hbl hsz
        go_upto_region 8 with fail
        clear hC
        generalize Lib.bytesWorld wr 5 a0 = wb at *
        have p1 : IntKind.i64.wrap ((kk : Int) + 1) = (kk : Int) + 1 := by rw [IntKind.wrap_i64]; omega
        have p2 : 0 ≤ (kk : Int) + 1 := by omega
        have p3 : ((kk : Int) + 1).toNat = kk + 1 := by omega
        have p4 : (kk : Int) + 1 < 9 := by omega
        have p5 : (kk : Int) < 9 := by omega
        go_cut [30] (fun _ wx => Aside0 (∀ j : Nat, j < 9 → wx.cell? ⟨wr.heap.size, j, none⟩ = some (.int .u8 ((impl_SwappedLabels.nums a0 kk).getD j 0))) ∧ Aside0 (Below wr.heap.size wr wx))
        case first =>
          go_region
          all_goals (go_wp2_with fail; go_meet)
          all_goals
            refine ⟨⟨fun j hj => ?_⟩, ⟨((HBL.out.drew).setCell (p := ⟨wr.heap.size, kk, none⟩) (Nat.le_refl _) _).setCell (p := ⟨wr.heap.size, kk + 1, none⟩) (Nat.le_refl _) _⟩⟩
            rw [World.cell?_drew]
            have hlen : (bytesOf a0).length = 9 := by rw [bytesOf_length]; exact HSZ.out
            have hb := impl_SwappedLabels.byte a0 j (by have := HSZ.out; omega)
            have k1 : (wb.setCell ⟨wr.heap.size, kk, none⟩ (Value.int .u8 (bt a0 ((kk : Int) + 1)))).cell? ⟨wr.heap.size, kk + 1, none⟩ = some (.int .u8 (bt a0 ((kk + 1 : Nat) : Int))) := by
              rw [World.cell?_setCell_other _ _ _ _ (by intro e; simp only [Addr.mk.injEq] at e; omega)]; exact c1
            unfold impl_SwappedLabels.nums
            rw [List.getD_eq_getElem?_getD]
            by_cases e1 : j = kk + 1
            · subst e1
              rw [World.cell?_setCell_same _ _ _ k1, List.getElem?_set_self (by rw [List.length_set]; omega)]
              rfl
            · rw [World.cell?_setCell_other _ _ _ _ (by intro e; simp only [Addr.mk.injEq] at e; omega), List.getElem?_set_ne (by omega)]
              by_cases e2 : j = kk
              · subst e2
                rw [World.cell?_setCell_same _ _ _ c0, List.getElem?_set_self (by omega)]
                rfl
              · rw [World.cell?_setCell_other _ _ _ _ (by intro e; simp only [Addr.mk.injEq] at e; omega), List.getElem?_set_ne (by omega), ← List.getD_eq_getElem?_getD, hb]
                exact HC.out j hj
        case rest =>
          obtain ⟨HX, HBx⟩ := hcut
          have hlen9 : (impl_SwappedLabels.nums a0 kk).length = 9 := by unfold impl_SwappedLabels.nums; rw [List.length_set, List.length_set, bytesOf_length]; exact HSZ.out
          have hS := fun (cp : Nat) => run_convert_bytes_arg (P := Tryd.prog) wc 29 5 Tryd.underlying29 Tryd.underlying5 wr.heap.size 0 9 cp (impl_SwappedLabels.nums a0 kk) hlen9 (fun i hi => by rw [Nat.zero_add]; exact HX.out i hi) 9 Tryd.underlying9
          have hSw : strOfNums (impl_SwappedLabels.nums a0 kk) = impl_SwappedLabels.sw a0 kk := rfl
          rw [hSw] at hS
          have HB2 := Aside0.mk (below_step HBw.out HBx.out)
          have HR2 := Aside0.mk (Kd.R_below HRw.out HBx.out)
          clear hlen9 hSw c0 c1 f0 f1 p1 p2 p3 p4 p5
          go_wp2_with (at_builtin; refine Kd.R_append Kd.string (w0 := w) w.heap.size rfl (.tmp 31) (.tmp 34) 22 9 (.string ⟨#[]⟩) 16 rfl Tryd.underlying22 impl_SwappedLabels.info rfl (by decide) (by omega) _ ((List.range kk).map (impl_SwappedLabels.sw a0)) (impl_SwappedLabels.sw a0 kk) [.string (impl_SwappedLabels.sw a0 kk)] (fun _ => True) (fun _ => False) rfl rfl rfl (fun _ hk => hk.elim) (fun _ _ => trivial) HR2.out HB2.out HB2.out.size (by rw [List.length_map, List.length_range]; omega) ?_; intro v1 w1 hR1 hb1 hg1 hat1)
          go_roundg (8 - (kk + 1))
          case measure => omega
          case rel => exact ⟨kk + 1, by omega, by omega, by go_num, ⟨by rw [List.range_succ, List.map_append]; exact hR1⟩, ⟨hb1⟩⟩
      · have hltz : ¬ (kk : Int) < 8 := by omega
        obtain rfl : kk = 8 := by omega
        obtain ⟨gb, cap, hv, hge, hgl, _⟩ := Kd.R_form HRw.out (by simp)
        subst hv
        have hlen8 : ((List.range 8).map (impl_SwappedLabels.sw a0)).length = 8 := by rw [List.length_map, List.length_range]
        have HO := Aside0.mk (impl_labelsOf.own w wr HT.out HBw.out gb cap ((List.range 8).map (impl_SwappedLabels.sw a0)) r1 a0 (by rw [hlen8]; omega) HRw.out HR.out)
        rw [hlen8] at HO
        rw [hlen8]
        clear hlen8 hge hgl
        go_wp2_with (go_at_call 14; refine HO.out.mono ?_; rintro e w1 ⟨v, rfl, hR1, hb1⟩)
        go_ret2
        exact ⟨_, rfl, hR1, hb1⟩
  · rw [if_neg hs] at h
    cases h
    have hsb : ((a0.size : Int) != 9) = true := by simp only [bne_iff_ne]; omega
    clear hs ht_
    go_enter Tryd.func6, Tryd.ntmps6
    go_wp2
    go_ret2
    exact ⟨_, rfl, Kd.R_nil _ _ _ _ _, Below.refl _ _⟩

end Go.Proofs.YtolhlackfphdcaaDoor.PNea
