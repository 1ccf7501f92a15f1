-- made by a program of this session (wip/pext.py) out of the translation; the parts by hand are wip/ext's
import Derived.Test.YthmciempoodhpaaDoorPRdlx0
import Derived.Test.YthmciempoodhpaaDoorPRdlx1
namespace Go.Proofs.YthmciempoodhpaaDoor.PRdl
open Go.RowKit Go.Proofs.YthmciempoodhpaaDoorW.PrintWords Go.Proofs.YthmciempoodhpaaDoorW.PrintLast Go.Proofs.YthmciempoodhpaaDoorW.PrintMore
attribute [local go_sem] max2_int min2_int max_two min_two max_three min_three max_four min_four   -- for this text's walks alone
set_option linter.unusedVariables false
set_option linter.unusedSimpArgs false

/-! ### spec_ReadLabel: function 7 -/
def spec_ReadLabel.f (k : Nat) (a0 : ByteArray) : Option (Int × ByteArray × Int × Int) := (spec_l07Is.f k a0).bind fun t104 => (if t104 = true then (if 0 < (a0.size : Int) then ((spec_l07Value.f k (bt a0 0)).bind fun t105 => (if 1 < (a0.size : Int) then ((spec_l07Value.f k (bt a0 1)).bind fun t106 => (if 2 < (a0.size : Int) then ((spec_l07Value.f k (bt a0 2)).bind fun t107 => (if 3 ≤ 6 then (if 6 ≤ (a0.size : Int) then (if 6 < (a0.size : Int) then ((spec_l07Value.f k (bt a0 6)).bind fun t108 => (if 7 < (a0.size : Int) then ((spec_l07Value.f k (bt a0 7)).bind fun t109 => (some (wrap64 ((wrap64 ((wrap64 (100 * t105)) + (wrap64 (10 * t106)))) + t107), a0.extract 3 6, wrap64 ((wrap64 (10 * t108)) + t109), 0))) else (none))) else (none)) else (none)) else (none))) else (none))) else (none))) else (none)) else (some (0, (⟨#[]⟩ : ByteArray), 0, 5)))
theorem spec_ReadLabel.mono : ∀ a0 k, LeO (spec_ReadLabel.f k a0) (spec_ReadLabel.f (k + 1) a0) := by
  intro a0 k
  unfold spec_ReadLabel.f
  repeat' first
      | (with_reducible exact spec_l07Is.mono _ _)
      | (with_reducible exact spec_l07Value.mono _ _)
      | (with_reducible exact LeO.refl _)
      | (with_reducible exact LeO.none _)
      | (with_reducible refine LeO.ite ?_ ?_)
      | (with_reducible refine LeO.bind ?_ (fun _ => ?_))
      | exact spec_l07Is.mono _ _
      | exact spec_l07Value.mono _ _
      | exact LeO.none _
      | refine LeO.ite ?_ ?_
      | refine LeO.bind ?_ (fun _ => ?_)
set_option maxHeartbeats 8000000 in
set_option maxRecDepth 100000 in
theorem spec_ReadLabel.calls (k : Nat) (a0 : ByteArray) (r1 : Int) (r2 : ByteArray) (r3 : Int) (r4 : Int) (w : World) (ht_ : Go.Proofs.YthmciempoodhpaaDoor.Tbl.Tb w) (h : spec_ReadLabel.f k a0 = some (r1, r2, r3, r4)) :
    Calls Tryd.prog 7 #[.string a0] w fun e w' => e = .returned (.tuple #[.int .i64 r1, .string r2, .int .i64 r3, .int .i64 r4]) ∧ Below w.heap.size w w' := by
  have HTB_ := Aside0.mk ht_
  clear ht_
  have HB := Aside0.mk (Below.refl w.heap.size w)
  have H : ((spec_l07Is.f k a0).bind fun t104 => (if t104 = true then (if 0 < (a0.size : Int) then ((spec_l07Value.f k (bt a0 0)).bind fun t105 => (if 1 < (a0.size : Int) then ((spec_l07Value.f k (bt a0 1)).bind fun t106 => (if 2 < (a0.size : Int) then ((spec_l07Value.f k (bt a0 2)).bind fun t107 => (if 3 ≤ 6 then (if 6 ≤ (a0.size : Int) then (if 6 < (a0.size : Int) then ((spec_l07Value.f k (bt a0 6)).bind fun t108 => (if 7 < (a0.size : Int) then ((spec_l07Value.f k (bt a0 7)).bind fun t109 => (some (wrap64 ((wrap64 ((wrap64 (100 * t105)) + (wrap64 (10 * t106)))) + t107), a0.extract 3 6, wrap64 ((wrap64 (10 * t108)) + t109), 0))) else (none))) else (none)) else (none)) else (none))) else (none))) else (none))) else (none)) else (some (0, (⟨#[]⟩ : ByteArray), 0, 5)))) = some (r1, r2, r3, r4) := h
  clear h
  replace H := Option.bind_eq_some_iff.mp H
  obtain ⟨t104, A20, H⟩ := H
  replace H : (if t104 = true then (if 0 < (a0.size : Int) then ((spec_l07Value.f k (bt a0 0)).bind fun t105 => (if 1 < (a0.size : Int) then ((spec_l07Value.f k (bt a0 1)).bind fun t106 => (if 2 < (a0.size : Int) then ((spec_l07Value.f k (bt a0 2)).bind fun t107 => (if 3 ≤ 6 then (if 6 ≤ (a0.size : Int) then (if 6 < (a0.size : Int) then ((spec_l07Value.f k (bt a0 6)).bind fun t108 => (if 7 < (a0.size : Int) then ((spec_l07Value.f k (bt a0 7)).bind fun t109 => (some (wrap64 ((wrap64 ((wrap64 (100 * t105)) + (wrap64 (10 * t106)))) + t107), a0.extract 3 6, wrap64 ((wrap64 (10 * t108)) + t109), 0))) else (none))) else (none)) else (none)) else (none))) else (none))) else (none))) else (none)) else (some (0, (⟨#[]⟩ : ByteArray), 0, 5))) = some (r1, r2, r3, r4) := H
  have A2 := Aside0.mk A20
  clear A20
  by_cases c3 : t104 = true
  · subst c3
    have H1 : (if 0 < (a0.size : Int) then ((spec_l07Value.f k (bt a0 0)).bind fun t105 => (if 1 < (a0.size : Int) then ((spec_l07Value.f k (bt a0 1)).bind fun t106 => (if 2 < (a0.size : Int) then ((spec_l07Value.f k (bt a0 2)).bind fun t107 => (if 3 ≤ 6 then (if 6 ≤ (a0.size : Int) then (if 6 < (a0.size : Int) then ((spec_l07Value.f k (bt a0 6)).bind fun t108 => (if 7 < (a0.size : Int) then ((spec_l07Value.f k (bt a0 7)).bind fun t109 => (some (wrap64 ((wrap64 ((wrap64 (100 * t105)) + (wrap64 (10 * t106)))) + t107), a0.extract 3 6, wrap64 ((wrap64 (10 * t108)) + t109), 0))) else (none))) else (none)) else (none)) else (none))) else (none))) else (none))) else (none)) = some (r1, r2, r3, r4) := by rw [if_pos rfl] at H; exact H
    clear H
    have H := H1
    clear H1
    by_cases c4 : 0 < (a0.size : Int)
    · rw [if_pos c4] at H
      have c4b0 : decide (0 < (a0.size : Int)) = true := decide_eq_true c4
      have c4b1 : decide (0 < a0.size) = true := decide_eq_true (by omega)
      clear c4
      replace H := Option.bind_eq_some_iff.mp H
      obtain ⟨t105, A60, H⟩ := H
      replace H : (if 1 < (a0.size : Int) then ((spec_l07Value.f k (bt a0 1)).bind fun t106 => (if 2 < (a0.size : Int) then ((spec_l07Value.f k (bt a0 2)).bind fun t107 => (if 3 ≤ 6 then (if 6 ≤ (a0.size : Int) then (if 6 < (a0.size : Int) then ((spec_l07Value.f k (bt a0 6)).bind fun t108 => (if 7 < (a0.size : Int) then ((spec_l07Value.f k (bt a0 7)).bind fun t109 => (some (wrap64 ((wrap64 ((wrap64 (100 * t105)) + (wrap64 (10 * t106)))) + t107), a0.extract 3 6, wrap64 ((wrap64 (10 * t108)) + t109), 0))) else (none))) else (none)) else (none)) else (none))) else (none))) else (none)) = some (r1, r2, r3, r4) := H
      have A6 := Aside0.mk A60
      clear A60
      by_cases c7 : 1 < (a0.size : Int)
      · rw [if_pos c7] at H
        have c7b0 : decide (1 < (a0.size : Int)) = true := decide_eq_true c7
        have c7b1 : decide (1 < a0.size) = true := decide_eq_true (by omega)
        clear c7
        replace H := Option.bind_eq_some_iff.mp H
        obtain ⟨t106, A90, H⟩ := H
        replace H : (if 2 < (a0.size : Int) then ((spec_l07Value.f k (bt a0 2)).bind fun t107 => (if 3 ≤ 6 then (if 6 ≤ (a0.size : Int) then (if 6 < (a0.size : Int) then ((spec_l07Value.f k (bt a0 6)).bind fun t108 => (if 7 < (a0.size : Int) then ((spec_l07Value.f k (bt a0 7)).bind fun t109 => (some (wrap64 ((wrap64 ((wrap64 (100 * t105)) + (wrap64 (10 * t106)))) + t107), a0.extract 3 6, wrap64 ((wrap64 (10 * t108)) + t109), 0))) else (none))) else (none)) else (none)) else (none))) else (none)) = some (r1, r2, r3, r4) := H
        have A9 := Aside0.mk A90
        clear A90
        by_cases c10 : 2 < (a0.size : Int)
        · rw [if_pos c10] at H
          have c10b0 : decide (2 < (a0.size : Int)) = true := decide_eq_true c10
          have c10b1 : decide (2 < a0.size) = true := decide_eq_true (by omega)
          clear c10
          replace H := Option.bind_eq_some_iff.mp H
          obtain ⟨t107, A120, H⟩ := H
          replace H : (if 3 ≤ 6 then (if 6 ≤ (a0.size : Int) then (if 6 < (a0.size : Int) then ((spec_l07Value.f k (bt a0 6)).bind fun t108 => (if 7 < (a0.size : Int) then ((spec_l07Value.f k (bt a0 7)).bind fun t109 => (some (wrap64 ((wrap64 ((wrap64 (100 * t105)) + (wrap64 (10 * t106)))) + t107), a0.extract 3 6, wrap64 ((wrap64 (10 * t108)) + t109), 0))) else (none))) else (none)) else (none)) else (none)) = some (r1, r2, r3, r4) := H
          have A12 := Aside0.mk A120
          clear A120
          by_cases c13 : 3 ≤ 6
          · rw [if_pos c13] at H
            have c13b0 := eq_true c13
            have c13b1 : decide (3 ≤ 6) = true := decide_eq_true c13
            clear c13
            by_cases c14 : 6 ≤ (a0.size : Int)
            · rw [if_pos c14] at H
              have c14b0 := eq_true c14
              have c14b1 : decide (6 ≤ (a0.size : Int)) = true := decide_eq_true c14
              clear c14
              by_cases c15 : 6 < (a0.size : Int)
              · rw [if_pos c15] at H
                have c15b0 : decide (6 < (a0.size : Int)) = true := decide_eq_true c15
                have c15b1 : decide (6 < a0.size) = true := decide_eq_true (by omega)
                clear c15
                replace H := Option.bind_eq_some_iff.mp H
                obtain ⟨t108, A170, H⟩ := H
                replace H : (if 7 < (a0.size : Int) then ((spec_l07Value.f k (bt a0 7)).bind fun t109 => (some (wrap64 ((wrap64 ((wrap64 (100 * t105)) + (wrap64 (10 * t106)))) + t107), a0.extract 3 6, wrap64 ((wrap64 (10 * t108)) + t109), 0))) else (none)) = some (r1, r2, r3, r4) := H
                have A17 := Aside0.mk A170
                clear A170
                by_cases c18 : 7 < (a0.size : Int)
                · rw [if_pos c18] at H
                  have c18b0 : decide (7 < (a0.size : Int)) = true := decide_eq_true c18
                  have c18b1 : decide (7 < a0.size) = true := decide_eq_true (by omega)
                  clear c18
                  replace H := Option.bind_eq_some_iff.mp H
                  obtain ⟨t109, A200, H⟩ := H
                  replace H : (some (wrap64 ((wrap64 ((wrap64 (100 * t105)) + (wrap64 (10 * t106)))) + t107), a0.extract 3 6, wrap64 ((wrap64 (10 * t108)) + t109), 0)) = some (r1, r2, r3, r4) := H
                  have A20 := Aside0.mk A200
                  clear A200
                  simp only [Option.some.injEq, Prod.mk.injEq] at H
                  obtain ⟨rfl, rfl, rfl, rfl⟩ := H
                  go_enter Tryd.func7, Tryd.ntmps7
                  go_wp2_with (first | (go_at_call 9; (with_reducible refine (spec_l07Is.calls k a0 true _ ?side1 A2.out).mono ?_); (case side1 => exact HTB_.out.later (by repeat (first | (with_reducible first | exact HB.out | apply below_alloc | apply pw_below_drewN | apply below_drew1) | exact HB.out))); rintro e w21 ⟨rfl, hb⟩; have n0_ := Aside0.mk (below_step (by repeat (first | (with_reducible first | exact HB.out | apply below_alloc | apply pw_below_drewN | apply below_drew1) | exact HB.out)) hb); clear HB; have HB := n0_; clear n0_; (try clear hb); (try clear hb2); (try clear hk); (try clear hi); have p5 : 0 ≤ (0 : Int) := (by omega); have q5 : 0 < a0.size := (by have : (0 : Int) < (a0.size : Int) := of_decide_eq_true (by first | (with_reducible assumption) | assumption); omega); have hx5 : ∀ h : 0 < a0.size, ((a0[0]'h).toNat : Int) = bt a0 0 := bt_at a0 0; clear p5; have qi5 : (0 < (a0.size : Int)) = True := eq_true (of_decide_eq_true (by first | (with_reducible assumption) | assumption)); replace q5 := eq_true q5) | (go_at_call 11; (with_reducible refine (spec_l07Value.calls k (bt a0 0) t105 _ A6.out).mono ?_); rintro e w' ⟨rfl, ⟨nd, rfl⟩⟩; (try first | exact ⟨rfl, _, World.drewN_drewN _ _ _⟩ | exact ⟨rfl, _, Eq.trans (World.drewN_drewN _ _ _) (congrArg (World.drewN _) (Nat.add_assoc _ _ _))⟩); have p8 : 0 ≤ (1 : Int) := (by omega); have q8 : 1 < a0.size := (by have : (1 : Int) < (a0.size : Int) := of_decide_eq_true (by first | (with_reducible assumption) | assumption); omega); have hx8 : ∀ h : 1 < a0.size, ((a0[1]'h).toNat : Int) = bt a0 1 := bt_at a0 1; clear p8; have qi8 : (1 < (a0.size : Int)) = True := eq_true (of_decide_eq_true (by first | (with_reducible assumption) | assumption)); replace q8 := eq_true q8) | (go_at_call 11; (with_reducible refine (spec_l07Value.calls k (bt a0 1) t106 _ A9.out).mono ?_); rintro e w' ⟨rfl, ⟨nd, rfl⟩⟩; (try first | exact ⟨rfl, _, World.drewN_drewN _ _ _⟩ | exact ⟨rfl, _, Eq.trans (World.drewN_drewN _ _ _) (congrArg (World.drewN _) (Nat.add_assoc _ _ _))⟩); have p11 : 0 ≤ (2 : Int) := (by omega); have q11 : 2 < a0.size := (by have : (2 : Int) < (a0.size : Int) := of_decide_eq_true (by first | (with_reducible assumption) | assumption); omega); have hx11 : ∀ h : 2 < a0.size, ((a0[2]'h).toNat : Int) = bt a0 2 := bt_at a0 2; clear p11; have qi11 : (2 < (a0.size : Int)) = True := eq_true (of_decide_eq_true (by first | (with_reducible assumption) | assumption)); replace q11 := eq_true q11) | (go_at_call 11; (with_reducible refine (spec_l07Value.calls k (bt a0 2) t107 _ A12.out).mono ?_); rintro e w' ⟨rfl, ⟨nd, rfl⟩⟩; (try first | exact ⟨rfl, _, World.drewN_drewN _ _ _⟩ | exact ⟨rfl, _, Eq.trans (World.drewN_drewN _ _ _) (congrArg (World.drewN _) (Nat.add_assoc _ _ _))⟩); have p16 : 0 ≤ (6 : Int) := (by omega); have q16 : 6 < a0.size := (by have : (6 : Int) < (a0.size : Int) := of_decide_eq_true (by first | (with_reducible assumption) | assumption); omega); have hx16 : ∀ h : 6 < a0.size, ((a0[6]'h).toNat : Int) = bt a0 6 := bt_at a0 6; clear p16; have qi16 : (6 < (a0.size : Int)) = True := eq_true (of_decide_eq_true (by first | (with_reducible assumption) | assumption)); replace q16 := eq_true q16) | (go_at_call 11; (with_reducible refine (spec_l07Value.calls k (bt a0 6) t108 _ A17.out).mono ?_); rintro e w' ⟨rfl, ⟨nd, rfl⟩⟩; (try first | exact ⟨rfl, _, World.drewN_drewN _ _ _⟩ | exact ⟨rfl, _, Eq.trans (World.drewN_drewN _ _ _) (congrArg (World.drewN _) (Nat.add_assoc _ _ _))⟩); have p19 : 0 ≤ (7 : Int) := (by omega); have q19 : 7 < a0.size := (by have : (7 : Int) < (a0.size : Int) := of_decide_eq_true (by first | (with_reducible assumption) | assumption); omega); have hx19 : ∀ h : 7 < a0.size, ((a0[7]'h).toNat : Int) = bt a0 7 := bt_at a0 7; clear p19; have qi19 : (7 < (a0.size : Int)) = True := eq_true (of_decide_eq_true (by first | (with_reducible assumption) | assumption)); replace q19 := eq_true q19) | (go_at_call 11; (with_reducible refine (spec_l07Value.calls k (bt a0 7) t109 _ A20.out).mono ?_); rintro e w' ⟨rfl, ⟨nd, rfl⟩⟩; (try first | exact ⟨rfl, _, World.drewN_drewN _ _ _⟩ | exact ⟨rfl, _, Eq.trans (World.drewN_drewN _ _ _) (congrArg (World.drewN _) (Nat.add_assoc _ _ _))⟩)))
                  repeat (go_quiet (first | (go_at_call 9; (with_reducible refine (spec_l07Is.calls k a0 true _ ?side1 A2.out).mono ?_); (case side1 => exact HTB_.out.later (by repeat (first | (with_reducible first | exact HB.out | apply below_alloc | apply pw_below_drewN | apply below_drew1) | exact HB.out))); rintro e w21 ⟨rfl, hb⟩; have n0_ := Aside0.mk (below_step (by repeat (first | (with_reducible first | exact HB.out | apply below_alloc | apply pw_below_drewN | apply below_drew1) | exact HB.out)) hb); clear HB; have HB := n0_; clear n0_; (try clear hb); (try clear hb2); (try clear hk); (try clear hi); have p5 : 0 ≤ (0 : Int) := (by omega); have q5 : 0 < a0.size := (by have : (0 : Int) < (a0.size : Int) := of_decide_eq_true (by first | (with_reducible assumption) | assumption); omega); have hx5 : ∀ h : 0 < a0.size, ((a0[0]'h).toNat : Int) = bt a0 0 := bt_at a0 0; clear p5; have qi5 : (0 < (a0.size : Int)) = True := eq_true (of_decide_eq_true (by first | (with_reducible assumption) | assumption)); replace q5 := eq_true q5) | (go_at_call 11; (with_reducible refine (spec_l07Value.calls k (bt a0 0) t105 _ A6.out).mono ?_); rintro e w' ⟨rfl, ⟨nd, rfl⟩⟩; (try first | exact ⟨rfl, _, World.drewN_drewN _ _ _⟩ | exact ⟨rfl, _, Eq.trans (World.drewN_drewN _ _ _) (congrArg (World.drewN _) (Nat.add_assoc _ _ _))⟩); have p8 : 0 ≤ (1 : Int) := (by omega); have q8 : 1 < a0.size := (by have : (1 : Int) < (a0.size : Int) := of_decide_eq_true (by first | (with_reducible assumption) | assumption); omega); have hx8 : ∀ h : 1 < a0.size, ((a0[1]'h).toNat : Int) = bt a0 1 := bt_at a0 1; clear p8; have qi8 : (1 < (a0.size : Int)) = True := eq_true (of_decide_eq_true (by first | (with_reducible assumption) | assumption)); replace q8 := eq_true q8) | (go_at_call 11; (with_reducible refine (spec_l07Value.calls k (bt a0 1) t106 _ A9.out).mono ?_); rintro e w' ⟨rfl, ⟨nd, rfl⟩⟩; (try first | exact ⟨rfl, _, World.drewN_drewN _ _ _⟩ | exact ⟨rfl, _, Eq.trans (World.drewN_drewN _ _ _) (congrArg (World.drewN _) (Nat.add_assoc _ _ _))⟩); have p11 : 0 ≤ (2 : Int) := (by omega); have q11 : 2 < a0.size := (by have : (2 : Int) < (a0.size : Int) := of_decide_eq_true (by first | (with_reducible assumption) | assumption); omega); have hx11 : ∀ h : 2 < a0.size, ((a0[2]'h).toNat : Int) = bt a0 2 := bt_at a0 2; clear p11; have qi11 : (2 < (a0.size : Int)) = True := eq_true (of_decide_eq_true (by first | (with_reducible assumption) | assumption)); replace q11 := eq_true q11) | (go_at_call 11; (with_reducible refine (spec_l07Value.calls k (bt a0 2) t107 _ A12.out).mono ?_); rintro e w' ⟨rfl, ⟨nd, rfl⟩⟩; (try first | exact ⟨rfl, _, World.drewN_drewN _ _ _⟩ | exact ⟨rfl, _, Eq.trans (World.drewN_drewN _ _ _) (congrArg (World.drewN _) (Nat.add_assoc _ _ _))⟩); have p16 : 0 ≤ (6 : Int) := (by omega); have q16 : 6 < a0.size := (by have : (6 : Int) < (a0.size : Int) := of_decide_eq_true (by first | (with_reducible assumption) | assumption); omega); have hx16 : ∀ h : 6 < a0.size, ((a0[6]'h).toNat : Int) = bt a0 6 := bt_at a0 6; clear p16; have qi16 : (6 < (a0.size : Int)) = True := eq_true (of_decide_eq_true (by first | (with_reducible assumption) | assumption)); replace q16 := eq_true q16) | (go_at_call 11; (with_reducible refine (spec_l07Value.calls k (bt a0 6) t108 _ A17.out).mono ?_); rintro e w' ⟨rfl, ⟨nd, rfl⟩⟩; (try first | exact ⟨rfl, _, World.drewN_drewN _ _ _⟩ | exact ⟨rfl, _, Eq.trans (World.drewN_drewN _ _ _) (congrArg (World.drewN _) (Nat.add_assoc _ _ _))⟩); have p19 : 0 ≤ (7 : Int) := (by omega); have q19 : 7 < a0.size := (by have : (7 : Int) < (a0.size : Int) := of_decide_eq_true (by first | (with_reducible assumption) | assumption); omega); have hx19 : ∀ h : 7 < a0.size, ((a0[7]'h).toNat : Int) = bt a0 7 := bt_at a0 7; clear p19; have qi19 : (7 < (a0.size : Int)) = True := eq_true (of_decide_eq_true (by first | (with_reducible assumption) | assumption)); replace q19 := eq_true q19) | (go_at_call 11; (with_reducible refine (spec_l07Value.calls k (bt a0 7) t109 _ A20.out).mono ?_); rintro e w' ⟨rfl, ⟨nd, rfl⟩⟩; (try first | exact ⟨rfl, _, World.drewN_drewN _ _ _⟩ | exact ⟨rfl, _, Eq.trans (World.drewN_drewN _ _ _) (congrArg (World.drewN _) (Nat.add_assoc _ _ _))⟩))); try go_wp2_with (first | (go_at_call 9; (with_reducible refine (spec_l07Is.calls k a0 true _ ?side1 A2.out).mono ?_); (case side1 => exact HTB_.out.later (by repeat (first | (with_reducible first | exact HB.out | apply below_alloc | apply pw_below_drewN | apply below_drew1) | exact HB.out))); rintro e w21 ⟨rfl, hb⟩; have n0_ := Aside0.mk (below_step (by repeat (first | (with_reducible first | exact HB.out | apply below_alloc | apply pw_below_drewN | apply below_drew1) | exact HB.out)) hb); clear HB; have HB := n0_; clear n0_; (try clear hb); (try clear hb2); (try clear hk); (try clear hi); have p5 : 0 ≤ (0 : Int) := (by omega); have q5 : 0 < a0.size := (by have : (0 : Int) < (a0.size : Int) := of_decide_eq_true (by first | (with_reducible assumption) | assumption); omega); have hx5 : ∀ h : 0 < a0.size, ((a0[0]'h).toNat : Int) = bt a0 0 := bt_at a0 0; clear p5; have qi5 : (0 < (a0.size : Int)) = True := eq_true (of_decide_eq_true (by first | (with_reducible assumption) | assumption)); replace q5 := eq_true q5) | (go_at_call 11; (with_reducible refine (spec_l07Value.calls k (bt a0 0) t105 _ A6.out).mono ?_); rintro e w' ⟨rfl, ⟨nd, rfl⟩⟩; (try first | exact ⟨rfl, _, World.drewN_drewN _ _ _⟩ | exact ⟨rfl, _, Eq.trans (World.drewN_drewN _ _ _) (congrArg (World.drewN _) (Nat.add_assoc _ _ _))⟩); have p8 : 0 ≤ (1 : Int) := (by omega); have q8 : 1 < a0.size := (by have : (1 : Int) < (a0.size : Int) := of_decide_eq_true (by first | (with_reducible assumption) | assumption); omega); have hx8 : ∀ h : 1 < a0.size, ((a0[1]'h).toNat : Int) = bt a0 1 := bt_at a0 1; clear p8; have qi8 : (1 < (a0.size : Int)) = True := eq_true (of_decide_eq_true (by first | (with_reducible assumption) | assumption)); replace q8 := eq_true q8) | (go_at_call 11; (with_reducible refine (spec_l07Value.calls k (bt a0 1) t106 _ A9.out).mono ?_); rintro e w' ⟨rfl, ⟨nd, rfl⟩⟩; (try first | exact ⟨rfl, _, World.drewN_drewN _ _ _⟩ | exact ⟨rfl, _, Eq.trans (World.drewN_drewN _ _ _) (congrArg (World.drewN _) (Nat.add_assoc _ _ _))⟩); have p11 : 0 ≤ (2 : Int) := (by omega); have q11 : 2 < a0.size := (by have : (2 : Int) < (a0.size : Int) := of_decide_eq_true (by first | (with_reducible assumption) | assumption); omega); have hx11 : ∀ h : 2 < a0.size, ((a0[2]'h).toNat : Int) = bt a0 2 := bt_at a0 2; clear p11; have qi11 : (2 < (a0.size : Int)) = True := eq_true (of_decide_eq_true (by first | (with_reducible assumption) | assumption)); replace q11 := eq_true q11) | (go_at_call 11; (with_reducible refine (spec_l07Value.calls k (bt a0 2) t107 _ A12.out).mono ?_); rintro e w' ⟨rfl, ⟨nd, rfl⟩⟩; (try first | exact ⟨rfl, _, World.drewN_drewN _ _ _⟩ | exact ⟨rfl, _, Eq.trans (World.drewN_drewN _ _ _) (congrArg (World.drewN _) (Nat.add_assoc _ _ _))⟩); have p16 : 0 ≤ (6 : Int) := (by omega); have q16 : 6 < a0.size := (by have : (6 : Int) < (a0.size : Int) := of_decide_eq_true (by first | (with_reducible assumption) | assumption); omega); have hx16 : ∀ h : 6 < a0.size, ((a0[6]'h).toNat : Int) = bt a0 6 := bt_at a0 6; clear p16; have qi16 : (6 < (a0.size : Int)) = True := eq_true (of_decide_eq_true (by first | (with_reducible assumption) | assumption)); replace q16 := eq_true q16) | (go_at_call 11; (with_reducible refine (spec_l07Value.calls k (bt a0 6) t108 _ A17.out).mono ?_); rintro e w' ⟨rfl, ⟨nd, rfl⟩⟩; (try first | exact ⟨rfl, _, World.drewN_drewN _ _ _⟩ | exact ⟨rfl, _, Eq.trans (World.drewN_drewN _ _ _) (congrArg (World.drewN _) (Nat.add_assoc _ _ _))⟩); have p19 : 0 ≤ (7 : Int) := (by omega); have q19 : 7 < a0.size := (by have : (7 : Int) < (a0.size : Int) := of_decide_eq_true (by first | (with_reducible assumption) | assumption); omega); have hx19 : ∀ h : 7 < a0.size, ((a0[7]'h).toNat : Int) = bt a0 7 := bt_at a0 7; clear p19; have qi19 : (7 < (a0.size : Int)) = True := eq_true (of_decide_eq_true (by first | (with_reducible assumption) | assumption)); replace q19 := eq_true q19) | (go_at_call 11; (with_reducible refine (spec_l07Value.calls k (bt a0 7) t109 _ A20.out).mono ?_); rintro e w' ⟨rfl, ⟨nd, rfl⟩⟩; (try first | exact ⟨rfl, _, World.drewN_drewN _ _ _⟩ | exact ⟨rfl, _, Eq.trans (World.drewN_drewN _ _ _) (congrArg (World.drewN _) (Nat.add_assoc _ _ _))⟩))))
                  refine bodyPost_ret (results_list (rs := [.tmp 2, .tmp 3, .tmp 4, .tmp 5]) rfl (by simp) (.tmp (.tmp (.tmp (.tmp .nil))))) rfl ?_
                  exact ⟨by first | rfl | (simp [errW_none, errW_some] <;> rfl) | (simp [*, errW_none, errW_some] <;> rfl) | (simp [IntKind.wrap_i64, wrap64]; done), by repeat (first | (with_reducible first | exact HB.out | apply below_alloc | apply pw_below_drewN | apply below_drew1) | exact HB.out)⟩
                · rw [if_neg c18] at H
                  exact absurd H (by simp)
              · rw [if_neg c15] at H
                exact absurd H (by simp)
            · rw [if_neg c14] at H
              exact absurd H (by simp)
          · rw [if_neg c13] at H
            exact absurd H (by simp)
        · rw [if_neg c10] at H
          exact absurd H (by simp)
      · rw [if_neg c7] at H
        exact absurd H (by simp)
    · rw [if_neg c4] at H
      exact absurd H (by simp)
  · replace c3 := Bool.eq_false_iff.mpr c3
    subst c3
    have H1 : (some (0, (⟨#[]⟩ : ByteArray), 0, 5)) = some (r1, r2, r3, r4) := by rw [if_neg (show ¬ (false = true) by decide)] at H; exact H
    clear H
    have H := H1
    clear H1
    simp only [Option.some.injEq, Prod.mk.injEq] at H
    obtain ⟨rfl, rfl, rfl, rfl⟩ := H
    go_enter Tryd.func7, Tryd.ntmps7
    go_wp2_with (first | (go_at_call 9; (with_reducible refine (spec_l07Is.calls k a0 false _ ?side1 A2.out).mono ?_); (case side1 => exact HTB_.out.later (by repeat (first | (with_reducible first | exact HB.out | apply below_alloc | apply pw_below_drewN | apply below_drew1) | exact HB.out))); rintro e w22 ⟨rfl, hb⟩; have n0_ := Aside0.mk (below_step (by repeat (first | (with_reducible first | exact HB.out | apply below_alloc | apply pw_below_drewN | apply below_drew1) | exact HB.out)) hb); clear HB; have HB := n0_; clear n0_; (try clear hb); (try clear hb2); (try clear hk); (try clear hi)))
    repeat (go_quiet (first | (go_at_call 9; (with_reducible refine (spec_l07Is.calls k a0 false _ ?side1 A2.out).mono ?_); (case side1 => exact HTB_.out.later (by repeat (first | (with_reducible first | exact HB.out | apply below_alloc | apply pw_below_drewN | apply below_drew1) | exact HB.out))); rintro e w22 ⟨rfl, hb⟩; have n0_ := Aside0.mk (below_step (by repeat (first | (with_reducible first | exact HB.out | apply below_alloc | apply pw_below_drewN | apply below_drew1) | exact HB.out)) hb); clear HB; have HB := n0_; clear n0_; (try clear hb); (try clear hb2); (try clear hk); (try clear hi))); try go_wp2_with (first | (go_at_call 9; (with_reducible refine (spec_l07Is.calls k a0 false _ ?side1 A2.out).mono ?_); (case side1 => exact HTB_.out.later (by repeat (first | (with_reducible first | exact HB.out | apply below_alloc | apply pw_below_drewN | apply below_drew1) | exact HB.out))); rintro e w22 ⟨rfl, hb⟩; have n0_ := Aside0.mk (below_step (by repeat (first | (with_reducible first | exact HB.out | apply below_alloc | apply pw_below_drewN | apply below_drew1) | exact HB.out)) hb); clear HB; have HB := n0_; clear n0_; (try clear hb); (try clear hb2); (try clear hk); (try clear hi))))
    refine bodyPost_ret (results_list (rs := [.tmp 2, .tmp 3, .tmp 4, .tmp 5]) rfl (by simp) (.tmp (.tmp (.tmp (.tmp .nil))))) rfl ?_
    exact ⟨by first | rfl | (simp [errW_none, errW_some] <;> rfl) | (simp [*, errW_none, errW_some] <;> rfl) | (simp [IntKind.wrap_i64, wrap64]; done), by repeat (first | (with_reducible first | exact HB.out | apply below_alloc | apply pw_below_drewN | apply below_drew1) | exact HB.out)⟩

/-! ### slices_IndexFunc_byte: function 29 -/
open Go.Proofs.YthmciempoodhpaaDoor.Gen in
def slices_IndexFunc_byte.f (l0 : List Int) (p1 : Int → Option Bool) : Option Int := idxO p1 l0 0
open Go.Proofs.YthmciempoodhpaaDoor.Gen in
set_option maxHeartbeats 4000000 in
theorem slices_IndexFunc_byte.calls (A0 : Option Addr) (c0 : Nat) (l0 : List Int) (g1 : Nat) (lb1 : Array Value) (p1 : Int → Option Bool) (r : Int) (w : World) (hp1 : FnB Tryd.prog g1 lb1 (Kd.int .u8) vOne p1 w) (hr0 : Kd.C (Kd.int .u8) w A0 l0.length l0) (hc0 : l0.length ≤ c0) (h : slices_IndexFunc_byte.f l0 p1 = some r) :
    Calls Tryd.prog 29 #[.slice A0 l0.length c0, .func (.func g1) #[] lb1] w fun e w' => e = .returned (.int .i64 r) ∧ Below w.heap.size w w' := by
  have hm : l0.length ≤ 9223372036854775807 := hr0.2.1
  have eg := hp1.enters
  have HP := Aside0.mk hp1
  have HR := Aside0.mk hr0
  have HF := Aside0.mk h
  clear hp1 hr0 h
  go_enter Tryd.func29, Tryd.ntmps29
  go_wp2
  go_loopg [5, 8] l0.length (fun gg _ s8 wr => ∃ kk : Nat, kk ≤ l0.length ∧ l0.length - kk ≤ gg ∧ s8 = .int .i64 kk ∧ Aside0 (Below w.heap.size w wr) ∧ Aside0 (idxO p1 (l0.drop kk) kk = some r))
  case atStart => exact ⟨0, Nat.zero_le _, by omega, rfl, ⟨Below.refl _ w⟩, ⟨HF.out⟩⟩
  case round =>
    obtain ⟨kk, hkk, hg, rfl, BW, HA⟩ := hrel
    by_cases hlt : kk < l0.length
    · have hltz : (kk : Int) < (l0.length : Int) := by omega
      have hx : l0[kk]? = some l0[kk] := List.getElem?_eq_getElem hlt
      have HD := HA.out
      rw [List.drop_eq_getElem_cons hlt] at HD
      generalize l0[kk] = x at hx HD
      obtain ⟨b, hb, HD⟩ := Option.bind_eq_some_iff.mp HD
      obtain ⟨ad, c0_, rfl, hK, hx0⟩ := cells1 (d := (Kd.int .u8)) rfl (Kd.C_below HR.out BW.out) kk x hx
      have hcall := HP.out.run _ x _ b BW.out hK hb
      have HX := Aside0.mk hx
      have HK := Aside0.mk hK
      clear hx hK HA hb
      cases b with
      | true =>
        have HE := Aside0.mk HD
        clear HD
        go_wp2_with (go_at_fn g1; refine hcall.mono ?_; rintro e w' ⟨rfl, hb'⟩)
        go_ret
        exact ⟨congrArg (fun z => Ending.returned (.int .i64 z)) (show (kk : Int) = r by simpa using HE.out), below_then BW.out BW.out.size hb'⟩
      | false =>
        have HE := Aside0.mk HD
        clear HD
        go_wp2_with (go_at_fn g1; refine hcall.mono ?_; rintro e w' ⟨rfl, hb'⟩)
        go_roundg (l0.length - (kk + 1))
        case measure => omega
        case rel => exact ⟨kk + 1, by omega, by omega, by go_num, ⟨below_then BW.out BW.out.size hb'⟩, ⟨by have := HE.out; simpa using this⟩⟩
    · have hltz : ¬ (kk : Int) < (l0.length : Int) := by omega
      have HE : Aside0 (r = -1) := ⟨by have := HA.out; rw [List.drop_of_length_le (by omega)] at this; exact (Option.some.inj this).symm⟩
      clear HA
      go_wp2
      go_ret
      exact ⟨congrArg (fun z => Ending.returned (.int .i64 z)) HE.out.symm, BW.out⟩

/-! ### slices_ContainsFunc_byte: function 20 -/
open Go.Proofs.YthmciempoodhpaaDoor.Gen in
def slices_ContainsFunc_byte.f (l0 : List Int) (p1 : Int → Option Bool) : Option Bool := anyO p1 l0
open Go.Proofs.YthmciempoodhpaaDoor.Gen in
set_option maxHeartbeats 4000000 in
theorem slices_ContainsFunc_byte.calls (A0 : Option Addr) (c0 : Nat) (l0 : List Int) (g1 : Nat) (lb1 : Array Value) (p1 : Int → Option Bool) (r : Bool) (w : World) (hp1 : FnB Tryd.prog g1 lb1 (Kd.int .u8) vOne p1 w) (hr0 : Kd.C (Kd.int .u8) w A0 l0.length l0) (hc0 : l0.length ≤ c0) (h : slices_ContainsFunc_byte.f l0 p1 = some r) :
    Calls Tryd.prog 20 #[.slice A0 l0.length c0, .func (.func g1) #[] lb1] w fun e w' => e = .returned (.bool r) ∧ Below w.heap.size w w' := by
  obtain ⟨i, hi, hd⟩ := idxO_any h 0 (by omega)
  have HP := Aside0.mk hp1
  have HR := Aside0.mk hr0
  have HI := Aside0.mk hi
  have HD := Aside0.mk hd
  clear hp1 hr0 h hi hd
  go_enter Tryd.func20, Tryd.ntmps20
  go_wp2_with (go_at_call 29; refine (slices_IndexFunc_byte.calls _ _ l0 g1 lb1 p1 i _ HP.out HR.out hc0 HI.out).mono ?_; rintro e w' ⟨rfl, hb'⟩)
  go_ret
  exact ⟨congrArg (fun z => Ending.returned (.bool z)) HD.out, hb'⟩

/-! ### impl_areAll_byte: function 15 -/
open Go.Proofs.YthmciempoodhpaaDoor.Gen in
def impl_areAll_byte.f (l0 : List Int) (p1 : Int → Option Bool) : Option Bool := allO p1 l0
open Go.Proofs.YthmciempoodhpaaDoor.Gen in
set_option maxHeartbeats 4000000 in
theorem impl_areAll_byte.inner (g1 : Nat) (lb1 : Array Value) (p1 : Int → Option Bool) (w : World) (b : Nat) (hcell : w.cell? ⟨b, 0, none⟩ = some (.func (.func g1) #[] lb1)) (hp1 : FnB Tryd.prog g1 lb1 (Kd.int .u8) vOne p1 w) :
    FnB Tryd.prog 21 #[.pointer (some ⟨b, 0, none⟩)] (Kd.int .u8) vOne (fun x => (p1 x).map (!·)) w := by
  have eg := hp1.enters
  refine ⟨fun _ _ => by kernel_rfl, fun W x cs r hW hK hx => ?_⟩
  obtain ⟨q, hq, rfl⟩ : ∃ q, p1 x = some q ∧ (!q) = r := by
    cases hq : p1 x with
    | none => rw [hq] at hx; cases hx
    | some q => rw [hq] at hx; exact ⟨q, rfl, by simpa using hx⟩
  have hcall := fun W' (hb' : Below W.heap.size W W') => hp1.run W' x cs q (below_then hW hW.size hb') (Kd.K_below _ hb' hK) hq
  have hc : W.cell? ⟨b, 0, none⟩ = some (.func (.func g1) #[] lb1) := pw_cell_below hW hcell
  obtain rfl : cs = [.int .u8 x] := hK
  have hc2 : ∀ o, (W.alloc o).cell? ⟨b, 0, none⟩ = some (.func (.func g1) #[] lb1) := fun o => pw_cell_below (below_alloc (Below.refl _ _) o) hc
  simp only [vAgg, vOne, List.append_toArray, List.cons_append, List.nil_append]
  clear hx
  try clear hK
  go_enter Tryd.func21, Tryd.ntmps21
  go_wp2_with (go_at_fn g1; refine (hcall _ (by repeat (first | exact Below.refl _ _ | apply below_alloc | apply below_drew1))).mono ?_; rintro e w' ⟨rfl, hb'⟩)
  go_ret
  exact ⟨rfl, by repeat (first | (refine below_step ?_ hb') | exact Below.refl _ _ | apply below_alloc | apply below_drew1)⟩
open Go.Proofs.YthmciempoodhpaaDoor.Gen in
set_option maxHeartbeats 4000000 in
theorem impl_areAll_byte.calls (A0 : Option Addr) (c0 : Nat) (l0 : List Int) (g1 : Nat) (lb1 : Array Value) (p1 : Int → Option Bool) (r : Bool) (w : World) (hp1 : FnB Tryd.prog g1 lb1 (Kd.int .u8) vOne p1 w) (hr0 : Kd.C (Kd.int .u8) w A0 l0.length l0) (hc0 : l0.length ≤ c0) (h : impl_areAll_byte.f l0 p1 = some r) :
    Calls Tryd.prog 15 #[.slice A0 l0.length c0, .func (.func g1) #[] lb1] w fun e w' => e = .returned (.bool r) ∧ Below w.heap.size w w' := by
  have HA := Aside0.mk (anyO_all h)
  have HP := Aside0.mk hp1
  have HR := Aside0.mk hr0
  clear hp1 hr0 h
  go_enter Tryd.func15, Tryd.ntmps15
  go_wp2_with (go_at_call 20; refine (slices_ContainsFunc_byte.calls _ _ l0 21 _ (fun x => (p1 x).map (!·)) (!r) _ (impl_areAll_byte.inner g1 lb1 p1 _ w.heap.size (by simp) (FnB.later HP.out (below_alloc (Below.refl _ _) _))) (Kd.C_below HR.out (below_alloc (Below.refl _ _) _)) hc0 HA.out).mono ?_; rintro e w' ⟨rfl, hb'⟩)
  go_ret
  exact ⟨rfl, below_step (below_alloc (Below.refl _ _) _) hb'⟩

/-! ### impl_isSmall: function 16 -/
def impl_isSmall.f (a0 : Int) : Option (Bool) := if a0 ≥ 97 then (some (decide (a0 ≤ 122))) else (some false)
set_option maxHeartbeats 8000000 in
set_option maxRecDepth 100000 in
theorem impl_isSmall.calls (a0 : Int) (r : Bool) (w : World) (h : impl_isSmall.f a0 = some r) :
    Calls Tryd.prog 16 #[.int .u8 a0] w fun e w' => e = .returned (.bool r) ∧ Drawn0 w w' := by
  have H : (if a0 ≥ 97 then (some (decide (a0 ≤ 122))) else (some false)) = some r := h
  clear h
  by_cases c2 : a0 ≥ 97
  · rw [if_pos c2] at H
    have c2b0 : decide (97 ≤ a0) = true := decide_eq_true c2
    clear c2
    obtain rfl := Option.some.inj H
    go_enter Tryd.func16, Tryd.ntmps16
    go_wp2
    go_ret
    exact ⟨by first | rfl | (simp; done) | (simp [*]; done), by repeat (first | exact Drawn0.refl _ | apply Drawn0.step)⟩
  · rw [if_neg c2] at H
    have c2b0 : decide (97 ≤ a0) = false := decide_eq_false c2
    clear c2
    obtain rfl := Option.some.inj H
    go_enter Tryd.func16, Tryd.ntmps16
    go_wp2
    go_ret
    exact ⟨by first | rfl | (simp; done) | (simp [*]; done), by repeat (first | exact Drawn0.refl _ | apply Drawn0.step)⟩

/-! ### impl_weights: function 30 -/
def impl_weights.f  : Option (List Int) := some (([1, 3, 7, 9, 1, 3, 7, 9] : List Int))
set_option maxHeartbeats 8000000 in
set_option maxRecDepth 100000 in
theorem impl_weights.calls  (r : List Int) (w : World) (ht_ : Go.Proofs.YthmciempoodhpaaDoor.Tbl.Tb w) (h : impl_weights.f  = some r) :
    Calls Tryd.prog 30 #[] w fun e w' => ∃ v0_ : Value, e = .returned (v0_) ∧ Kd.R (Kd.int .i64) 3 w' w.heap.size (fun _ => True) v0_ r ∧ Below w.heap.size w w' := by
  have HTB_ := Aside0.mk ht_
  clear ht_
  have HB := Aside0.mk (Below.refl w.heap.size w)
  have H : (some (([1, 3, 7, 9, 1, 3, 7, 9] : List Int))) = some r := h
  clear h
  obtain ⟨y110, hy110⟩ : ∃ y_ : List Int, y_ = (([1, 3, 7, 9, 1, 3, 7, 9] : List Int)) := ⟨_, rfl⟩
  replace H : (some y110) = some r := by first | (rw [hy110]; with_reducible exact H) | (have H2_ := (Option.bind_some _ _).symm.trans H; rw [hy110]; with_reducible exact H2_) | (have H2_ := (Option.bind_some _ _).symm.trans H; with_reducible exact H2_) | with_reducible exact H | (rw [hy110]; exact H) | exact H
  have Ny110 := Aside0.mk hy110
  clear hy110
  obtain rfl := Option.some.inj H
  go_enter Tryd.func30, Tryd.ntmps30
  go_wp2_with (first | ((with_reducible refine gate_dst (N := 1) rfl ?_); refine Kd.R_lit (Kd.int .i64) _ 3 ?hg (N := 1) ?hd (xs := ([1, 3, 7, 9, 1, 3, 7, 9] : List Int)) (inner := [.int .i64 1, .int .i64 3, .int .i64 7, .int .i64 9, .int .i64 1, .int .i64 3, .int .i64 7, .int .i64 9]) (ok := fun _ => True) (okp := fun _ => True) ?hr ?hp (fun _ hk => hk) trivial (Below.refl _ _) (Nat.le_refl _) (by simp) ?_; (case hd => rfl); (case hg => rfl); (case hr => first | (go_simp; done) | (go_simp; rfl)); (case hp => exact (Reps.one (show Kd.M (Kd.int .i64) _ _ _ 1 [.int .i64 1] from rfl) (Reps.one (show Kd.M (Kd.int .i64) _ _ _ 3 [.int .i64 3] from rfl) (Reps.one (show Kd.M (Kd.int .i64) _ _ _ 7 [.int .i64 7] from rfl) (Reps.one (show Kd.M (Kd.int .i64) _ _ _ 9 [.int .i64 9] from rfl) (Reps.one (show Kd.M (Kd.int .i64) _ _ _ 1 [.int .i64 1] from rfl) (Reps.one (show Kd.M (Kd.int .i64) _ _ _ 3 [.int .i64 3] from rfl) (Reps.one (show Kd.M (Kd.int .i64) _ _ _ 7 [.int .i64 7] from rfl) (Reps.one (show Kd.M (Kd.int .i64) _ _ _ 9 [.int .i64 9] from rfl) (Reps.none _ _)))))))))); intro v111 w1 ho2 hb hg_ hnew_; clear hg_ hnew_; (first | rw [← Ny110.out] at ho2 | (simp only [Int.reduceToNat] at ho2; rw [← Ny110.out] at ho2)); have n0_ := Aside0.mk (Kd.R_lower ho2 (below_size (by repeat (first | (with_reducible first | exact HB.out | apply below_alloc | apply pw_below_drewN | apply below_drew1) | exact HB.out)))); have n1_ := Aside0.mk (below_step (by repeat (first | (with_reducible first | exact HB.out | apply below_alloc | apply pw_below_drewN | apply below_drew1) | exact HB.out)) hb); clear HB; have HO112 := n0_; have HB := n1_; clear n0_ n1_; clear hb ho2))
  go_ret
  exact ⟨_, by first | rfl | (simp [errW_none, errW_some] <;> rfl) | (simp [*, errW_none, errW_some] <;> rfl) | (simp [IntKind.wrap_i64, wrap64]; done), by (with_reducible repeat (first | apply Kd.R_alloc | apply Kd.R_drewN | apply Kd.R_drew)); exact HO112.out, by repeat (first | (with_reducible first | exact HB.out | apply below_alloc | apply pw_below_drewN | apply below_drew1) | exact HB.out)⟩

/-! ### strings_IndexByte: function 39 -/
def strings_IndexByte.f (a0 : ByteArray) (a1 : Int) : Option Int := if 0 ≤ a1 then (if a1 ≤ 255 then some (Lib.indexByte a0.data.toList (UInt8.ofNat a1.toNat)) else none) else none
theorem strings_IndexByte.calls (a0 : ByteArray) (a1 : Int) (r : Int) (w : World) (h : strings_IndexByte.f a0 a1 = some r) :
    Calls Tryd.prog 39 #[.string a0, .int .u8 a1] w fun e w' => e = .returned (.int .i64 r) ∧ Drawn0 w w' := by
  unfold strings_IndexByte.f at h
  by_cases h0 : 0 ≤ a1
  · rw [if_pos h0] at h
    by_cases h1 : a1 ≤ 255
    · rw [if_pos h1] at h
      obtain rfl := Option.some.inj h
      refine (Tryd.strings_IndexByte a0 a1 w).mono ?_
      rintro e w' ⟨rfl, rfl⟩
      exact ⟨rfl, Drawn0.refl _⟩
    · rw [if_neg h1] at h; cases h
  · rw [if_neg h0] at h; cases h

/-! ### impl_valueOf: function 31 -/
def impl_valueOf.f (a0 : Int) : Option (Int) := (strings_IndexByte.f (⟨#[48, 49, 50, 51, 52, 53, 54, 55, 56, 57, 97, 98, 99, 100, 101, 102, 103, 104, 105, 106, 107, 108, 109, 110, 111, 112, 113, 114, 115, 116, 117, 118, 119, 120, 121, 122]⟩ : ByteArray) a0).bind fun t113 => (if t113 ≥ 10 then (some (wrap64 ((wrap64 (t113 - 10)) + 1))) else (some t113))
set_option maxHeartbeats 8000000 in
set_option maxRecDepth 100000 in
theorem impl_valueOf.calls (a0 : Int) (r : Int) (w : World) (h : impl_valueOf.f a0 = some r) :
    Calls Tryd.prog 31 #[.int .u8 a0] w fun e w' => e = .returned (.int .i64 r) ∧ Drawn0 w w' := by
  have H : ((strings_IndexByte.f (⟨#[48, 49, 50, 51, 52, 53, 54, 55, 56, 57, 97, 98, 99, 100, 101, 102, 103, 104, 105, 106, 107, 108, 109, 110, 111, 112, 113, 114, 115, 116, 117, 118, 119, 120, 121, 122]⟩ : ByteArray) a0).bind fun t113 => (if t113 ≥ 10 then (some (wrap64 ((wrap64 (t113 - 10)) + 1))) else (some t113))) = some r := h
  clear h
  replace H := Option.bind_eq_some_iff.mp H
  obtain ⟨t113, A20, H⟩ := H
  replace H : (if t113 ≥ 10 then (some (wrap64 ((wrap64 (t113 - 10)) + 1))) else (some t113)) = some r := H
  have A2 := Aside0.mk A20
  clear A20
  by_cases c3 : t113 ≥ 10
  · rw [if_pos c3] at H
    have c3b0 : decide (10 ≤ t113) = true := decide_eq_true c3
    clear c3
    obtain rfl := Option.some.inj H
    go_enter Tryd.func31, Tryd.ntmps31
    go_wp2_with (first | ((with_reducible refine gate_callee (f := 39) rfl ?_); refine goesL_ (some 5) rfl rfl Tryd.func39 (by kernel_rfl) rfl #[.string (⟨#[48, 49, 50, 51, 52, 53, 54, 55, 56, 57, 97, 98, 99, 100, 101, 102, 103, 104, 105, 106, 107, 108, 109, 110, 111, 112, 113, 114, 115, 116, 117, 118, 119, 120, 121, 122]⟩ : ByteArray), .int .u8 a0] rfl (by (try simp only [List.map_toArray, List.map_cons, List.map_nil]); first | done | rfl | (simp only [List.length_drop, List.length_take]; rfl)) ?_; (with_reducible refine (strings_IndexByte.calls (⟨#[48, 49, 50, 51, 52, 53, 54, 55, 56, 57, 97, 98, 99, 100, 101, 102, 103, 104, 105, 106, 107, 108, 109, 110, 111, 112, 113, 114, 115, 116, 117, 118, 119, 120, 121, 122]⟩ : ByteArray) a0 t113 _ A2.out).mono ?_); rintro e w' ⟨rfl, ⟨nd, rfl⟩⟩; refine ⟨_, rfl, ?_⟩))
    go_ret
    exact ⟨by first | rfl | (simp; done) | (simp [*]; done), by repeat (first | exact Drawn0.refl _ | apply Drawn0.step)⟩
  · rw [if_neg c3] at H
    have c3b0 : decide (10 ≤ t113) = false := decide_eq_false c3
    clear c3
    obtain rfl := Option.some.inj H
    go_enter Tryd.func31, Tryd.ntmps31
    go_wp2_with (first | ((with_reducible refine gate_callee (f := 39) rfl ?_); refine goesL_ (some 5) rfl rfl Tryd.func39 (by kernel_rfl) rfl #[.string (⟨#[48, 49, 50, 51, 52, 53, 54, 55, 56, 57, 97, 98, 99, 100, 101, 102, 103, 104, 105, 106, 107, 108, 109, 110, 111, 112, 113, 114, 115, 116, 117, 118, 119, 120, 121, 122]⟩ : ByteArray), .int .u8 a0] rfl (by (try simp only [List.map_toArray, List.map_cons, List.map_nil]); first | done | rfl | (simp only [List.length_drop, List.length_take]; rfl)) ?_; (with_reducible refine (strings_IndexByte.calls (⟨#[48, 49, 50, 51, 52, 53, 54, 55, 56, 57, 97, 98, 99, 100, 101, 102, 103, 104, 105, 106, 107, 108, 109, 110, 111, 112, 113, 114, 115, 116, 117, 118, 119, 120, 121, 122]⟩ : ByteArray) a0 t113 _ A2.out).mono ?_); rintro e w' ⟨rfl, ⟨nd, rfl⟩⟩; refine ⟨_, rfl, ?_⟩))
    go_ret
    exact ⟨by first | rfl | (simp; done) | (simp [*]; done), by repeat (first | exact Drawn0.refl _ | apply Drawn0.step)⟩

/-! ### impl_dec_int: function 32 -/
def impl_dec_int.f (a0 : Int) : Option ByteArray := if 0 ≤ a0 then (if a0 < 100 then some (Go.Proofs.YthmciempoodhpaaDoor.Base.decS a0) else none) else none
theorem impl_dec_int.calls (a0 : Int) (r : ByteArray) (w : World) (h : impl_dec_int.f a0 = some r) :
    Calls Tryd.prog 32 #[.int .i64 a0] w fun e w' => e = .returned (.string r) ∧ Below w.heap.size w w' := by
  unfold impl_dec_int.f at h
  by_cases h0 : 0 ≤ a0
  · rw [if_pos h0] at h
    by_cases h1 : a0 < 100
    · rw [if_pos h1] at h
      obtain rfl := Option.some.inj h
      obtain ⟨n, rfl⟩ := Int.eq_ofNat_of_zero_le h0
      unfold Go.Proofs.YthmciempoodhpaaDoor.Base.decS
      rw [Int.toNat_natCast]
      go_enter Tryd.func32, Tryd.ntmps32
      go_wp2_with (go_at_call 40; refine (Tryd.strconv_FormatInt_10_small n (by omega) _).mono ?_; rintro e w' ⟨rfl, rfl⟩)
      go_ret
      exact ⟨rfl, Below.refl _ _⟩
    · rw [if_neg h1] at h; cases h
  · rw [if_neg h0] at h; cases h

/-! ### impl_checked: function 22 -/
def impl_checked.l0 : Nat → ByteArray → Int → List Int → Int → Int → Option (ByteArray)
  | 0, _, _, _, _, _ => none
  | k + 1, x0, x3, x6, x7, x8 => if x8 < x7 then (if 0 ≤ x8 then (if x8 < (x6.length : Int) then (if x8 < (x0.size : Int) then ((impl_valueOf.f (bt x0 x8)).bind fun t118 => (impl_checked.l0 k x0 (wrap64 (x3 + (wrap64 ((rd x6 x8) * t118)))) x6 x7 (wrap64 (x8 + 1)))) else (none)) else (none)) else (none)) else ((impl_dec_int.f (Int.tmod x3 10)).bind fun t119 => (if x0.size + t119.size ≤ 9223372036854775807 then (some (x0 ++ t119)) else (none)))
def impl_checked.f (k : Nat) (a0 : ByteArray) : Option (ByteArray) := (impl_weights.f).bind fun t114 => (impl_checked.l0 k a0 0 t114 (t114.length : Int) 0)
theorem impl_checked.mono_l : ∀ k, (∀ y0 y1 y2 y3 y4, LeO (impl_checked.l0 k y0 y1 y2 y3 y4) (impl_checked.l0 (k + 1) y0 y1 y2 y3 y4))
  | 0 => fun _ _ _ _ _ r h => by simp [impl_checked.l0] at h
  | k + 1 => by
    have ih0 := impl_checked.mono_l k
    · intro y0 y1 y2 y3 y4
      unfold impl_checked.l0
      repeat' first
      | (with_reducible exact ih0 _ _ _ _ _)
      | (with_reducible exact LeO.refl _)
      | (with_reducible exact LeO.none _)
      | (with_reducible refine LeO.ite ?_ ?_)
      | (with_reducible refine LeO.bind ?_ (fun _ => ?_))
      | exact ih0 _ _ _ _ _
      | exact LeO.none _
      | refine LeO.ite ?_ ?_
      | refine LeO.bind ?_ (fun _ => ?_)
theorem impl_checked.mono : ∀ a0 k, LeO (impl_checked.f k a0) (impl_checked.f (k + 1) a0) := by
  intro a0 k
  have ih0 := impl_checked.mono_l k
  unfold impl_checked.f
  repeat' first
      | (with_reducible exact ih0 _ _ _ _ _)
      | (with_reducible exact LeO.refl _)
      | (with_reducible exact LeO.none _)
      | (with_reducible refine LeO.ite ?_ ?_)
      | (with_reducible refine LeO.bind ?_ (fun _ => ?_))
      | exact ih0 _ _ _ _ _
      | exact LeO.none _
      | refine LeO.ite ?_ ?_
      | refine LeO.bind ?_ (fun _ => ?_)
set_option maxHeartbeats 8000000 in
set_option maxRecDepth 100000 in
theorem impl_checked.calls (k : Nat) (a0 : ByteArray) (r : ByteArray) (w : World) (ht_ : Go.Proofs.YthmciempoodhpaaDoor.Tbl.Tb w) (h : impl_checked.f k a0 = some r) :
    Calls Tryd.prog 22 #[.string a0] w fun e w' => e = .returned (.string r) ∧ Below w.heap.size w w' := by
  have HTB_ := Aside0.mk ht_
  clear ht_
  have HB := Aside0.mk (Below.refl w.heap.size w)
  have H : ((impl_weights.f).bind fun t114 => (impl_checked.l0 k a0 0 t114 (t114.length : Int) 0)) = some r := h
  clear h
  replace H := Option.bind_eq_some_iff.mp H
  obtain ⟨t114, A20, H⟩ := H
  replace H : (impl_checked.l0 k a0 0 t114 (t114.length : Int) 0) = some r := H
  have A2 := Aside0.mk A20
  clear A20
  have H' := Aside0.mk H
  clear H
  go_enter Tryd.func22, Tryd.ntmps22
  go_wp2_with (first | ((with_reducible refine gate_callee (f := 30) rfl ?_); refine goesL_ (some 6) rfl rfl Tryd.func30 (by kernel_rfl) rfl #[] rfl (by (try simp only [List.map_toArray, List.map_cons, List.map_nil]); first | done | rfl | (simp only [List.length_drop, List.length_take]; rfl)) ?_; (with_reducible refine (impl_weights.calls  t114 _ ?side1 A2.out).mono ?_); (case side1 => exact HTB_.out.later (by repeat (first | (with_reducible first | exact HB.out | apply below_alloc | apply pw_below_drewN | apply below_drew1) | exact HB.out))); rintro e w3 ⟨v115, rfl, ho0, hb⟩; refine ⟨_, rfl, ?_⟩; have n0_ := Aside0.mk (Kd.R_lower ho0 (below_size (by repeat (first | (with_reducible first | exact HB.out | apply below_alloc | apply pw_below_drewN | apply below_drew1) | exact HB.out)))); have n1_ := Aside0.mk (below_step (by repeat (first | (with_reducible first | exact HB.out | apply below_alloc | apply pw_below_drewN | apply below_drew1) | exact HB.out)) hb); clear HB; have HO116 := n0_; have HB := n1_; clear n0_ n1_; (try clear hb); (try clear hb2); (try clear hk); (try clear hi); (try clear ho0); obtain ⟨Ao4, co4, eo4⟩ := Kd.R_slice HO116.out; subst eo4))
  go_loopg [3, 8] k (fun kq v3 v8 w' => ∃ (x3_1 : Int) (x8_1 : Int), v3 = .int .i64 x3_1 ∧ v8 = .int .i64 x8_1 ∧ Aside0 (impl_checked.l0 kq a0 x3_1 t114 (t114.length : Int) x8_1 = some r) ∧ Aside0 (kq ≤ k) ∧ Aside0 (Kd.R (Kd.int .i64) 3 w' w.heap.size (fun _ => True) (.slice Ao4 t114.length co4) t114) ∧ Aside0 (Below w.heap.size w w'))
  case atStart => exact ⟨(0), (0), (by first | rfl | (simp; done) | (simp [*]; done)), (by first | rfl | (simp; done) | (simp [*]; done)), H', ⟨Nat.le_refl _⟩, ⟨by (with_reducible repeat (first | apply Kd.R_alloc | apply Kd.R_drewN | apply Kd.R_drew)); exact HO116.out⟩, ⟨by repeat (first | (with_reducible first | exact HB.out | apply below_alloc | apply pw_below_drewN | apply below_drew1) | exact HB.out)⟩⟩
  case round =>
    clear H'
    try clear c2
    try clear p2
    try clear c3
    obtain ⟨x3_1, x8_1, rfl, rfl, HA, HK1, HO_6, HB⟩ := hrel
    cases gk with
    | zero => exact absurd HA.out (by simp [impl_checked.l0])
    | succ k1 =>
      have H := HA.out
      clear HA
      simp only [impl_checked.l0] at H
      by_cases c5 : x8_1 < (t114.length : Int)
      · rw [if_pos c5] at H
        have c5b0 : decide (x8_1 < (t114.length : Int)) = true := decide_eq_true c5
        clear c5
        by_cases c6 : 0 ≤ x8_1
        · rw [if_pos c6] at H
          have c6b0 : decide (0 ≤ x8_1) = true := decide_eq_true c6
          clear c6
          by_cases c7 : x8_1 < (t114.length : Int)
          · rw [if_pos c7] at H
            have c7b0 : decide (x8_1 < (t114.length : Int)) = true := decide_eq_true c7
            clear c7
            by_cases c8 : x8_1 < (a0.size : Int)
            · rw [if_pos c8] at H
              have c8b0 : decide (x8_1 < (a0.size : Int)) = true := decide_eq_true c8
              clear c8
              replace H := Option.bind_eq_some_iff.mp H
              obtain ⟨t118, A100, H⟩ := H
              replace H : (impl_checked.l0 k1 a0 (wrap64 (x3_1 + (wrap64 ((rd t114 x8_1) * t118)))) t114 (t114.length : Int) (wrap64 (x8_1 + 1))) = some r := H
              have A10 := Aside0.mk A100
              clear A100
              have H' := Aside0.mk H
              clear H
              have p117 : 0 ≤ (x8_1 : Int) := of_decide_eq_true (by first | (with_reducible assumption) | assumption)
              have q117 : x8_1 < (t114.length : Int) := of_decide_eq_true (by first | (with_reducible assumption) | assumption)
              obtain ⟨ad117, e117, hx117_0⟩ := Kd.at_int (Kd.R_reads' HO_6.out).2.2 x8_1 p117 q117
              cases e117
              replace p117 := eq_true p117
              replace q117 := eq_true q117
              have p9 : 0 ≤ (x8_1 : Int) := of_decide_eq_true (by first | (with_reducible assumption) | assumption)
              have q9 : x8_1 < (a0.size : Int) := of_decide_eq_true (by first | (with_reducible assumption) | assumption)
              have hx9 := bt_at a0 x8_1
              replace p9 := eq_true p9
              replace q9 := eq_true q9
              go_wp2_with (first | ((with_reducible refine gate_callee (f := 31) rfl ?_); refine goesL_ (some 18) rfl rfl Tryd.func31 (by kernel_rfl) rfl #[.int .u8 (bt a0 x8_1)] rfl (by (try simp only [List.map_toArray, List.map_cons, List.map_nil]); first | done | rfl | (simp only [List.length_drop, List.length_take]; rfl)) ?_; (with_reducible refine (impl_valueOf.calls (bt a0 x8_1) t118 _ A10.out).mono ?_); rintro e w' ⟨rfl, ⟨nd, rfl⟩⟩; refine ⟨_, rfl, ?_⟩))
              go_roundg k1
              case measure => have := HK1.out; omega
              case rel => exact ⟨(wrap64 (x3_1 + (wrap64 ((rd t114 x8_1) * t118)))), (wrap64 (x8_1 + 1)), (by first | rfl | (simp; done) | (simp [*]; done)), (by first | rfl | (simp; done) | (simp [*]; done)), H', ⟨by have := HK1.out; omega⟩, ⟨by (with_reducible repeat (first | apply Kd.R_alloc | apply Kd.R_drewN | apply Kd.R_drew)); exact HO_6.out⟩, ⟨by repeat (first | (with_reducible first | exact HB.out | apply below_alloc | apply pw_below_drewN | apply below_drew1) | exact HB.out)⟩⟩
            · rw [if_neg c8] at H
              exact absurd H (by simp)
          · rw [if_neg c7] at H
            exact absurd H (by simp)
        · rw [if_neg c6] at H
          exact absurd H (by simp)
      · rw [if_neg c5] at H
        have c5b0 : decide (x8_1 < (t114.length : Int)) = false := decide_eq_false c5
        clear c5
        replace H := Option.bind_eq_some_iff.mp H
        obtain ⟨t119, A110, H⟩ := H
        replace H : (if a0.size + t119.size ≤ 9223372036854775807 then (some (a0 ++ t119)) else (none)) = some r := H
        have A11 := Aside0.mk A110
        clear A110
        by_cases c12 : a0.size + t119.size ≤ 9223372036854775807
        · rw [if_pos c12] at H
          have c12b0 := eq_true c12
          have c12b1 : decide (a0.size + t119.size ≤ 9223372036854775807) = true := decide_eq_true c12
          try have c12b2 : (9223372036854775807 < a0.size + t119.size) = False := eq_false (Nat.not_lt.2 c12)
          obtain rfl := Option.some.inj H
          go_wp2_with (first | ((with_reducible refine gate_callee (f := 32) rfl ?_); refine goesL_ (some 25) rfl rfl Tryd.func32 (by kernel_rfl) rfl #[.int .i64 (Int.tmod x3_1 10)] rfl (by (try simp only [List.map_toArray, List.map_cons, List.map_nil]); first | done | rfl | (simp only [List.length_drop, List.length_take]; rfl)) ?_; (with_reducible refine (impl_dec_int.calls (Int.tmod x3_1 10) t119 _ A11.out).mono ?_); rintro e w13 ⟨rfl, hb⟩; refine ⟨_, rfl, ?_⟩; have n0_ := Aside0.mk (Kd.R_below (by (with_reducible repeat (first | apply Kd.R_alloc | apply Kd.R_drewN | apply Kd.R_drew)); exact HO_6.out) hb); have n1_ := Aside0.mk (below_step (by repeat (first | (with_reducible first | exact HB.out | apply below_alloc | apply pw_below_drewN | apply below_drew1) | exact HB.out)) hb); clear HO_6; clear HB; have HO_6 := n0_; have HB := n1_; clear n0_ n1_; (try clear hb); (try clear hb2); (try clear hk); (try clear hi)))
          go_ret
          exact ⟨by first | rfl | (simp [errW_none, errW_some] <;> rfl) | (simp [*, errW_none, errW_some] <;> rfl) | (simp [IntKind.wrap_i64, wrap64]; done), by repeat (first | (with_reducible first | exact HB.out | apply below_alloc | apply pw_below_drewN | apply below_drew1) | exact HB.out)⟩
        · rw [if_neg c12] at H
          exact absurd H (by simp)

/-! ### impl_dec_int16: function 33 -/
def impl_dec_int16.f (a0 : Int) : Option ByteArray := if 0 ≤ a0 then (if a0 ≤ 32767 then some (Go.Proofs.YthmciempoodhpaaDoor.Base.decS a0) else none) else none
theorem impl_dec_int16.calls (a0 : Int) (r : ByteArray) (w : World) (ht_ : Go.Proofs.YthmciempoodhpaaDoor.Tbl.Tb w) (h : impl_dec_int16.f a0 = some r) :
    Calls Tryd.prog 33 #[.int .i16 a0] w fun e w' => e = .returned (.string r) ∧ Below w.heap.size w w' := by
  unfold impl_dec_int16.f at h
  by_cases h0 : 0 ≤ a0
  · rw [if_pos h0] at h
    by_cases h1 : a0 ≤ 32767
    · rw [if_pos h1] at h
      obtain rfl := Option.some.inj h
      have HT := Aside0.mk ht_
      clear h ht_
      have hw : IntKind.i64.wrap a0 = a0 := by rw [IntKind.wrap_i64]; omega
      go_enter Tryd.func33, Tryd.ntmps33
      go_wp2_with (go_at_call 40; refine (Tryd.strconv_FormatInt_10 a0 (by omega) (by omega) _ HT.out.tab).mono ?_; rintro e w' ⟨rfl, q, os, rfl⟩)
      go_ret
      refine ⟨?_, ?_⟩
      · unfold Go.Proofs.YthmciempoodhpaaDoor.Base.decS
        obtain ⟨n, rfl⟩ := Int.eq_ofNat_of_zero_le h0
        rw [Lib.itoa_nonneg, Int.toNat_natCast]
        rfl
      · exact Go.Proofs.YthmciempoodhpaaDoor.Tbl.below_grow _ _ _
    · rw [if_neg h1] at h; cases h
  · rw [if_neg h0] at h; cases h

/-! ### strings_Repeat: function 34 -/
def strings_Repeat.f (a0 : ByteArray) (a1 : Int) : Option ByteArray := if 0 ≤ a1 then (if a1 ≤ 1000 then (if a0.size ≤ 1000 then some ⟨(Go.Lib.repeatL a0.data.toList a1.toNat).toArray⟩ else none) else none) else none
theorem strings_Repeat.calls (a0 : ByteArray) (a1 : Int) (r : ByteArray) (w : World) (h : strings_Repeat.f a0 a1 = some r) :
    Calls Tryd.prog 34 #[.string a0, .int .i64 a1] w fun e w' => e = .returned (.string r) ∧ Below w.heap.size w w' := by
  unfold strings_Repeat.f at h
  by_cases h0 : 0 ≤ a1
  · rw [if_pos h0] at h
    by_cases h1 : a1 ≤ 1000
    · rw [if_pos h1] at h
      by_cases h2 : a0.size ≤ 1000
      · rw [if_pos h2] at h
        obtain rfl := Option.some.inj h
        obtain ⟨n, rfl⟩ := Int.eq_ofNat_of_zero_le h0
        rw [Int.toNat_natCast]
        have hm : a0.size * n ≤ 1000 * 1000 := Nat.mul_le_mul h2 (by omega)
        exact Tryd.strings_Repeat a0 n w (by omega) (by omega)
      · rw [if_neg h2] at h; cases h
    · rw [if_neg h1] at h; cases h
  · rw [if_neg h0] at h; cases h

end Go.Proofs.YthmciempoodhpaaDoor.PRdl
