-- made by a program of this session (wip/pext.py) out of the translation; the parts by hand are wip/ext's
import Derived.Test.YtolhlackfphdcaaDoorPNeax0
namespace Go.Proofs.YtolhlackfphdcaaDoor.PNea
open Go.RowKit Go.Proofs.YtolhlackfphdcaaDoorW.PrintWords Go.Proofs.YtolhlackfphdcaaDoorW.PrintLast Go.Proofs.YtolhlackfphdcaaDoorW.PrintMore
attribute [local go_sem] max2_int min2_int max_two min_two max_three min_three max_four min_four   -- for this text's walks alone
set_option linter.unusedVariables false
set_option linter.unusedSimpArgs false

/-! ### slices_IndexFunc_byte: function 59 -/
open Go.Proofs.YtolhlackfphdcaaDoor.Gen in
def slices_IndexFunc_byte.f (l0 : List Int) (p1 : Int → Option Bool) : Option Int := idxO p1 l0 0
open Go.Proofs.YtolhlackfphdcaaDoor.Gen in
set_option maxHeartbeats 4000000 in
theorem slices_IndexFunc_byte.calls (A0 : Option Addr) (c0 : Nat) (l0 : List Int) (g1 : Nat) (lb1 : Array Value) (p1 : Int → Option Bool) (r : Int) (w : World) (hp1 : FnB Tryd.prog g1 lb1 (Kd.int .u8) vOne p1 w) (hr0 : Kd.C (Kd.int .u8) w A0 l0.length l0) (hc0 : l0.length ≤ c0) (h : slices_IndexFunc_byte.f l0 p1 = some r) :
    Calls Tryd.prog 59 #[.slice A0 l0.length c0, .func (.func g1) #[] lb1] w fun e w' => e = .returned (.int .i64 r) ∧ Below w.heap.size w w' := by
  have hm : l0.length ≤ 9223372036854775807 := hr0.2.1
  have eg := hp1.enters
  have HP := Aside0.mk hp1
  have HR := Aside0.mk hr0
  have HF := Aside0.mk h
  clear hp1 hr0 h
  go_enter Tryd.func59, Tryd.ntmps59
  go_wp2
  go_loopg [5, 8] l0.length (fun gg _ s8 wr => ∃ kk : Nat, kk ≤ l0.length ∧ l0.length - kk ≤ gg ∧ s8 = .int .i64 kk ∧ Aside0 (Below w.heap.size w wr) ∧ Aside0 (idxO p1 (l0.drop kk) kk = some r))
  case atStart => exact ⟨0, Nat.zero_le _, by omega, rfl, ⟨Below.refl _ w⟩, ⟨HF.out⟩⟩
  case round =>
    obtain ⟨kk, hkk, hg, rfl, BW, HA⟩ := hrel
    by_cases hlt : kk < l0.length
    · have hltz : (kk : Int) < (l0.length : Int) := by omega
      have hx : l0[kk]? = some l0[kk] := List.getElem?_eq_getElem hlt
      have HD := HA.out
      rw [List.drop_eq_getElem_cons hlt] at HD
      generalize l0[kk] = x at hx HD
      obtain ⟨b, hb, HD⟩ := Option.bind_eq_some_iff.mp HD
      obtain ⟨ad, c0_, rfl, hK, hx0⟩ := cells1 (d := (Kd.int .u8)) rfl (Kd.C_below HR.out BW.out) kk x hx
      have hcall := HP.out.run _ x _ b BW.out hK hb
      have HX := Aside0.mk hx
      have HK := Aside0.mk hK
      clear hx hK HA hb
      cases b with
      | true =>
        have HE := Aside0.mk HD
        clear HD
        go_wp2_with (go_at_fn g1; refine hcall.mono ?_; rintro e w' ⟨rfl, hb'⟩)
        go_ret
        exact ⟨congrArg (fun z => Ending.returned (.int .i64 z)) (show (kk : Int) = r by simpa using HE.out), below_then BW.out BW.out.size hb'⟩
      | false =>
        have HE := Aside0.mk HD
        clear HD
        go_wp2_with (go_at_fn g1; refine hcall.mono ?_; rintro e w' ⟨rfl, hb'⟩)
        go_roundg (l0.length - (kk + 1))
        case measure => omega
        case rel => exact ⟨kk + 1, by omega, by omega, by go_num, ⟨below_then BW.out BW.out.size hb'⟩, ⟨by have := HE.out; simpa using this⟩⟩
    · have hltz : ¬ (kk : Int) < (l0.length : Int) := by omega
      have HE : Aside0 (r = -1) := ⟨by have := HA.out; rw [List.drop_of_length_le (by omega)] at this; exact (Option.some.inj this).symm⟩
      clear HA
      go_wp2
      go_ret
      exact ⟨congrArg (fun z => Ending.returned (.int .i64 z)) HE.out.symm, BW.out⟩

/-! ### slices_ContainsFunc_byte: function 44 -/
open Go.Proofs.YtolhlackfphdcaaDoor.Gen in
def slices_ContainsFunc_byte.f (l0 : List Int) (p1 : Int → Option Bool) : Option Bool := anyO p1 l0
open Go.Proofs.YtolhlackfphdcaaDoor.Gen in
set_option maxHeartbeats 4000000 in
theorem slices_ContainsFunc_byte.calls (A0 : Option Addr) (c0 : Nat) (l0 : List Int) (g1 : Nat) (lb1 : Array Value) (p1 : Int → Option Bool) (r : Bool) (w : World) (hp1 : FnB Tryd.prog g1 lb1 (Kd.int .u8) vOne p1 w) (hr0 : Kd.C (Kd.int .u8) w A0 l0.length l0) (hc0 : l0.length ≤ c0) (h : slices_ContainsFunc_byte.f l0 p1 = some r) :
    Calls Tryd.prog 44 #[.slice A0 l0.length c0, .func (.func g1) #[] lb1] w fun e w' => e = .returned (.bool r) ∧ Below w.heap.size w w' := by
  obtain ⟨i, hi, hd⟩ := idxO_any h 0 (by omega)
  have HP := Aside0.mk hp1
  have HR := Aside0.mk hr0
  have HI := Aside0.mk hi
  have HD := Aside0.mk hd
  clear hp1 hr0 h hi hd
  go_enter Tryd.func44, Tryd.ntmps44
  go_wp2_with (go_at_call 59; refine (slices_IndexFunc_byte.calls _ _ l0 g1 lb1 p1 i _ HP.out HR.out hc0 HI.out).mono ?_; rintro e w' ⟨rfl, hb'⟩)
  go_ret
  exact ⟨congrArg (fun z => Ending.returned (.bool z)) HD.out, hb'⟩

/-! ### impl_areAll_byte: function 28 -/
open Go.Proofs.YtolhlackfphdcaaDoor.Gen in
def impl_areAll_byte.f (l0 : List Int) (p1 : Int → Option Bool) : Option Bool := allO p1 l0
open Go.Proofs.YtolhlackfphdcaaDoor.Gen in
set_option maxHeartbeats 4000000 in
theorem impl_areAll_byte.inner (g1 : Nat) (lb1 : Array Value) (p1 : Int → Option Bool) (w : World) (b : Nat) (hcell : w.cell? ⟨b, 0, none⟩ = some (.func (.func g1) #[] lb1)) (hp1 : FnB Tryd.prog g1 lb1 (Kd.int .u8) vOne p1 w) :
    FnB Tryd.prog 45 #[.pointer (some ⟨b, 0, none⟩)] (Kd.int .u8) vOne (fun x => (p1 x).map (!·)) w := by
  have eg := hp1.enters
  refine ⟨fun _ _ => by kernel_rfl, fun W x cs r hW hK hx => ?_⟩
  obtain ⟨q, hq, rfl⟩ : ∃ q, p1 x = some q ∧ (!q) = r := by
    cases hq : p1 x with
    | none => rw [hq] at hx; cases hx
    | some q => rw [hq] at hx; exact ⟨q, rfl, by simpa using hx⟩
  have hcall := fun W' (hb' : Below W.heap.size W W') => hp1.run W' x cs q (below_then hW hW.size hb') (Kd.K_below _ hb' hK) hq
  have hc : W.cell? ⟨b, 0, none⟩ = some (.func (.func g1) #[] lb1) := pw_cell_below hW hcell
  obtain rfl : cs = [.int .u8 x] := hK
  have hc2 : ∀ o, (W.alloc o).cell? ⟨b, 0, none⟩ = some (.func (.func g1) #[] lb1) := fun o => pw_cell_below (below_alloc (Below.refl _ _) o) hc
  simp only [vAgg, vOne, List.append_toArray, List.cons_append, List.nil_append]
  clear hx
  try clear hK
  go_enter Tryd.func45, Tryd.ntmps45
  go_wp2_with (go_at_fn g1; refine (hcall _ (by repeat (first | exact Below.refl _ _ | apply below_alloc | apply below_drew1))).mono ?_; rintro e w' ⟨rfl, hb'⟩)
  go_ret
  exact ⟨rfl, by repeat (first | (refine below_step ?_ hb') | exact Below.refl _ _ | apply below_alloc | apply below_drew1)⟩
open Go.Proofs.YtolhlackfphdcaaDoor.Gen in
set_option maxHeartbeats 4000000 in
theorem impl_areAll_byte.calls (A0 : Option Addr) (c0 : Nat) (l0 : List Int) (g1 : Nat) (lb1 : Array Value) (p1 : Int → Option Bool) (r : Bool) (w : World) (hp1 : FnB Tryd.prog g1 lb1 (Kd.int .u8) vOne p1 w) (hr0 : Kd.C (Kd.int .u8) w A0 l0.length l0) (hc0 : l0.length ≤ c0) (h : impl_areAll_byte.f l0 p1 = some r) :
    Calls Tryd.prog 28 #[.slice A0 l0.length c0, .func (.func g1) #[] lb1] w fun e w' => e = .returned (.bool r) ∧ Below w.heap.size w w' := by
  have HA := Aside0.mk (anyO_all h)
  have HP := Aside0.mk hp1
  have HR := Aside0.mk hr0
  clear hp1 hr0 h
  go_enter Tryd.func28, Tryd.ntmps28
  go_wp2_with (go_at_call 44; refine (slices_ContainsFunc_byte.calls _ _ l0 45 _ (fun x => (p1 x).map (!·)) (!r) _ (impl_areAll_byte.inner g1 lb1 p1 _ w.heap.size (by simp) (FnB.later HP.out (below_alloc (Below.refl _ _) _))) (Kd.C_below HR.out (below_alloc (Below.refl _ _) _)) hc0 HA.out).mono ?_; rintro e w' ⟨rfl, hb'⟩)
  go_ret
  exact ⟨rfl, below_step (below_alloc (Below.refl _ _) _) hb'⟩

/-! ### impl_isSmall: function 29 -/
def impl_isSmall.f (a0 : Int) : Option (Bool) := if a0 ≥ 97 then (some (decide (a0 ≤ 122))) else (some false)
set_option maxHeartbeats 8000000 in
set_option maxRecDepth 100000 in
theorem impl_isSmall.calls (a0 : Int) (r : Bool) (w : World) (h : impl_isSmall.f a0 = some r) :
    Calls Tryd.prog 29 #[.int .u8 a0] w fun e w' => e = .returned (.bool r) ∧ Drawn0 w w' := by
  have H : (if a0 ≥ 97 then (some (decide (a0 ≤ 122))) else (some false)) = some r := h
  clear h
  by_cases c2 : a0 ≥ 97
  · rw [if_pos c2] at H
    have c2b0 : decide (97 ≤ a0) = true := decide_eq_true c2
    clear c2
    obtain rfl := Option.some.inj H
    go_enter Tryd.func29, Tryd.ntmps29
    go_wp2
    go_ret
    exact ⟨by first | rfl | (simp; done) | (simp [*]; done), by repeat (first | exact Drawn0.refl _ | apply Drawn0.step)⟩
  · rw [if_neg c2] at H
    have c2b0 : decide (97 ≤ a0) = false := decide_eq_false c2
    clear c2
    obtain rfl := Option.some.inj H
    go_enter Tryd.func29, Tryd.ntmps29
    go_wp2
    go_ret
    exact ⟨by first | rfl | (simp; done) | (simp [*]; done), by repeat (first | exact Drawn0.refl _ | apply Drawn0.step)⟩

/-! ### impl_weights: function 60 -/
def impl_weights.f  : Option (List Int) := some (([1, 3, 7, 9, 1, 3, 7, 9] : List Int))
set_option maxHeartbeats 8000000 in
set_option maxRecDepth 100000 in
theorem impl_weights.calls  (r : List Int) (w : World) (ht_ : Go.Proofs.YtolhlackfphdcaaDoor.Tbl.Tb w) (h : impl_weights.f  = some r) :
    Calls Tryd.prog 60 #[] w fun e w' => ∃ v0_ : Value, e = .returned (v0_) ∧ Kd.R (Kd.int .i64) 3 w' w.heap.size (fun _ => True) v0_ r ∧ Below w.heap.size w w' := by
  have HTB_ := Aside0.mk ht_
  clear ht_
  have HB := Aside0.mk (Below.refl w.heap.size w)
  have H : (some (([1, 3, 7, 9, 1, 3, 7, 9] : List Int))) = some r := h
  clear h
  obtain ⟨y101, hy101⟩ : ∃ y_ : List Int, y_ = (([1, 3, 7, 9, 1, 3, 7, 9] : List Int)) := ⟨_, rfl⟩
  replace H : (some y101) = some r := by first | (rw [hy101]; with_reducible exact H) | (have H2_ := (Option.bind_some _ _).symm.trans H; rw [hy101]; with_reducible exact H2_) | (have H2_ := (Option.bind_some _ _).symm.trans H; with_reducible exact H2_) | with_reducible exact H | (rw [hy101]; exact H) | exact H
  have Ny101 := Aside0.mk hy101
  clear hy101
  obtain rfl := Option.some.inj H
  go_enter Tryd.func60, Tryd.ntmps60
  go_wp2_with (first | ((with_reducible refine gate_dst (N := 1) rfl ?_); refine Kd.R_lit (Kd.int .i64) _ 3 ?hg (N := 1) ?hd (xs := ([1, 3, 7, 9, 1, 3, 7, 9] : List Int)) (inner := [.int .i64 1, .int .i64 3, .int .i64 7, .int .i64 9, .int .i64 1, .int .i64 3, .int .i64 7, .int .i64 9]) (ok := fun _ => True) (okp := fun _ => True) ?hr ?hp (fun _ hk => hk) trivial (Below.refl _ _) (Nat.le_refl _) (by simp) ?_; (case hd => rfl); (case hg => rfl); (case hr => first | (go_simp; done) | (go_simp; rfl)); (case hp => exact (Reps.one (show Kd.M (Kd.int .i64) _ _ _ 1 [.int .i64 1] from rfl) (Reps.one (show Kd.M (Kd.int .i64) _ _ _ 3 [.int .i64 3] from rfl) (Reps.one (show Kd.M (Kd.int .i64) _ _ _ 7 [.int .i64 7] from rfl) (Reps.one (show Kd.M (Kd.int .i64) _ _ _ 9 [.int .i64 9] from rfl) (Reps.one (show Kd.M (Kd.int .i64) _ _ _ 1 [.int .i64 1] from rfl) (Reps.one (show Kd.M (Kd.int .i64) _ _ _ 3 [.int .i64 3] from rfl) (Reps.one (show Kd.M (Kd.int .i64) _ _ _ 7 [.int .i64 7] from rfl) (Reps.one (show Kd.M (Kd.int .i64) _ _ _ 9 [.int .i64 9] from rfl) (Reps.none _ _)))))))))); intro v102 w1 ho2 hb hg_ hnew_; clear hg_ hnew_; (first | rw [← Ny101.out] at ho2 | (simp only [Int.reduceToNat] at ho2; rw [← Ny101.out] at ho2)); have n0_ := Aside0.mk (Kd.R_lower ho2 (below_size (by repeat (first | (with_reducible first | exact HB.out | apply below_alloc | apply pw_below_drewN | apply below_drew1) | exact HB.out)))); have n1_ := Aside0.mk (below_step (by repeat (first | (with_reducible first | exact HB.out | apply below_alloc | apply pw_below_drewN | apply below_drew1) | exact HB.out)) hb); clear HB; have HO103 := n0_; have HB := n1_; clear n0_ n1_; clear hb ho2))
  go_ret
  exact ⟨_, by first | rfl | (simp [errW_none, errW_some] <;> rfl) | (simp [*, errW_none, errW_some] <;> rfl) | (simp [IntKind.wrap_i64, wrap64]; done), by (with_reducible repeat (first | apply Kd.R_alloc | apply Kd.R_drewN | apply Kd.R_drew)); exact HO103.out, by repeat (first | (with_reducible first | exact HB.out | apply below_alloc | apply pw_below_drewN | apply below_drew1) | exact HB.out)⟩

/-! ### strings_IndexByte: function 70 -/
def strings_IndexByte.f (a0 : ByteArray) (a1 : Int) : Option Int := if 0 ≤ a1 then (if a1 ≤ 255 then some (Lib.indexByte a0.data.toList (UInt8.ofNat a1.toNat)) else none) else none
theorem strings_IndexByte.calls (a0 : ByteArray) (a1 : Int) (r : Int) (w : World) (h : strings_IndexByte.f a0 a1 = some r) :
    Calls Tryd.prog 70 #[.string a0, .int .u8 a1] w fun e w' => e = .returned (.int .i64 r) ∧ Drawn0 w w' := by
  unfold strings_IndexByte.f at h
  by_cases h0 : 0 ≤ a1
  · rw [if_pos h0] at h
    by_cases h1 : a1 ≤ 255
    · rw [if_pos h1] at h
      obtain rfl := Option.some.inj h
      refine (Tryd.strings_IndexByte a0 a1 w).mono ?_
      rintro e w' ⟨rfl, rfl⟩
      exact ⟨rfl, Drawn0.refl _⟩
    · rw [if_neg h1] at h; cases h
  · rw [if_neg h0] at h; cases h

/-! ### impl_valueOf: function 61 -/
def impl_valueOf.f (a0 : Int) : Option (Int) := (strings_IndexByte.f (⟨#[48, 49, 50, 51, 52, 53, 54, 55, 56, 57, 97, 98, 99, 100, 101, 102, 103, 104, 105, 106, 107, 108, 109, 110, 111, 112, 113, 114, 115, 116, 117, 118, 119, 120, 121, 122]⟩ : ByteArray) a0).bind fun t104 => (if t104 ≥ 10 then (some (wrap64 ((wrap64 (t104 - 10)) + 1))) else (some t104))
set_option maxHeartbeats 8000000 in
set_option maxRecDepth 100000 in
theorem impl_valueOf.calls (a0 : Int) (r : Int) (w : World) (h : impl_valueOf.f a0 = some r) :
    Calls Tryd.prog 61 #[.int .u8 a0] w fun e w' => e = .returned (.int .i64 r) ∧ Drawn0 w w' := by
  have H : ((strings_IndexByte.f (⟨#[48, 49, 50, 51, 52, 53, 54, 55, 56, 57, 97, 98, 99, 100, 101, 102, 103, 104, 105, 106, 107, 108, 109, 110, 111, 112, 113, 114, 115, 116, 117, 118, 119, 120, 121, 122]⟩ : ByteArray) a0).bind fun t104 => (if t104 ≥ 10 then (some (wrap64 ((wrap64 (t104 - 10)) + 1))) else (some t104))) = some r := h
  clear h
  replace H := Option.bind_eq_some_iff.mp H
  obtain ⟨t104, A20, H⟩ := H
  replace H : (if t104 ≥ 10 then (some (wrap64 ((wrap64 (t104 - 10)) + 1))) else (some t104)) = some r := H
  have A2 := Aside0.mk A20
  clear A20
  by_cases c3 : t104 ≥ 10
  · rw [if_pos c3] at H
    have c3b0 : decide (10 ≤ t104) = true := decide_eq_true c3
    clear c3
    obtain rfl := Option.some.inj H
    go_enter Tryd.func61, Tryd.ntmps61
    go_wp2_with (first | ((with_reducible refine gate_callee (f := 70) rfl ?_); refine goesL_ (some 5) rfl rfl Tryd.func70 (by kernel_rfl) rfl #[.string (⟨#[48, 49, 50, 51, 52, 53, 54, 55, 56, 57, 97, 98, 99, 100, 101, 102, 103, 104, 105, 106, 107, 108, 109, 110, 111, 112, 113, 114, 115, 116, 117, 118, 119, 120, 121, 122]⟩ : ByteArray), .int .u8 a0] rfl (by (try simp only [List.map_toArray, List.map_cons, List.map_nil]); first | done | rfl | (simp only [List.length_drop, List.length_take]; rfl)) ?_; (with_reducible refine (strings_IndexByte.calls (⟨#[48, 49, 50, 51, 52, 53, 54, 55, 56, 57, 97, 98, 99, 100, 101, 102, 103, 104, 105, 106, 107, 108, 109, 110, 111, 112, 113, 114, 115, 116, 117, 118, 119, 120, 121, 122]⟩ : ByteArray) a0 t104 _ A2.out).mono ?_); rintro e w' ⟨rfl, ⟨nd, rfl⟩⟩; refine ⟨_, rfl, ?_⟩))
    go_ret
    exact ⟨by first | rfl | (simp; done) | (simp [*]; done), by repeat (first | exact Drawn0.refl _ | apply Drawn0.step)⟩
  · rw [if_neg c3] at H
    have c3b0 : decide (10 ≤ t104) = false := decide_eq_false c3
    clear c3
    obtain rfl := Option.some.inj H
    go_enter Tryd.func61, Tryd.ntmps61
    go_wp2_with (first | ((with_reducible refine gate_callee (f := 70) rfl ?_); refine goesL_ (some 5) rfl rfl Tryd.func70 (by kernel_rfl) rfl #[.string (⟨#[48, 49, 50, 51, 52, 53, 54, 55, 56, 57, 97, 98, 99, 100, 101, 102, 103, 104, 105, 106, 107, 108, 109, 110, 111, 112, 113, 114, 115, 116, 117, 118, 119, 120, 121, 122]⟩ : ByteArray), .int .u8 a0] rfl (by (try simp only [List.map_toArray, List.map_cons, List.map_nil]); first | done | rfl | (simp only [List.length_drop, List.length_take]; rfl)) ?_; (with_reducible refine (strings_IndexByte.calls (⟨#[48, 49, 50, 51, 52, 53, 54, 55, 56, 57, 97, 98, 99, 100, 101, 102, 103, 104, 105, 106, 107, 108, 109, 110, 111, 112, 113, 114, 115, 116, 117, 118, 119, 120, 121, 122]⟩ : ByteArray) a0 t104 _ A2.out).mono ?_); rintro e w' ⟨rfl, ⟨nd, rfl⟩⟩; refine ⟨_, rfl, ?_⟩))
    go_ret
    exact ⟨by first | rfl | (simp; done) | (simp [*]; done), by repeat (first | exact Drawn0.refl _ | apply Drawn0.step)⟩

/-! ### impl_dec_int: function 62 -/
def impl_dec_int.f (a0 : Int) : Option ByteArray := if 0 ≤ a0 then (if a0 < 100 then some (Go.Proofs.YtolhlackfphdcaaDoor.Base.decS a0) else none) else none
theorem impl_dec_int.calls (a0 : Int) (r : ByteArray) (w : World) (h : impl_dec_int.f a0 = some r) :
    Calls Tryd.prog 62 #[.int .i64 a0] w fun e w' => e = .returned (.string r) ∧ Below w.heap.size w w' := by
  unfold impl_dec_int.f at h
  by_cases h0 : 0 ≤ a0
  · rw [if_pos h0] at h
    by_cases h1 : a0 < 100
    · rw [if_pos h1] at h
      obtain rfl := Option.some.inj h
      obtain ⟨n, rfl⟩ := Int.eq_ofNat_of_zero_le h0
      unfold Go.Proofs.YtolhlackfphdcaaDoor.Base.decS
      rw [Int.toNat_natCast]
      go_enter Tryd.func62, Tryd.ntmps62
      go_wp2_with (go_at_call 71; refine (Tryd.strconv_FormatInt_10_small n (by omega) _).mono ?_; rintro e w' ⟨rfl, rfl⟩)
      go_ret
      exact ⟨rfl, Below.refl _ _⟩
    · rw [if_neg h1] at h; cases h
  · rw [if_neg h0] at h; cases h

/-! ### impl_checked: function 46 -/
def impl_checked.l0 : Nat → ByteArray → Int → List Int → Int → Int → Option (ByteArray)
  | 0, _, _, _, _, _ => none
  | k + 1, x0, x3, x6, x7, x8 => if x8 < x7 then (if 0 ≤ x8 then (if x8 < (x6.length : Int) then (if x8 < (x0.size : Int) then ((impl_valueOf.f (bt x0 x8)).bind fun t109 => (impl_checked.l0 k x0 (wrap64 (x3 + (wrap64 ((rd x6 x8) * t109)))) x6 x7 (wrap64 (x8 + 1)))) else (none)) else (none)) else (none)) else ((impl_dec_int.f (Int.tmod x3 10)).bind fun t110 => (if x0.size + t110.size ≤ 9223372036854775807 then (some (x0 ++ t110)) else (none)))
def impl_checked.f (k : Nat) (a0 : ByteArray) : Option (ByteArray) := (impl_weights.f).bind fun t105 => (impl_checked.l0 k a0 0 t105 (t105.length : Int) 0)
theorem impl_checked.mono_l : ∀ k, (∀ y0 y1 y2 y3 y4, LeO (impl_checked.l0 k y0 y1 y2 y3 y4) (impl_checked.l0 (k + 1) y0 y1 y2 y3 y4))
  | 0 => fun _ _ _ _ _ r h => by simp [impl_checked.l0] at h
  | k + 1 => by
    have ih0 := impl_checked.mono_l k
    · intro y0 y1 y2 y3 y4
      unfold impl_checked.l0
      repeat' first
      | (with_reducible exact ih0 _ _ _ _ _)
      | (with_reducible exact LeO.refl _)
      | (with_reducible exact LeO.none _)
      | (with_reducible refine LeO.ite ?_ ?_)
      | (with_reducible refine LeO.bind ?_ (fun _ => ?_))
      | exact ih0 _ _ _ _ _
      | exact LeO.none _
      | refine LeO.ite ?_ ?_
      | refine LeO.bind ?_ (fun _ => ?_)
theorem impl_checked.mono : ∀ a0 k, LeO (impl_checked.f k a0) (impl_checked.f (k + 1) a0) := by
  intro a0 k
  have ih0 := impl_checked.mono_l k
  unfold impl_checked.f
  repeat' first
      | (with_reducible exact ih0 _ _ _ _ _)
      | (with_reducible exact LeO.refl _)
      | (with_reducible exact LeO.none _)
      | (with_reducible refine LeO.ite ?_ ?_)
      | (with_reducible refine LeO.bind ?_ (fun _ => ?_))
      | exact ih0 _ _ _ _ _
      | exact LeO.none _
      | refine LeO.ite ?_ ?_
      | refine LeO.bind ?_ (fun _ => ?_)
set_option maxHeartbeats 8000000 in
set_option maxRecDepth 100000 in
theorem impl_checked.calls (k : Nat) (a0 : ByteArray) (r : ByteArray) (w : World) (ht_ : Go.Proofs.YtolhlackfphdcaaDoor.Tbl.Tb w) (h : impl_checked.f k a0 = some r) :
    Calls Tryd.prog 46 #[.string a0] w fun e w' => e = .returned (.string r) ∧ Below w.heap.size w w' := by
  have HTB_ := Aside0.mk ht_
  clear ht_
  have HB := Aside0.mk (Below.refl w.heap.size w)
  have H : ((impl_weights.f).bind fun t105 => (impl_checked.l0 k a0 0 t105 (t105.length : Int) 0)) = some r := h
  clear h
  replace H := Option.bind_eq_some_iff.mp H
  obtain ⟨t105, A20, H⟩ := H
  replace H : (impl_checked.l0 k a0 0 t105 (t105.length : Int) 0) = some r := H
  have A2 := Aside0.mk A20
  clear A20
  have H' := Aside0.mk H
  clear H
  go_enter Tryd.func46, Tryd.ntmps46
  go_wp2_with (first | ((with_reducible refine gate_callee (f := 60) rfl ?_); refine goesL_ (some 6) rfl rfl Tryd.func60 (by kernel_rfl) rfl #[] rfl (by (try simp only [List.map_toArray, List.map_cons, List.map_nil]); first | done | rfl | (simp only [List.length_drop, List.length_take]; rfl)) ?_; (with_reducible refine (impl_weights.calls  t105 _ ?side1 A2.out).mono ?_); (case side1 => exact HTB_.out.later (by repeat (first | (with_reducible first | exact HB.out | apply below_alloc | apply pw_below_drewN | apply below_drew1) | exact HB.out))); rintro e w3 ⟨v106, rfl, ho0, hb⟩; refine ⟨_, rfl, ?_⟩; have n0_ := Aside0.mk (Kd.R_lower ho0 (below_size (by repeat (first | (with_reducible first | exact HB.out | apply below_alloc | apply pw_below_drewN | apply below_drew1) | exact HB.out)))); have n1_ := Aside0.mk (below_step (by repeat (first | (with_reducible first | exact HB.out | apply below_alloc | apply pw_below_drewN | apply below_drew1) | exact HB.out)) hb); clear HB; have HO107 := n0_; have HB := n1_; clear n0_ n1_; (try clear hb); (try clear hb2); (try clear hk); (try clear hi); (try clear ho0); obtain ⟨Ao4, co4, eo4⟩ := Kd.R_slice HO107.out; subst eo4))
  go_loopg [3, 8] k (fun kq v3 v8 w' => ∃ (x3_1 : Int) (x8_1 : Int), v3 = .int .i64 x3_1 ∧ v8 = .int .i64 x8_1 ∧ Aside0 (impl_checked.l0 kq a0 x3_1 t105 (t105.length : Int) x8_1 = some r) ∧ Aside0 (kq ≤ k) ∧ Aside0 (Kd.R (Kd.int .i64) 3 w' w.heap.size (fun _ => True) (.slice Ao4 t105.length co4) t105) ∧ Aside0 (Below w.heap.size w w'))
  case atStart => exact ⟨(0), (0), (by first | rfl | (simp; done) | (simp [*]; done)), (by first | rfl | (simp; done) | (simp [*]; done)), H', ⟨Nat.le_refl _⟩, ⟨by (with_reducible repeat (first | apply Kd.R_alloc | apply Kd.R_drewN | apply Kd.R_drew)); exact HO107.out⟩, ⟨by repeat (first | (with_reducible first | exact HB.out | apply below_alloc | apply pw_below_drewN | apply below_drew1) | exact HB.out)⟩⟩
  case round =>
    clear H'
    try clear p2
    try clear c4
    obtain ⟨x3_1, x8_1, rfl, rfl, HA, HK1, HO_6, HB⟩ := hrel
    cases gk with
    | zero => exact absurd HA.out (by simp [impl_checked.l0])
    | succ k1 =>
      have H := HA.out
      clear HA
      simp only [impl_checked.l0] at H
      by_cases c5 : x8_1 < (t105.length : Int)
      · rw [if_pos c5] at H
        have c5b0 : decide (x8_1 < (t105.length : Int)) = true := decide_eq_true c5
        clear c5
        by_cases c6 : 0 ≤ x8_1
        · rw [if_pos c6] at H
          have c6b0 : decide (0 ≤ x8_1) = true := decide_eq_true c6
          clear c6
          by_cases c7 : x8_1 < (t105.length : Int)
          · rw [if_pos c7] at H
            have c7b0 : decide (x8_1 < (t105.length : Int)) = true := decide_eq_true c7
            clear c7
            by_cases c8 : x8_1 < (a0.size : Int)
            · rw [if_pos c8] at H
              have c8b0 : decide (x8_1 < (a0.size : Int)) = true := decide_eq_true c8
              clear c8
              replace H := Option.bind_eq_some_iff.mp H
              obtain ⟨t109, A100, H⟩ := H
              replace H : (impl_checked.l0 k1 a0 (wrap64 (x3_1 + (wrap64 ((rd t105 x8_1) * t109)))) t105 (t105.length : Int) (wrap64 (x8_1 + 1))) = some r := H
              have A10 := Aside0.mk A100
              clear A100
              have H' := Aside0.mk H
              clear H
              have p108 : 0 ≤ (x8_1 : Int) := of_decide_eq_true (by first | (with_reducible assumption) | assumption)
              have q108 : x8_1 < (t105.length : Int) := of_decide_eq_true (by first | (with_reducible assumption) | assumption)
              obtain ⟨ad108, e108, hx108_0⟩ := Kd.at_int (Kd.R_reads' HO_6.out).2.2 x8_1 p108 q108
              cases e108
              replace p108 := eq_true p108
              replace q108 := eq_true q108
              have p9 : 0 ≤ (x8_1 : Int) := of_decide_eq_true (by first | (with_reducible assumption) | assumption)
              have q9 : x8_1 < (a0.size : Int) := of_decide_eq_true (by first | (with_reducible assumption) | assumption)
              have hx9 := bt_at a0 x8_1
              replace p9 := eq_true p9
              replace q9 := eq_true q9
              go_wp2_with (first | ((with_reducible refine gate_callee (f := 61) rfl ?_); refine goesL_ (some 18) rfl rfl Tryd.func61 (by kernel_rfl) rfl #[.int .u8 (bt a0 x8_1)] rfl (by (try simp only [List.map_toArray, List.map_cons, List.map_nil]); first | done | rfl | (simp only [List.length_drop, List.length_take]; rfl)) ?_; (with_reducible refine (impl_valueOf.calls (bt a0 x8_1) t109 _ A10.out).mono ?_); rintro e w' ⟨rfl, ⟨nd, rfl⟩⟩; refine ⟨_, rfl, ?_⟩))
              go_roundg k1
              case measure => have := HK1.out; omega
              case rel => exact ⟨(wrap64 (x3_1 + (wrap64 ((rd t105 x8_1) * t109)))), (wrap64 (x8_1 + 1)), (by first | rfl | (simp; done) | (simp [*]; done)), (by first | rfl | (simp; done) | (simp [*]; done)), H', ⟨by have := HK1.out; omega⟩, ⟨by (with_reducible repeat (first | apply Kd.R_alloc | apply Kd.R_drewN | apply Kd.R_drew)); exact HO_6.out⟩, ⟨by repeat (first | (with_reducible first | exact HB.out | apply below_alloc | apply pw_below_drewN | apply below_drew1) | exact HB.out)⟩⟩
            · rw [if_neg c8] at H
              exact absurd H (by simp)
          · rw [if_neg c7] at H
            exact absurd H (by simp)
        · rw [if_neg c6] at H
          exact absurd H (by simp)
      · rw [if_neg c5] at H
        have c5b0 : decide (x8_1 < (t105.length : Int)) = false := decide_eq_false c5
        clear c5
        replace H := Option.bind_eq_some_iff.mp H
        obtain ⟨t110, A110, H⟩ := H
        replace H : (if a0.size + t110.size ≤ 9223372036854775807 then (some (a0 ++ t110)) else (none)) = some r := H
        have A11 := Aside0.mk A110
        clear A110
        by_cases c12 : a0.size + t110.size ≤ 9223372036854775807
        · rw [if_pos c12] at H
          have c12b0 := eq_true c12
          have c12b1 : decide (a0.size + t110.size ≤ 9223372036854775807) = true := decide_eq_true c12
          try have c12b2 : (9223372036854775807 < a0.size + t110.size) = False := eq_false (Nat.not_lt.2 c12)
          obtain rfl := Option.some.inj H
          go_wp2_with (first | ((with_reducible refine gate_callee (f := 62) rfl ?_); refine goesL_ (some 25) rfl rfl Tryd.func62 (by kernel_rfl) rfl #[.int .i64 (Int.tmod x3_1 10)] rfl (by (try simp only [List.map_toArray, List.map_cons, List.map_nil]); first | done | rfl | (simp only [List.length_drop, List.length_take]; rfl)) ?_; (with_reducible refine (impl_dec_int.calls (Int.tmod x3_1 10) t110 _ A11.out).mono ?_); rintro e w13 ⟨rfl, hb⟩; refine ⟨_, rfl, ?_⟩; have n0_ := Aside0.mk (Kd.R_below (by (with_reducible repeat (first | apply Kd.R_alloc | apply Kd.R_drewN | apply Kd.R_drew)); exact HO_6.out) hb); have n1_ := Aside0.mk (below_step (by repeat (first | (with_reducible first | exact HB.out | apply below_alloc | apply pw_below_drewN | apply below_drew1) | exact HB.out)) hb); clear HO_6; clear HB; have HO_6 := n0_; have HB := n1_; clear n0_ n1_; (try clear hb); (try clear hb2); (try clear hk); (try clear hi)))
          go_ret
          exact ⟨by first | rfl | (simp [errW_none, errW_some] <;> rfl) | (simp [*, errW_none, errW_some] <;> rfl) | (simp [IntKind.wrap_i64, wrap64]; done), by repeat (first | (with_reducible first | exact HB.out | apply below_alloc | apply pw_below_drewN | apply below_drew1) | exact HB.out)⟩
        · rw [if_neg c12] at H
          exact absurd H (by simp)

/-! ### impl_dec_int16: function 63 -/
def impl_dec_int16.f (a0 : Int) : Option ByteArray := if 0 ≤ a0 then (if a0 ≤ 32767 then some (Go.Proofs.YtolhlackfphdcaaDoor.Base.decS a0) else none) else none
theorem impl_dec_int16.calls (a0 : Int) (r : ByteArray) (w : World) (ht_ : Go.Proofs.YtolhlackfphdcaaDoor.Tbl.Tb w) (h : impl_dec_int16.f a0 = some r) :
    Calls Tryd.prog 63 #[.int .i16 a0] w fun e w' => e = .returned (.string r) ∧ Below w.heap.size w w' := by
  unfold impl_dec_int16.f at h
  by_cases h0 : 0 ≤ a0
  · rw [if_pos h0] at h
    by_cases h1 : a0 ≤ 32767
    · rw [if_pos h1] at h
      obtain rfl := Option.some.inj h
      have HT := Aside0.mk ht_
      clear h ht_
      have hw : IntKind.i64.wrap a0 = a0 := by rw [IntKind.wrap_i64]; omega
      go_enter Tryd.func63, Tryd.ntmps63
      go_wp2_with (go_at_call 71; refine (Tryd.strconv_FormatInt_10 a0 (by omega) (by omega) _ HT.out.tab).mono ?_; rintro e w' ⟨rfl, q, os, rfl⟩)
      go_ret
      refine ⟨?_, ?_⟩
      · unfold Go.Proofs.YtolhlackfphdcaaDoor.Base.decS
        obtain ⟨n, rfl⟩ := Int.eq_ofNat_of_zero_le h0
        rw [Lib.itoa_nonneg, Int.toNat_natCast]
        rfl
      · exact Go.Proofs.YtolhlackfphdcaaDoor.Tbl.below_grow _ _ _
    · rw [if_neg h1] at h; cases h
  · rw [if_neg h0] at h; cases h

/-! ### strings_Repeat: function 64 -/
def strings_Repeat.f (a0 : ByteArray) (a1 : Int) : Option ByteArray := if 0 ≤ a1 then (if a1 ≤ 1000 then (if a0.size ≤ 1000 then some ⟨(Go.Lib.repeatL a0.data.toList a1.toNat).toArray⟩ else none) else none) else none
theorem strings_Repeat.calls (a0 : ByteArray) (a1 : Int) (r : ByteArray) (w : World) (h : strings_Repeat.f a0 a1 = some r) :
    Calls Tryd.prog 64 #[.string a0, .int .i64 a1] w fun e w' => e = .returned (.string r) ∧ Below w.heap.size w w' := by
  unfold strings_Repeat.f at h
  by_cases h0 : 0 ≤ a1
  · rw [if_pos h0] at h
    by_cases h1 : a1 ≤ 1000
    · rw [if_pos h1] at h
      by_cases h2 : a0.size ≤ 1000
      · rw [if_pos h2] at h
        obtain rfl := Option.some.inj h
        obtain ⟨n, rfl⟩ := Int.eq_ofNat_of_zero_le h0
        rw [Int.toNat_natCast]
        have hm : a0.size * n ≤ 1000 * 1000 := Nat.mul_le_mul h2 (by omega)
        exact Tryd.strings_Repeat a0 n w (by omega) (by omega)
      · rw [if_neg h2] at h; cases h
    · rw [if_neg h1] at h; cases h
  · rw [if_neg h0] at h; cases h

/-! ### impl_padded: function 47 -/
def impl_padded.f (a0 : Int) (a1 : Int) : Option (ByteArray) := (impl_dec_int16.f a0).bind fun t111 => ((strings_Repeat.f (⟨#[48]⟩ : ByteArray) (wrap64 (a1 - (t111.size : Int)))).bind fun t112 => (if t112.size + t111.size ≤ 9223372036854775807 then (some (t112 ++ t111)) else (none)))
set_option maxHeartbeats 8000000 in
set_option maxRecDepth 100000 in
theorem impl_padded.calls (a0 : Int) (a1 : Int) (r : ByteArray) (w : World) (ht_ : Go.Proofs.YtolhlackfphdcaaDoor.Tbl.Tb w) (h : impl_padded.f a0 a1 = some r) :
    Calls Tryd.prog 47 #[.int .i16 a0, .int .i64 a1] w fun e w' => e = .returned (.string r) ∧ Below w.heap.size w w' := by
  have HTB_ := Aside0.mk ht_
  clear ht_
  have HB := Aside0.mk (Below.refl w.heap.size w)
  have H : ((impl_dec_int16.f a0).bind fun t111 => ((strings_Repeat.f (⟨#[48]⟩ : ByteArray) (wrap64 (a1 - (t111.size : Int)))).bind fun t112 => (if t112.size + t111.size ≤ 9223372036854775807 then (some (t112 ++ t111)) else (none)))) = some r := h
  clear h
  replace H := Option.bind_eq_some_iff.mp H
  obtain ⟨t111, A30, H⟩ := H
  replace H : ((strings_Repeat.f (⟨#[48]⟩ : ByteArray) (wrap64 (a1 - (t111.size : Int)))).bind fun t112 => (if t112.size + t111.size ≤ 9223372036854775807 then (some (t112 ++ t111)) else (none))) = some r := H
  have A3 := Aside0.mk A30
  clear A30
  replace H := Option.bind_eq_some_iff.mp H
  obtain ⟨t112, A40, H⟩ := H
  replace H : (if t112.size + t111.size ≤ 9223372036854775807 then (some (t112 ++ t111)) else (none)) = some r := H
  have A4 := Aside0.mk A40
  clear A40
  by_cases c5 : t112.size + t111.size ≤ 9223372036854775807
  · rw [if_pos c5] at H
    have c5b0 := eq_true c5
    have c5b1 : decide (t112.size + t111.size ≤ 9223372036854775807) = true := decide_eq_true c5
    try have c5b2 : (9223372036854775807 < t112.size + t111.size) = False := eq_false (Nat.not_lt.2 c5)
    obtain rfl := Option.some.inj H
    go_enter Tryd.func47, Tryd.ntmps47
    go_wp2_with (first | ((with_reducible refine gate_callee (f := 63) rfl ?_); refine goesL_ (some 7) rfl rfl Tryd.func63 (by kernel_rfl) rfl #[.int .i16 a0] rfl (by (try simp only [List.map_toArray, List.map_cons, List.map_nil]); first | done | rfl | (simp only [List.length_drop, List.length_take]; rfl)) ?_; (with_reducible refine (impl_dec_int16.calls a0 t111 _ ?side1 A3.out).mono ?_); (case side1 => exact HTB_.out.later (by repeat (first | (with_reducible first | exact HB.out | apply below_alloc | apply pw_below_drewN | apply below_drew1) | exact HB.out))); rintro e w6 ⟨rfl, hb⟩; refine ⟨_, rfl, ?_⟩; have n0_ := Aside0.mk (below_step (by repeat (first | (with_reducible first | exact HB.out | apply below_alloc | apply pw_below_drewN | apply below_drew1) | exact HB.out)) hb); clear HB; have HB := n0_; clear n0_; (try clear hb); (try clear hb2); (try clear hk); (try clear hi)) | ((with_reducible refine gate_callee (f := 64) rfl ?_); refine goesL_ (some 12) rfl rfl Tryd.func64 (by kernel_rfl) rfl #[.string (⟨#[48]⟩ : ByteArray), .int .i64 (wrap64 (a1 - (t111.size : Int)))] rfl (by (try simp only [List.map_toArray, List.map_cons, List.map_nil]); first | done | rfl | (simp only [List.length_drop, List.length_take]; rfl)) ?_; (with_reducible refine (strings_Repeat.calls (⟨#[48]⟩ : ByteArray) (wrap64 (a1 - (t111.size : Int))) t112 _ A4.out).mono ?_); rintro e w7 ⟨rfl, hb⟩; refine ⟨_, rfl, ?_⟩; have n0_ := Aside0.mk (below_step (by repeat (first | (with_reducible first | exact HB.out | apply below_alloc | apply pw_below_drewN | apply below_drew1) | exact HB.out)) hb); clear HB; have HB := n0_; clear n0_; (try clear hb); (try clear hb2); (try clear hk); (try clear hi)))
    go_ret
    exact ⟨by first | rfl | (simp [errW_none, errW_some] <;> rfl) | (simp [*, errW_none, errW_some] <;> rfl) | (simp [IntKind.wrap_i64, wrap64]; done), by repeat (first | (with_reducible first | exact HB.out | apply below_alloc | apply pw_below_drewN | apply below_drew1) | exact HB.out)⟩
  · rw [if_neg c5] at H
    exact absurd H (by simp)

/-! ### impl_labelOf: function 30 -/
def impl_labelOf.f (a0_0 a0_1 a0_2 a0_3 a0_4 a0_5 a0_6 a0_7 : Int) : Option ByteArray :=
  (impl_padded.f a0_0 3).bind fun t1 => (impl_padded.f a0_4 2).bind fun t2 =>
    if t1.size = 3 then (if t2.size = 2 then impl_checked.f 12 (t1 ++ strOfNums [a0_1, a0_2, a0_3] ++ t2) else none) else none
set_option maxHeartbeats 8000000 in
set_option maxRecDepth 100000 in
theorem impl_labelOf.calls (a0_0 a0_1 a0_2 a0_3 a0_4 a0_5 a0_6 a0_7 : Int) (r : ByteArray) (w : World) (ht_ : Go.Proofs.YtolhlackfphdcaaDoor.Tbl.Tb w) (h : impl_labelOf.f a0_0 a0_1 a0_2 a0_3 a0_4 a0_5 a0_6 a0_7 = some r) :
    Calls Tryd.prog 30 #[.agg #[.int .i16 a0_0, .int .u8 a0_1, .int .u8 a0_2, .int .u8 a0_3, .int .i16 a0_4, .int .i16 a0_5, .int .i16 a0_6, .int .i16 a0_7]] w fun e w' => e = .returned (.string r) ∧ Below w.heap.size w w' := by
  unfold impl_labelOf.f at h
  obtain ⟨t1, d1, h⟩ := Option.bind_eq_some_iff.mp h
  obtain ⟨t2, d2, h⟩ := Option.bind_eq_some_iff.mp h
  by_cases s1 : t1.size = 3
  · rw [if_pos s1] at h
    by_cases s2 : t2.size = 2
    · rw [if_pos s2] at h
      have HT := Aside0.mk ht_
      have D1 := Aside0.mk d1
      have D2 := Aside0.mk d2
      have HK := Aside0.mk h
      have s3 : (strOfNums [a0_1, a0_2, a0_3]).size = 3 := rfl
      have z1 : (t1 ++ strOfNums [a0_1, a0_2, a0_3]).size = 6 := by rw [ByteArray.size_append, s1, s3]
      have z2 : (t1 ++ strOfNums [a0_1, a0_2, a0_3] ++ t2).size = 8 := by rw [ByteArray.size_append, z1, s2]
      clear ht_ h d1 d2
      go_enter Tryd.func30, Tryd.ntmps30
      go_upto_region 1 with fail
      go_region_held3 (fun w' => (w'.cell? ⟨w.heap.size, 0, none⟩ = some (.int .i16 a0_0) ∧ w'.cell? ⟨w.heap.size, 1, none⟩ = some (.int .u8 a0_1) ∧ w'.cell? ⟨w.heap.size, 2, none⟩ = some (.int .u8 a0_2) ∧ w'.cell? ⟨w.heap.size, 3, none⟩ = some (.int .u8 a0_3) ∧ w'.cell? ⟨w.heap.size, 4, none⟩ = some (.int .i16 a0_4) ∧ (convert 29 9 (.slice (some ⟨w.heap.size, 1, none⟩) 3 3)).run Tryd.prog w' = .ok (.string (strOfNums [a0_1, a0_2, a0_3])) w') ∧ Below w.heap.size w w')
        (first | exact ⟨⟨by simp, by simp, by simp, by simp, by simp, Go.Proofs.YtolhlackfphdcaaDoor.Conv.conv3 _ w.heap.size 1 _ _ _ (by simp) (by simp) (by simp)⟩, by repeat (first | exact Below.refl _ _ | apply below_alloc | apply below_drew1)⟩ | (go_split_ands; refine ⟨⟨pw_cell_below hb2 ?_, pw_cell_below hb2 ?_, pw_cell_below hb2 ?_, pw_cell_below hb2 ?_, pw_cell_below hb2 ?_, Go.Proofs.YtolhlackfphdcaaDoor.Conv.conv3 _ w.heap.size 1 _ _ _ (pw_cell_below hb2 ?_) (pw_cell_below hb2 ?_) (pw_cell_below hb2 ?_)⟩, below_step ?_ hb2⟩ <;> assumption) | (go_split_ands; refine ⟨⟨?_, ?_, ?_, ?_, ?_, ?_⟩, ?_⟩ <;> assumption))
        (first | (go_at_call 47; go_split_ands; first | ((with_reducible refine (impl_padded.calls a0_0 3 t1 _ (HT.out.later (by assumption)) D1.out).mono ?_); rintro e w' ⟨rfl, hb2⟩) | ((with_reducible refine (impl_padded.calls a0_4 2 t2 _ (HT.out.later (by assumption)) D2.out).mono ?_); rintro e w' ⟨rfl, hb2⟩)) | (go_at_call 46; go_split_ands; (with_reducible refine (impl_checked.calls 12 (t1 ++ strOfNums [a0_1, a0_2, a0_3] ++ t2) r _ (HT.out.later (by assumption)) HK.out).mono ?_); rintro e w' ⟨rfl, hb2⟩))
      go_wp2
      go_ret
      go_split_ands
      exact ⟨rfl, by assumption⟩
    · rw [if_neg s2] at h; cases h
  · rw [if_neg s1] at h; cases h

end Go.Proofs.YtolhlackfphdcaaDoor.PNea
