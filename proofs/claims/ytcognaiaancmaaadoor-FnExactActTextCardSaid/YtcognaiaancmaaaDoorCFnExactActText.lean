/- The program's ActText answers as the reference's, for every act; the argument reads as it did. Condition: the listed tables hold what the program's text lays (tied). -/
import Derived.Test.YtcognaiaancmaaaDoorCards
import Derived.Test.YtcognaiaancmaaaDoorTie
import Derived.WalkKit
import Derived.ProofKit
import Derived.OpenShut
import Derived.ShutString
import Derived.ChangeOld
import Derived.Below
import Derived.SizedLaws
import Derived.LaidMore
import Derived.Deep.DeepHandedRow
import Derived.Lib.LaidTab
import Derived.Lib.SmallJoins
import Derived.Test.YtcognaiaancmaaaDoorPActTextx
namespace Go.Proofs.YtcognaiaancmaaaDoor.fnExactActText
open Go.ChangeShapes Go.WideShapes Go.ChangeAt Go.RowKit Go.Joins
open Go.ChangeMaps (open_string shut_string)
set_option linter.unusedVariables false
set_option linter.unusedSimpArgs false
theorem own : ownKnob Tryd.prog.godebug = none := by kernel_rfl
theorem laidOut : laidOutB Tryd.prog = true := by kernel_rfl
theorem cells24 : Tryd.prog.cellsOf 24 = 3 := by kernel_rfl
open Go.Proofs.YtcognaiaancmaaaDoor.PActText Go.Proofs.YtcognaiaancmaaaDoor.Base in
theorem spec_is (a b c : Int) (ha : -128 ≤ a ∧ a ≤ 127) (hb : -128 ≤ b ∧ b ≤ 127) (hc : -128 ≤ c ∧ c ≤ 127) : spec_l06Act.f a b c = some (actB a b c) := by
  have wa : wrap64 a = a := by unfold wrap64; omega
  have wb : wrap64 b = b := by unfold wrap64; omega
  have wc : wrap64 c = c := by unfold wrap64; omega
  unfold spec_l06Act.f spec_l06Person.f spec_l00In.f actB
  rw [wa, wb, wc]
  by_cases h5 : a = 5 <;> by_cases hb0 : b = 0 <;> by_cases a0 : 0 ≤ a <;> by_cases a4 : a ≤ 4 <;> by_cases b0 : 0 ≤ b <;> by_cases b4 : b ≤ 49 <;> by_cases c0 : 0 ≤ c
  all_goals first | (exfalso; omega) | (simp [h5, hb0, a0, a4, b0, b4, c0, ge_iff_le]; done) | (simp [h5, hb0, a0, a4, b0, b4, c0, ge_iff_le]; rfl)
open Go.Proofs.YtcognaiaancmaaaDoor.PActText Go.Proofs.YtcognaiaancmaaaDoor.Base in
theorem impl_is (a b c : Int) (ha : -128 ≤ a ∧ a ≤ 127) (hb : -128 ≤ b ∧ b ≤ 127) (hc : -128 ≤ c ∧ c ≤ 127) : impl_isAct.f a b c = some (actB a b c) := by
  have wb : wrap64 b = b := by unfold wrap64; omega
  unfold impl_isAct.f impl_isPerson_int8.f impl_within_int8.f impl_within_int64.f actB
  rw [wb]
  by_cases h5 : a = 5 <;> by_cases hb0 : b = 0 <;> by_cases a0 : 0 ≤ a <;> by_cases a4 : a ≤ 4 <;> by_cases a5 : a ≤ 5 <;> by_cases b0 : 0 ≤ b <;> by_cases b4 : b ≤ 49 <;> by_cases c0 : 0 ≤ c
  all_goals first | (exfalso; omega) | (simp [h5, hb0, a0, a4, a5, b0, b4, c0]; done) | (simp [h5, hb0, a0, a4, a5, b0, b4, c0]; rfl)
open Go.Proofs.YtcognaiaancmaaaDoor.PActText Go.Proofs.YtcognaiaancmaaaDoor.Base in
theorem pure (a b c : Int) (ha : -128 ≤ a ∧ a ≤ 127) (hb : -128 ≤ b ∧ b ≤ 127) (hc : -128 ≤ c ∧ c ≤ 127) : laws_FnExactActText.f a b c = some true := by
  unfold laws_FnExactActText.f laws_toAct.f spec_ActText.f impl_ActText.f
  simp only [Option.bind_some]
  rw [spec_is a b c ha hb hc, impl_is a b c ha hb hc]
  simp only [Option.bind_some]
  by_cases h : actB a b c = true
  · obtain ⟨t, ht⟩ := textOf_some h
    simp only [h, if_true, spec_l06Text.f, impl_actText.f, ht, Option.bind_some]
  · simp only [h, if_false, Option.bind_some, if_true, Bool.false_eq_true]
set_option maxRecDepth 100000 in
/-- What holds of whatever the call is handed: it returns true, and what was there stands as it was. -/
theorem contract (H : Type) (enc : TypeId × Value → H) (W : World) (base : Nat) (args : Array Value) (ds gs : List (DataW H)) (before : List MemPlace)
    (hval : ∀ (j : Nat) t v, Tryd.f3.params[j]? = some t → args[j]? = some v → Value.okWide Tryd.prog W .any base t v)
    (hW : DataW.Whole enc Tryd.prog Tryd.f3.params.toList Rows.fnExactActTextSpec.vars false W args.toList ds gs before)
    (hsz : (DataW.weightsEach Tryd.prog (Tryd.f3.params.toList ++ (OpenSpec.ofChange Rows.fnExactActTextSpec).bare.plain.varTypes Tryd.prog) (ds ++ gs)).all (· ≤ reachBytes) = true)
    (hL : laidMetH Tryd.prog Rows.fnExactActTextRow.laid W) (hS : W.ShapedOpen Tryd.prog) :
    Calls Tryd.prog 3 args W fun e W' => ∃ v, e = .returned v ∧ Rows.fnExactActTextSpec.post enc Tryd.prog Tryd.f3 false true false false W args v W' := by
  have hW' := hW
  obtain ⟨p, q, hA0, hV, rfl, hfz, hnd⟩ := hW
  have hA : DataW.TrodAll enc Tryd.prog W 0 (fun _ => true) true Tryd.f3.params.toList args.toList ds p := hA0
  rw [Tryd.params3] at hA hval hsz
  obtain ⟨v0, vs0, d0, ds0, p0, q0, hargs, rfl, rfl, h0, r0⟩ := trodAll_cons hA
  obtain ⟨rfl, rfl, rfl⟩ := trodAll_nil r0
  obtain rfl : args = #[v0] := by cases args; simp_all
  obtain ⟨rfl, rfl⟩ := trodVars_none hV
  have k0 := h0
  have lt0 : ∀ x ∈ p0, x.block < W.heap.size := by obtain ⟨m, hm⟩ := k0; exact DataW.trod_lt m _ _ _ hm
  clear hA0
  have walk : Calls Tryd.prog 3 #[v0] W fun e w' => e = .returned (.bool true) ∧ Below W.heap.size W w' := by
    obtain ⟨c0, c1, c2, y0, y1, y2, m, rfl, rfl, rfl, e0, e1, e2⟩ := open_agg3 Tryd.underlying24 (by kernel_rfl) cells24 (hval 0 24 v0 rfl rfl) h0
    obtain ⟨a, z0, rfl, wa⟩ := DataW.trod_int Tryd.underlying22 e0
    obtain ⟨b, z1, rfl, wb⟩ := DataW.trod_int Tryd.underlying22 e1
    obtain ⟨c, z2, rfl, wc⟩ := DataW.trod_int Tryd.underlying22 e2
    simp at z0 z1 z2
    subst z0 z1 z2
    exact Go.Proofs.YtcognaiaancmaaaDoor.PActText.laws_FnExactActText.calls a b c true W (pure a b c (bounds_i8 wa) (bounds_i8 wb) (bounds_i8 wc))
  refine walk.mono fun e W' ⟨he, bel⟩ => ?_
  subst he
  exact ⟨_, rfl, _, _, _, [], _, [], hW', trodAll_mk1 (shut_bool Tryd.underlying4 _), (trodAll_cons_mk (Below.trod laidOut (by kernel_rfl) (of_decide_eq_true (by kernel_rfl)) k0 bel lt0) trodAll_mk0), rfl, bel.frame _, fun h => by cases h⟩
noncomputable def laidWorld (os : Os) : World := World.doorLaid Tryd.prog 400 os
theorem laid_met (os : Os) : laidMet Tryd.prog Rows.fnExactActTextRow.laid ((laidWorld os).forCall (fun _ _ => 0) ⟨#[], #[.agg #[.int .i8 0, .int .i8 0, .int .i8 0]], []⟩).memory :=
  laidMet_of_run' 8 (by kernel_rfl) (by kernel_rfl)
theorem reads (os : Os) {H : Type} (enc : TypeId × Value → H) : ∃ places, DataW.whole enc Tryd.prog ((laidWorld os).forCall (fun _ _ => 0) ⟨#[], #[.agg #[.int .i8 0, .int .i8 0, .int .i8 0]], []⟩).memory Tryd.f3.params.toList Rows.fnExactActTextSpec.vars false #[.agg #[.int .i8 0, .int .i8 0, .int .i8 0]].toList 8 = some ([.agg [.lit (.int .i8 0), .lit (.int .i8 0), .lit (.int .i8 0)]], [], places) :=
  ⟨[], by kernel_rfl⟩
set_option maxRecDepth 100000 in
theorem lifted (os : Os) (started : os.Started) (H : Type) (enc : TypeId × Value → H) (F : Stop.Interp) :
    ReturnsInHanded {} Tryd.checked os 3 .any ((OpenSpec.ofChange Rows.fnExactActTextSpec).preRow enc Tryd.prog Tryd.f3 Rows.fnExactActTextRow.domain false Rows.fnExactActTextRow.laid) (((OpenSpec.ofChange Rows.fnExactActTextSpec).at F).post enc Tryd.prog Tryd.f3 false true false false) := by
  obtain ⟨places, hx⟩ := reads os enc
  refine returnsInHanded_of_row (C := Tryd.checked) (s := OpenSpec.ofChange Rows.fnExactActTextSpec) own started (by kernel_rfl) Tryd.func3
    (witness_row_at (enc := enc) (C := Tryd.checked) false (laidWorld os) #[.agg #[.int .i8 0, .int .i8 0, .int .i8 0]] rfl (by kernel_rfl) (by kernel_rfl) (by kernel_rfl)
      (OpenSpec.preRow_of_cond 8 hx (by kernel_rfl) (fun k hk => by cases hk) (by kernel_rfl) (laid_met os))) ?_
  intro W base args ds gs before hval hW _ hcond hsz hL hS _
  exact contract H enc W base args ds gs before hval hW hsz hL hS
theorem said : Rows.FnExactActTextSaid :=
  OpenClaim.holds_of_cond 3 Tryd.f3 rfl rfl rfl rfl rfl rfl rfl ⟨rfl, rfl, rfl, rfl, rfl⟩ rfl rfl rfl rfl rfl (by kernel_rfl) Tryd.func3 (by kernel_rfl)
    (of_decide_eq_true (by kernel_rfl)) (by unfold Func.isWrapper; first | (rw [if_pos (by decide +kernel)]; kernel_rfl) | (rw [if_neg (by decide +kernel)]; exact ⟨rfl, rfl⟩))
    (fun os started H enc _ F => by rw [OpenClaim.pre_eq_preRow]; exact lifted os started H enc F)
theorem plain (f : FuncId) (fn : Func) (hf : Tryd.pinned.checked.prog.funcNamed Rows.fnExactActTextRow.func = some f) (hfn : Tryd.pinned.checked.prog.funcs[f]? = some fn) :
    false = Tryd.pinned.checked.prog.looks [] ∧ ∀ (j : Nat) t, fn.params[j]? = some t → Tryd.pinned.checked.prog.wantsStandIn t = false := by
  obtain rfl : f = 3 := Option.some.inj ((show Tryd.prog.funcNamed Rows.fnExactActTextRow.func = some 3 by kernel_rfl).symm.trans hf) |>.symm
  obtain rfl : fn = Tryd.f3 := (Option.some.inj (Tryd.func3.symm.trans hfn)).symm
  refine ⟨by kernel_rfl, fun j t ht => ?_⟩
  rw [Tryd.params3] at ht
  have hm : t ∈ [24] := by simpa using Array.mem_of_getElem? ht
  have hall : ([24].all fun u => !Tryd.prog.wantsStandIn u) = true := by kernel_rfl
  exact (show Tryd.prog.wantsStandIn t = false by simpa using List.all_eq_true.1 hall t hm)
theorem proved : Rows.FnExactActTextCardSaid :=
  Claim7.holds_tied_plain_at .later [] _ _ _ _ said (fun _ h => by cases h) (by kernel_rfl) (fun _ h => by cases h) fnExactActText_row_tie rfl ⟨rfl, rfl⟩ (by kernel_rfl) rfl plain (by kernel_rfl)
#print axioms proved
end Go.Proofs.YtcognaiaancmaaaDoor.fnExactActText
