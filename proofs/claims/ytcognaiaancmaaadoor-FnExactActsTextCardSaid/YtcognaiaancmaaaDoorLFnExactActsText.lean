/- The program's ActsText answers as the reference's, for every list of acts; the argument reads as it did. Condition: the listed tables hold what the program's text lays (tied). The part without the card: what comes in is readable, and the printed law is true of it. -/
import Derived.Test.YtcognaiaancmaaaDoorPActsTextx
import Derived.Test.YtcognaiaancmaaaDoorOpen
import Derived.Test.YtcognaiaancmaaaDoorLoop
import Derived.ProofKit
import Derived.OpenShut
namespace Go.Proofs.YtcognaiaancmaaaDoor.fnExactActsText
open Go.ChangeShapes Go.WideShapes Go.ChangeAt Go.RowKit
set_option linter.unusedVariables false
set_option linter.unusedSimpArgs false
open Go.Proofs.YtcognaiaancmaaaDoor.PActsText Go.Proofs.YtcognaiaancmaaaDoor.Base Go.Proofs.YtcognaiaancmaaaDoor.Gen Go.Proofs.YtcognaiaancmaaaDoor.Loop Go.Proofs.YtcognaiaancmaaaDoor.Open
open Go.Proofs.YtcognaiaancmaaaDoorW.PrintWords Go.Proofs.YtcognaiaancmaaaDoorW.PrintLast Go.Proofs.YtcognaiaancmaaaDoorW.PrintMore
def okA (x : S24) : Prop := (-128 ≤ x.f0 ∧ x.f0 ≤ 127) ∧ (-128 ≤ x.f1 ∧ x.f1 ≤ 127) ∧ (-128 ≤ x.f2 ∧ x.f2 ≤ 127)
theorem cellsA : Tryd.prog.cellsOf 24 = 3 := by kernel_rfl
set_option maxRecDepth 100000 in
theorem opensA : Opens Tryd.prog 24 k24 okA := by
  intro H enc w base spare held fuel cs x h
  obtain ⟨xs, n, rfl, rfl, hl, hx, hf⟩ := DataW.trod_struct Tryd.underlying24 h
  rw [cellsA] at hl
  obtain ⟨c0, c1, c2, rfl⟩ : ∃ c0 c1 c2, cs = [c0, c1, c2] := by
    match cs, hl with
    | [c0, c1, c2], _ => exact ⟨c0, c1, c2, rfl⟩
  obtain ⟨x0, x1, x2, rfl⟩ : ∃ x0 x1 x2, xs = [x0, x1, x2] := by
    match xs, hx with
    | [x0, x1, x2], _ => exact ⟨x0, x1, x2, rfl⟩
  obtain ⟨y0, k0, o0⟩ := opens_int Tryd.underlying22 enc w base spare held n [c0] x0 (hf 0 _ rfl)
  obtain ⟨y1, k1, o1⟩ := opens_int Tryd.underlying22 enc w base spare held n [c1] x1 (hf 1 _ rfl)
  obtain ⟨y2, k2, o2⟩ := opens_int Tryd.underlying22 enc w base spare held n [c2] x2 (hf 2 _ rfl)
  exact ⟨⟨y0, y1, y2⟩, ⟨[c0], [c1, c2], rfl, k0, [c1], [c2], rfl, k1, k2⟩, bounds_i8 o0, bounds_i8 o1, bounds_i8 o2⟩
set_option maxRecDepth 100000 in
theorem spec_is (a b c : Int) (ha : -128 ≤ a ∧ a ≤ 127) (hb : -128 ≤ b ∧ b ≤ 127) (hc : -128 ≤ c ∧ c ≤ 127) : spec_l06Act.f a b c = some (actB a b c) := by
  have wa : wrap64 a = a := by unfold wrap64; omega
  have wb : wrap64 b = b := by unfold wrap64; omega
  have wc : wrap64 c = c := by unfold wrap64; omega
  unfold spec_l06Act.f spec_l06Person.f spec_l00In.f actB
  rw [wa, wb, wc]
  by_cases h5 : a = 5 <;> by_cases hb0 : b = 0 <;> by_cases a0 : 0 ≤ a <;> by_cases a4 : a ≤ 4 <;> by_cases b0 : 0 ≤ b <;> by_cases b4 : b ≤ 49 <;> by_cases c0 : 0 ≤ c
  all_goals first | (exfalso; omega) | (simp [h5, hb0, a0, a4, b0, b4, c0, ge_iff_le]; done) | (simp [h5, hb0, a0, a4, b0, b4, c0, ge_iff_le]; rfl)
theorem impl_is (a b c : Int) (ha : -128 ≤ a ∧ a ≤ 127) (hb : -128 ≤ b ∧ b ≤ 127) (hc : -128 ≤ c ∧ c ≤ 127) : impl_isAct.f a b c = some (actB a b c) := by
  have wb : wrap64 b = b := by unfold wrap64; omega
  unfold impl_isAct.f impl_isPerson_int8.f impl_within_int8.f impl_within_int64.f actB
  rw [wb]
  by_cases h5 : a = 5 <;> by_cases hb0 : b = 0 <;> by_cases a0 : 0 ≤ a <;> by_cases a4 : a ≤ 4 <;> by_cases a5 : a ≤ 5 <;> by_cases b0 : 0 ≤ b <;> by_cases b4 : b ≤ 49 <;> by_cases c0 : 0 ≤ c
  all_goals first | (exfalso; omega) | (simp [h5, hb0, a0, a4, a5, b0, b4, c0]; done) | (simp [h5, hb0, a0, a4, a5, b0, b4, c0]; rfl)
def cv (x : S24) : S26 := ⟨x.f0, x.f1, x.f2⟩
def okB (x : S26) : Prop := (-128 ≤ x.f0 ∧ x.f0 ≤ 127) ∧ (-128 ≤ x.f1 ∧ x.f1 ≤ 127) ∧ (-128 ≤ x.f2 ∧ x.f2 ≤ 127)
def isB (x : S26) : Bool := actB x.f0 x.f1 x.f2
def txt (x : S26) : ByteArray := (textOf x.f0 x.f1 x.f2).getD ByteArray.empty
theorem txt_some {x : S26} (h : isB x = true) : textOf x.f0 x.f1 x.f2 = some (txt x) ∧ (txt x).size ≤ 14 := by
  obtain ⟨t, ht⟩ := textOf_some h
  have e : txt x = t := by unfold txt; rw [ht]; rfl
  refine ⟨by rw [ht, e], ?_⟩
  rw [e]
  have hb := of_decide_eq_true (show decide _ = true from h)
  unfold textOf at ht
  by_cases h5 : x.f0 = 5
  · rw [if_pos h5] at ht
    cases ht
    decide
  · rw [if_neg h5, if_pos (by omega)] at ht
    cases ht
    have s1 := wordOf_size (a := x.f0) (by omega) (by omega)
    have s2 := decS_size 1 x.f1 (by omega) (by omega)
    have s3 := decS_size 1 x.f2 (by omega) (by omega)
    have z : (⟨#[32]⟩ : ByteArray).size = 1 := rfl
    simp only [ByteArray.size_append, z]
    omega
theorem to_list (l : List S24) (hl : l.length ≤ 1048576) (k : Nat) (hk : l.length < k) : laws_toActS.f k l = some (l.map cv) := by
  unfold laws_toActS.f
  rw [if_pos (by omega), if_pos (by omega), Int.toNat_natCast]
  rw [copy_loop (fun k s i => laws_toActS.l0 k l s i) l (fun x => some (cv x)) z26 ?_ ?_ k hk, mapO_of (q := cv) (fun _ _ => rfl)]
  · intro k s i x hx hi
    have hlt := lt_of_some hx
    show laws_toActS.l0 (k + 1) l s i = _
    simp only [laws_toActS.l0]
    rw [if_pos (by omega), if_pos (by omega)]
    simp only [laws_toAct.f, Option.bind_some]
    rw [if_pos (by omega), wrap_succ hlt (by omega)]
    simp only [rd_T24, Int.toNat_natCast, getD_nat hx, cv]
  · intro k s
    show laws_toActS.l0 (k + 1) l s _ = _
    simp only [laws_toActS.l0]
    rw [if_neg (by omega)]
theorem spec_list (l : List S26) (hl : l.length ≤ 200) (h : ∀ x ∈ l, isB x = true) (k : Nat) (hk : l.length < k) : spec_l06ListText.f k l = some (l.foldl (fun a x => a ++ (txt x ++ ⟨#[10]⟩)) ByteArray.empty) := by
  unfold spec_l06ListText.f
  have key : ∀ (d i k : Nat) (acc : ByteArray), i + d = l.length → d < k → acc.size ≤ i * 15 → spec_l06ListText.l0 k l acc i = some ((l.drop i).foldl (fun a x => a ++ (txt x ++ ⟨#[10]⟩)) acc) := by
    intro d
    induction d with
    | zero =>
      intro i k acc hi hk hs
      obtain ⟨k, rfl⟩ : ∃ m, k = m + 1 := ⟨k - 1, by omega⟩
      obtain rfl : i = l.length := by omega
      simp only [spec_l06ListText.l0]
      rw [if_neg (by omega), List.drop_length]
      rfl
    | succ d ih =>
      intro i k acc hi hk hs
      obtain ⟨k, rfl⟩ : ∃ m, k = m + 1 := ⟨k - 1, by omega⟩
      have hlt : i < l.length := by omega
      have hx : l[i]? = some l[i] := List.getElem?_eq_getElem hlt
      have ht := txt_some (h _ (List.mem_of_getElem? hx))
      have z : (⟨#[10]⟩ : ByteArray).size = 1 := rfl
      simp only [spec_l06ListText.l0]
      rw [if_pos (by omega), if_pos (by omega)]
      simp only [spec_l06Text.f, rd_T26, getD_some hx, ht.1, Option.bind_some]
      rw [if_pos (by omega), if_pos (by simp only [ByteArray.size_append, z]; omega), wrap_succ hlt (by omega), ih (i + 1) k _ (by omega) (by omega) (by simp only [ByteArray.size_append, z]; omega), List.drop_eq_getElem_cons hlt]
      rfl
  exact key l.length 0 k ByteArray.empty (by omega) hk (Nat.zero_le _)
def lns (l : List S26) : ByteArray := l.foldl (fun a x => a ++ (txt x ++ ⟨#[10]⟩)) ByteArray.empty
theorem spec_acts (l : List S26) (hl : l.length ≤ 1048576) (h : ∀ x ∈ l, okB x) (k : Nat) (hk : 2 * l.length + 2 < k) :
    spec_ActsText.f k l = some (if l.all isB = true then (if l.length ≤ 200 then lns l else ⟨#[]⟩) else ⟨#[]⟩) := by
  unfold spec_ActsText.f
  rw [loop_all (l.length + 1) (fun k i => spec_ActsText.l0 k l i) l isB (some ⟨#[]⟩) (some (if l.length ≤ 200 then lns l else ⟨#[]⟩)) ?_ ?_ k (by omega)]
  · split <;> simp [*]
  · intro k i x hk hx
    have hlt := lt_of_some hx
    obtain ⟨o1, o2, o3⟩ := h _ (List.mem_of_getElem? hx)
    show spec_ActsText.l0 (k + 1) l i = _
    simp only [spec_ActsText.l0]
    rw [if_pos (by omega), if_pos (by omega), wrap_succ hlt (by omega)]
    simp only [rd_T26, getD_some hx, spec_is _ _ _ o1 o2 o3, Option.bind_some, isB]
    split <;> rename_i hq <;> simp [hq]
  · intro ha k hk
    show spec_ActsText.l0 (k + 1) l _ = _
    simp only [spec_ActsText.l0]
    rw [if_neg (by omega)]
    by_cases h2 : l.length ≤ 200
    · rw [if_neg (by omega), if_pos h2, spec_list l h2 (fun x hx => List.all_eq_true.1 ha x hx) k (by omega)]
      rfl
    · rw [if_pos (by omega), if_neg h2]
theorem impl_acts (l : List S26) (hl : l.length ≤ 1048576) (h : ∀ x ∈ l, okB x) :
    impl_ActsText.f l = some (if l.all isB = true then (if l.length ≤ 200 then lns l else ⟨#[]⟩) else ⟨#[]⟩) := by
  unfold impl_ActsText.f impl_areAll_Act.f
  rw [allO_of (q := isB) (fun x hx => by obtain ⟨o1, o2, o3⟩ := h x hx; exact impl_is _ _ _ o1 o2 o3)]
  by_cases h2 : l.length ≤ 200
  · rw [if_neg (by omega), if_pos h2]
    simp only [Option.bind_some]
    by_cases ha : l.all isB = true
    · rw [if_pos ha, if_pos ha]
      unfold impl_linesText_Act.f
      have e := fun x (hx : x ∈ l) => txt_some (List.all_eq_true.1 ha x hx)
      rw [linesAcc_of (f := fun x_ : S26 => impl_actText.f x_.f0 x_.f1 x_.f2) (q := txt) 14 l ByteArray.empty e (by show 0 + _ ≤ _; omega)]
      rfl
    · rw [if_neg ha, if_neg ha]
  · rw [if_pos (by omega), if_neg h2]
    split <;> rfl
theorem eq_self (l : List S26) (hl : l.length ≤ 1048576) (k : Nat) (hk : l.length < k) : laws_eqActS.f k l l = some true := by
  unfold laws_eqActS.f
  rw [if_pos rfl, loop_all 0 (fun k i => laws_eqActS.l0 k l l i) l (fun _ => true) none (some true) ?_ ?_ k (by omega)]
  · simp
  · intro k i x hk hx
    have hlt := lt_of_some hx
    show laws_eqActS.l0 (k + 1) l l i = _
    simp only [laws_eqActS.l0]
    rw [if_pos (by omega), if_pos (by omega), if_pos (by omega), wrap_succ hlt (by omega)]
    simp [laws_eqAct.f]
  · intro _ k _
    show laws_eqActS.l0 (k + 1) l l _ = _
    simp only [laws_eqActS.l0]
    rw [if_neg (by omega)]
theorem pure (l : List S24) (h : ∀ x ∈ l, okA x) (hn : l.length ≤ 9223372036854775807) : ∃ k, laws_FnExactActsText.f k l = some true := by
  refine ⟨2 * l.length + 3, ?_⟩
  unfold laws_FnExactActsText.f laws_szActS.f
  have hw : wrap64 (1048576 - (l.length : Int)) = 1048576 - (l.length : Int) := by unfold wrap64; omega
  rw [hw]
  by_cases hl : l.length ≤ 1048576
  · have ho : ∀ x ∈ l.map cv, okB x := by
      intro x hx
      obtain ⟨y, hy, rfl⟩ := List.mem_map.1 hx
      exact h y hy
    rw [if_neg (by omega)]
    simp only [Option.bind_some]
    rw [if_neg (by omega), to_list l hl _ (by omega)]
    simp only [Option.bind_some]
    rw [spec_acts _ (by simpa using hl) ho _ (by simp), impl_acts _ (by simpa using hl) ho]
    simp only [Option.bind_some, if_true]
    rw [eq_self _ (by simpa using hl) _ (by simp; omega)]
    simp
  · rw [if_pos (by omega)]
    simp
end Go.Proofs.YtcognaiaancmaaaDoor.fnExactActsText
