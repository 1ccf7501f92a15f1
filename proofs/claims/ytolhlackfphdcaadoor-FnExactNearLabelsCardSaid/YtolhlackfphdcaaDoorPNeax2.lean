-- made by a program of this session (wip/pext.py) out of the translation; the parts by hand are wip/ext's
import Derived.Test.YtolhlackfphdcaaDoorPNeax0
import Derived.Test.YtolhlackfphdcaaDoorPNeax1
namespace Go.Proofs.YtolhlackfphdcaaDoor.PNea
open Go.RowKit Go.Proofs.YtolhlackfphdcaaDoorW.PrintWords Go.Proofs.YtolhlackfphdcaaDoorW.PrintLast Go.Proofs.YtolhlackfphdcaaDoorW.PrintMore
attribute [local go_sem] max2_int min2_int max_two min_two max_three min_three max_four min_four   -- for this text's walks alone
set_option linter.unusedVariables false
set_option linter.unusedSimpArgs false

/-! ### impl_isLabel: function 20 -/
def impl_isLabel.sm (a : Int) : Bool := decide (97 ≤ a ∧ a ≤ 122)
theorem impl_isLabel.sm_is (a : Int) : impl_isSmall.f a = some (impl_isLabel.sm a) := by
  unfold impl_isSmall.f impl_isLabel.sm
  by_cases h : 97 ≤ a <;> simp [h, ge_iff_le]
open Go.Proofs.YtolhlackfphdcaaDoor.Gen in
theorem impl_isLabel.all_is (a b c : Int) : impl_areAll_byte.f [a, b, c] impl_isSmall.f = some (impl_isLabel.sm a && (impl_isLabel.sm b && impl_isLabel.sm c)) := by
  unfold impl_areAll_byte.f
  rw [allO_of (q := impl_isLabel.sm) (fun x _ => impl_isLabel.sm_is x)]
  simp
open Go.Proofs.YtolhlackfphdcaaDoor.Gen in
theorem impl_isLabel.small (w : World) : FnB Tryd.prog 29 #[] (Kd.int .u8) vOne impl_isSmall.f w := ⟨fun _ _ => by kernel_rfl, fun W x cs b hW hK hx => by
  obtain rfl : cs = [.int .u8 x] := hK
  exact (impl_isSmall.calls x b W hx).mono fun e w' h => ⟨h.1, h.2.below⟩⟩
theorem impl_isLabel.row (w : World) (g o : Nat) (a b c : Int) (h0 : w.cell? ⟨g, o, none⟩ = some (.int .u8 a)) (h1 : w.cell? ⟨g, o + 1, none⟩ = some (.int .u8 b)) (h2 : w.cell? ⟨g, o + 2, none⟩ = some (.int .u8 c)) :
    Kd.C (Kd.int .u8) w (some ⟨g, o, none⟩) 3 [a, b, c] := by
  refine ⟨rfl, by omega, fun _ => ⟨_, rfl, fun j p hj => ?_⟩⟩
  have hlt : j < 3 := by
    rcases Nat.lt_or_ge j 3 with h | h
    · exact h
    · rw [List.getElem?_eq_none (by simp; omega)] at hj; cases hj
  refine ⟨[.int .u8 p], rfl, rfl, fun i u hu => ?_⟩
  have hi : i = 0 := by
    rcases Nat.eq_zero_or_pos i with h | h
    · exact h
    · rw [List.getElem?_eq_none (by simp; omega)] at hu; cases hu
  subst hi
  obtain rfl : u = .int .u8 p := by simpa using hu.symm
  have h3 : j = 0 ∨ j = 1 ∨ j = 2 := by omega
  rcases h3 with rfl | rfl | rfl
  · obtain rfl : a = p := by simpa using hj
    exact h0
  · obtain rfl : b = p := by simpa using hj
    exact h1
  · obtain rfl : c = p := by simpa using hj
    exact h2
theorem impl_isLabel.areAll (w : World) (g : Nat) (a b c : Int) (r : Bool) (h0 : w.cell? ⟨g, 1, none⟩ = some (.int .u8 a)) (h1 : w.cell? ⟨g, 2, none⟩ = some (.int .u8 b)) (h2 : w.cell? ⟨g, 3, none⟩ = some (.int .u8 c))
    (hr : (impl_isLabel.sm a && (impl_isLabel.sm b && impl_isLabel.sm c)) = r) :
    Calls Tryd.prog 28 #[.slice (some ⟨g, 1, none⟩) 3 3, .func (.func 29) #[] #[]] w fun e w' => e = .returned (.bool r) ∧ Below w.heap.size w w' :=
  impl_areAll_byte.calls _ 3 [a, b, c] 29 #[] impl_isSmall.f r w (impl_isLabel.small w) (impl_isLabel.row w g 1 a b c h0 h1 h2) (by simp) (by rw [impl_isLabel.all_is, hr])
def impl_isLabel.atoiV (s : ByteArray) : Int := (Lib.atoi s.data.toList).getD 0
theorem impl_isLabel.atoi (s : ByteArray) (hs : s.size ≤ 18) (w : World) (ht_ : Go.Proofs.YtolhlackfphdcaaDoor.Tbl.Tb w) :
    Calls Tryd.prog 27 #[.string s] w fun e w' => (∃ ev, e = .returned (.tuple #[.int .i64 (impl_isLabel.atoiV s), ev])) ∧ Below w.heap.size w w' := by
  unfold impl_isLabel.atoiV
  cases h : Lib.atoi s.data.toList with
  | some n => exact (Tryd.strconv_Atoi s n hs h w).mono fun e w' ⟨he, t, hw⟩ => ⟨⟨_, he⟩, hw ▸ Lib.bytesWorld_below _ _ _⟩
  | none =>
    obtain ⟨tp, p, hv⟩ := ht_.2
    exact (Tryd.strconv_Atoi_err_var s hs h tp p w hv).mono fun e w' ⟨N, he, _, _, hb⟩ => ⟨⟨_, he⟩, hb⟩
theorem impl_isLabel.cell (t : ByteArray) (w : World) (hs : t.size = 9) (j : Nat) (hj : j < 3) : (Lib.bytesWorld w 5 (t.extract 3 6)).cell? ⟨w.heap.size, j, none⟩ = some (.int .u8 (bt t ((3 + j : Nat) : Int))) := by
  have s3 : (t.extract 3 6).size = 3 := by rw [ByteArray.size_extract]; omega
  rw [Lib.bytesWorld_cell _ _ _ j (by omega)]
  have e : (((t.extract 3 6).data.toList.getD j 0).toNat : Int) = bt t ((3 + j : Nat) : Int) := by
    unfold bt
    rw [Int.toNat_natCast, dif_pos (by omega)]
    have h1 : j < (t.extract 3 6).data.toList.length := by simp; omega
    rw [List.getD_eq_getElem?_getD, List.getElem?_eq_getElem h1]
    simp only [Option.getD_some, Array.getElem_toList, ByteArray.data_extract, Array.getElem_extract]
    rfl
  exact congrArg (fun z => some (Value.int .u8 z)) e
theorem impl_isLabel.facts (w : World) (b r : Nat) (x0 x1 x2 x3 x4 x5 x6 x7 : Int) (hb : w.heap[b]? = some (.cells #[.int .i16 x0, .int .u8 x1, .int .u8 x2, .int .u8 x3, .int .i16 x4, .int .i16 x5, .int .i16 x6, .int .i16 x7] 41 (0, 0))) (hr : w.heap[r]? = some (.cells #[.int .i16 0, .int .u8 0, .int .u8 0, .int .u8 0, .int .i16 0, .int .i16 0, .int .i16 0, .int .i16 0] 41 (0, 0))) :
    w.cell? ⟨b, 0, none⟩ = some (.int .i16 x0) ∧ w.cell? ⟨b, 1, none⟩ = some (.int .u8 x1) ∧ w.cell? ⟨b, 2, none⟩ = some (.int .u8 x2) ∧ w.cell? ⟨b, 3, none⟩ = some (.int .u8 x3) ∧ w.cell? ⟨b, 4, none⟩ = some (.int .i16 x4) ∧ w.cell? ⟨b, 5, none⟩ = some (.int .i16 x5) ∧ w.cell? ⟨b, 6, none⟩ = some (.int .i16 x6) ∧ w.cell? ⟨b, 7, none⟩ = some (.int .i16 x7) ∧ w.cell? ⟨r, 0, none⟩ = some (.int .i16 0) ∧ w.cell? ⟨r, 1, none⟩ = some (.int .u8 0) ∧ w.cell? ⟨r, 2, none⟩ = some (.int .u8 0) ∧ w.cell? ⟨r, 3, none⟩ = some (.int .u8 0) ∧ w.cell? ⟨r, 4, none⟩ = some (.int .i16 0) ∧ w.cell? ⟨r, 5, none⟩ = some (.int .i16 0) ∧ w.cell? ⟨r, 6, none⟩ = some (.int .i16 0) ∧ w.cell? ⟨r, 7, none⟩ = some (.int .i16 0) ∧ w.frozen? ⟨r, 0, none⟩ = false ∧ w.frozen? ⟨r, 1, none⟩ = false ∧ w.frozen? ⟨r, 2, none⟩ = false ∧ w.frozen? ⟨r, 3, none⟩ = false ∧ w.frozen? ⟨r, 4, none⟩ = false ∧ w.frozen? ⟨r, 5, none⟩ = false ∧ w.frozen? ⟨r, 6, none⟩ = false ∧ w.frozen? ⟨r, 7, none⟩ = false :=
  ⟨(blk_cell hb 0).trans rfl, (blk_cell hb 1).trans rfl, (blk_cell hb 2).trans rfl, (blk_cell hb 3).trans rfl, (blk_cell hb 4).trans rfl, (blk_cell hb 5).trans rfl, (blk_cell hb 6).trans rfl, (blk_cell hb 7).trans rfl, (blk_cell hr 0).trans rfl, (blk_cell hr 1).trans rfl, (blk_cell hr 2).trans rfl, (blk_cell hr 3).trans rfl, (blk_cell hr 4).trans rfl, (blk_cell hr 5).trans rfl, (blk_cell hr 6).trans rfl, (blk_cell hr 7).trans rfl, blk_frozen hr 0, blk_frozen hr 1, blk_frozen hr 2, blk_frozen hr 3, blk_frozen hr 4, blk_frozen hr 5, blk_frozen hr 6, blk_frozen hr 7⟩
theorem impl_isLabel.keep {w w1 : World} {g : Nat} {o : Obj} (h : w.heap[g]? = some o) (hb : Below w.heap.size w w1) : w1.heap[g]? = some o := blk_grown h (grown_of_below hb none) (by simp)
theorem impl_isLabel.put (w0 w : World) (r : Nat) (x0 x1 x2 x3 x4 x5 x6 x7 : Int) (hr : w.heap[r]? = some (.cells #[.int .i16 0, .int .u8 0, .int .u8 0, .int .u8 0, .int .i16 0, .int .i16 0, .int .i16 0, .int .i16 0] 41 (0, 0))) (h0 : w0.heap.size ≤ r) (hb : Below w0.heap.size w0 w) :
    (World.setCell (World.setCell (World.setCell (World.setCell (World.setCell (World.setCell (World.setCell (World.setCell w ⟨r, 0, none⟩ (.int .i16 x0)) ⟨r, 1, none⟩ (.int .u8 x1)) ⟨r, 2, none⟩ (.int .u8 x2)) ⟨r, 3, none⟩ (.int .u8 x3)) ⟨r, 4, none⟩ (.int .i16 x4)) ⟨r, 5, none⟩ (.int .i16 x5)) ⟨r, 6, none⟩ (.int .i16 x6)) ⟨r, 7, none⟩ (.int .i16 x7)).heap[r]? = some (.cells #[.int .i16 x0, .int .u8 x1, .int .u8 x2, .int .u8 x3, .int .i16 x4, .int .i16 x5, .int .i16 x6, .int .i16 x7] 41 (0, 0)) ∧ Below w0.heap.size w0 (World.setCell (World.setCell (World.setCell (World.setCell (World.setCell (World.setCell (World.setCell (World.setCell w ⟨r, 0, none⟩ (.int .i16 x0)) ⟨r, 1, none⟩ (.int .u8 x1)) ⟨r, 2, none⟩ (.int .u8 x2)) ⟨r, 3, none⟩ (.int .u8 x3)) ⟨r, 4, none⟩ (.int .i16 x4)) ⟨r, 5, none⟩ (.int .i16 x5)) ⟨r, 6, none⟩ (.int .i16 x6)) ⟨r, 7, none⟩ (.int .i16 x7)) := by
  have h1 : (World.setCell w ⟨r, 0, none⟩ (.int .i16 x0)).heap[r]? = some (.cells #[.int .i16 x0, .int .u8 0, .int .u8 0, .int .u8 0, .int .i16 0, .int .i16 0, .int .i16 0, .int .i16 0] 41 (0, 0)) := by simpa using blk_set hr 0 (.int .i16 x0)
  have b1 : Below w0.heap.size w0 (World.setCell w ⟨r, 0, none⟩ (.int .i16 x0)) := Below.setCell hb h0 _
  generalize (World.setCell w ⟨r, 0, none⟩ (.int .i16 x0)) = w1 at *
  have h2 : (World.setCell w1 ⟨r, 1, none⟩ (.int .u8 x1)).heap[r]? = some (.cells #[.int .i16 x0, .int .u8 x1, .int .u8 0, .int .u8 0, .int .i16 0, .int .i16 0, .int .i16 0, .int .i16 0] 41 (0, 0)) := by simpa using blk_set h1 1 (.int .u8 x1)
  have b2 : Below w0.heap.size w0 (World.setCell w1 ⟨r, 1, none⟩ (.int .u8 x1)) := Below.setCell b1 h0 _
  generalize (World.setCell w1 ⟨r, 1, none⟩ (.int .u8 x1)) = w2 at *
  have h3 : (World.setCell w2 ⟨r, 2, none⟩ (.int .u8 x2)).heap[r]? = some (.cells #[.int .i16 x0, .int .u8 x1, .int .u8 x2, .int .u8 0, .int .i16 0, .int .i16 0, .int .i16 0, .int .i16 0] 41 (0, 0)) := by simpa using blk_set h2 2 (.int .u8 x2)
  have b3 : Below w0.heap.size w0 (World.setCell w2 ⟨r, 2, none⟩ (.int .u8 x2)) := Below.setCell b2 h0 _
  generalize (World.setCell w2 ⟨r, 2, none⟩ (.int .u8 x2)) = w3 at *
  have h4 : (World.setCell w3 ⟨r, 3, none⟩ (.int .u8 x3)).heap[r]? = some (.cells #[.int .i16 x0, .int .u8 x1, .int .u8 x2, .int .u8 x3, .int .i16 0, .int .i16 0, .int .i16 0, .int .i16 0] 41 (0, 0)) := by simpa using blk_set h3 3 (.int .u8 x3)
  have b4 : Below w0.heap.size w0 (World.setCell w3 ⟨r, 3, none⟩ (.int .u8 x3)) := Below.setCell b3 h0 _
  generalize (World.setCell w3 ⟨r, 3, none⟩ (.int .u8 x3)) = w4 at *
  have h5 : (World.setCell w4 ⟨r, 4, none⟩ (.int .i16 x4)).heap[r]? = some (.cells #[.int .i16 x0, .int .u8 x1, .int .u8 x2, .int .u8 x3, .int .i16 x4, .int .i16 0, .int .i16 0, .int .i16 0] 41 (0, 0)) := by simpa using blk_set h4 4 (.int .i16 x4)
  have b5 : Below w0.heap.size w0 (World.setCell w4 ⟨r, 4, none⟩ (.int .i16 x4)) := Below.setCell b4 h0 _
  generalize (World.setCell w4 ⟨r, 4, none⟩ (.int .i16 x4)) = w5 at *
  have h6 : (World.setCell w5 ⟨r, 5, none⟩ (.int .i16 x5)).heap[r]? = some (.cells #[.int .i16 x0, .int .u8 x1, .int .u8 x2, .int .u8 x3, .int .i16 x4, .int .i16 x5, .int .i16 0, .int .i16 0] 41 (0, 0)) := by simpa using blk_set h5 5 (.int .i16 x5)
  have b6 : Below w0.heap.size w0 (World.setCell w5 ⟨r, 5, none⟩ (.int .i16 x5)) := Below.setCell b5 h0 _
  generalize (World.setCell w5 ⟨r, 5, none⟩ (.int .i16 x5)) = w6 at *
  have h7 : (World.setCell w6 ⟨r, 6, none⟩ (.int .i16 x6)).heap[r]? = some (.cells #[.int .i16 x0, .int .u8 x1, .int .u8 x2, .int .u8 x3, .int .i16 x4, .int .i16 x5, .int .i16 x6, .int .i16 0] 41 (0, 0)) := by simpa using blk_set h6 6 (.int .i16 x6)
  have b7 : Below w0.heap.size w0 (World.setCell w6 ⟨r, 6, none⟩ (.int .i16 x6)) := Below.setCell b6 h0 _
  generalize (World.setCell w6 ⟨r, 6, none⟩ (.int .i16 x6)) = w7 at *
  have h8 : (World.setCell w7 ⟨r, 7, none⟩ (.int .i16 x7)).heap[r]? = some (.cells #[.int .i16 x0, .int .u8 x1, .int .u8 x2, .int .u8 x3, .int .i16 x4, .int .i16 x5, .int .i16 x6, .int .i16 x7] 41 (0, 0)) := by simpa using blk_set h7 7 (.int .i16 x7)
  have b8 : Below w0.heap.size w0 (World.setCell w7 ⟨r, 7, none⟩ (.int .i16 x7)) := Below.setCell b7 h0 _
  generalize (World.setCell w7 ⟨r, 7, none⟩ (.int .i16 x7)) = w8 at *
  exact ⟨h8, b8⟩
theorem impl_isLabel.cells8 (w : World) (r : Nat) (x0 x1 x2 x3 x4 x5 x6 x7 : Int) (hr : w.heap[r]? = some (.cells #[.int .i16 x0, .int .u8 x1, .int .u8 x2, .int .u8 x3, .int .i16 x4, .int .i16 x5, .int .i16 x6, .int .i16 x7] 41 (0, 0))) : w.cell? ⟨r, 0, none⟩ = some (.int .i16 x0) ∧ w.cell? ⟨r, 1, none⟩ = some (.int .u8 x1) ∧ w.cell? ⟨r, 2, none⟩ = some (.int .u8 x2) ∧ w.cell? ⟨r, 3, none⟩ = some (.int .u8 x3) ∧ w.cell? ⟨r, 4, none⟩ = some (.int .i16 x4) ∧ w.cell? ⟨r, 5, none⟩ = some (.int .i16 x5) ∧ w.cell? ⟨r, 6, none⟩ = some (.int .i16 x6) ∧ w.cell? ⟨r, 7, none⟩ = some (.int .i16 x7) :=
  ⟨(blk_cell hr 0).trans rfl, (blk_cell hr 1).trans rfl, (blk_cell hr 2).trans rfl, (blk_cell hr 3).trans rfl, (blk_cell hr 4).trans rfl, (blk_cell hr 5).trans rfl, (blk_cell hr 6).trans rfl, (blk_cell hr 7).trans rfl⟩
set_option maxHeartbeats 16000000 in
set_option maxRecDepth 100000 in
theorem impl_isLabel.good (t : ByteArray) (n1 n2 : Int) (w : World) (ht_ : Go.Proofs.YtolhlackfphdcaaDoor.Tbl.Tb w) (hs : t.size = 9) (e1 : impl_isLabel.atoiV (t.extract 0 3) = n1) (e2 : impl_isLabel.atoiV (t.extract 6 8) = n2) (q1 : n1 ≤ 32767) (q2 : n2 ≤ 32767) (p1 : 0 ≤ n1) (p2 : 0 < n2)
    (hm : (impl_isLabel.sm (bt t 3) && (impl_isLabel.sm (bt t 4) && impl_isLabel.sm (bt t 5))) = true) (L : ByteArray) (hL : impl_labelOf.f n1 (bt t 3) (bt t 4) (bt t 5) n2 0 0 0 = some L) :
    Calls Tryd.prog 24 #[.string t] w fun e w' => e = .returned (.tuple #[.agg #[.int .i16 n1, .int .u8 (bt t 3), .int .u8 (bt t 4), .int .u8 (bt t 5), .int .i16 n2, .int .i16 0, .int .i16 0, .int .i16 0], .bool (L.toList == t.toList)]) ∧ Below w.heap.size w w' := by
  have HT := Aside0.mk ht_
  have s1 : (t.extract 0 3).size = 3 := by rw [ByteArray.size_extract]; omega
  have s2 : (t.extract 6 8).size = 2 := by rw [ByteArray.size_extract]; omega
  have s3 : (t.extract 3 6).size = 3 := by rw [ByteArray.size_extract]; omega
  have A1 := Aside0.mk (fun W (hb : Below w.heap.size w W) => e1 ▸ impl_isLabel.atoi (t.extract 0 3) (by omega) W (HT.out.later hb))
  have A2 := Aside0.mk (fun W (hb : Below w.heap.size w W) => e2 ▸ impl_isLabel.atoi (t.extract 6 8) (by omega) W (HT.out.later hb))
  have HM := Aside0.mk hm
  have HL := Aside0.mk hL
  clear hm hL
  clear ht_
  go_enter Tryd.func24, Tryd.ntmps24
  go_upto_region 5 with (first | (go_at_call 27; first | ((with_reducible refine (A1.out _ (by repeat (first | exact Below.refl _ _ | apply below_alloc | apply below_drew1))).mono ?_); rintro e w1 ⟨⟨ev1, rfl⟩, hb1⟩; have hB1 := below_step (below_alloc (Below.refl w.heap.size w) _) hb1; have hR1 := impl_isLabel.keep (show (w.alloc (.cells #[.int .i16 0, .int .u8 0, .int .u8 0, .int .u8 0, .int .i16 0, .int .i16 0, .int .i16 0, .int .i16 0] 41)).heap[w.heap.size]? = some (.cells #[.int .i16 0, .int .u8 0, .int .u8 0, .int .u8 0, .int .i16 0, .int .i16 0, .int .i16 0, .int .i16 0] 41 (0, 0)) by simpa using heap_alloc_new w _) hb1) | ((with_reducible refine (A2.out _ hB1).mono ?_); rintro e w2 ⟨⟨ev2, rfl⟩, hb2⟩; have hB2 := below_step hB1 hb2; have hR2 := impl_isLabel.keep hR1 hb2)))
  have hC : (convert 9 29 (.string (t.extract 3 6))).run Tryd.prog w2 = .ok (.slice (some ⟨w2.heap.size, 0, none⟩) 3 (grownCap w2 3 0 5)) (Lib.bytesWorld w2 5 (t.extract 3 6)) := by
    have := Lib.run_convert_string_bytes (P := Tryd.prog) w2 9 29 5 (t.extract 3 6) Tryd.underlying9 Tryd.underlying29 Tryd.underlying5
    rwa [s3] at this
  have d0 : _ = some (Value.int .u8 (bt t 3)) := impl_isLabel.cell t w2 hs 0 (by omega)
  have d1 : _ = some (Value.int .u8 (bt t 4)) := impl_isLabel.cell t w2 hs 1 (by omega)
  have d2 : _ = some (Value.int .u8 (bt t 5)) := impl_isLabel.cell t w2 hs 2 (by omega)
  have hA := fun (cp : Nat) (W : World) => run_arrayAt (P := Tryd.prog) (w := W) 39 5 3 (some ⟨w2.heap.size, 0, none⟩) 3 cp Tryd.underlying39 (by omega)
  have hB3 : Below w.heap.size w (Lib.bytesWorld w2 5 (t.extract 3 6)) := below_step hB2 (Lib.bytesWorld_below _ _ _)
  have hR3 := impl_isLabel.keep hR2 (Lib.bytesWorld_below w2 5 (t.extract 3 6))
  have hz3 : w.heap.size ≤ (Lib.bytesWorld w2 5 (t.extract 3 6)).heap.size := hB3.size
  have p2' : 0 ≤ n2 := by omega
  have z2 : decide (n2 = 0) = false := decide_eq_false (by omega)
  have z3 : (n2 == 0) = false := by rw [beq_eq_false_iff_ne]; omega
  have x1 : IntKind.i16.wrap n1 = n1 := IntWalk.i16_in _ (by omega)
  have x2 : IntKind.i16.wrap n2 = n2 := IntWalk.i16_in _ (by omega)
  go_upto_region 6 with fail
  generalize Lib.bytesWorld w2 5 (t.extract 3 6) = w3 at *
  go_wp2_with (go_at_call 28; (with_reducible refine (impl_isLabel.areAll _ w3.heap.size (bt t 3) (bt t 4) (bt t 5) true (by simp) (by simp) (by simp) HM.out).mono ?_); rintro e w4 ⟨rfl, hb4⟩; have q4 : w4.cell? ⟨w3.heap.size, 4, none⟩ = some (.int .i16 n2) := pw_cell_below hb4 (by simp); have hR4 := impl_isLabel.keep (blk_alloc hR3 _) hb4; have hO4 := impl_isLabel.keep (show (w3.alloc (.cells #[.int .i16 n1, .int .u8 (bt t 3), .int .u8 (bt t 4), .int .u8 (bt t 5), .int .i16 n2, .int .i16 0, .int .i16 0, .int .i16 0] 41)).heap[w3.heap.size]? = some (.cells #[.int .i16 n1, .int .u8 (bt t 3), .int .u8 (bt t 4), .int .u8 (bt t 5), .int .i16 n2, .int .i16 0, .int .i16 0, .int .i16 0] 41 (0, 0)) by simpa using heap_alloc_new w3 _) hb4; have hB4 := below_step (below_alloc hB3 _) hb4)
  have F4 := impl_isLabel.facts w4.drew w3.heap.size w.heap.size n1 (bt t 3) (bt t 4) (bt t 5) n2 0 0 0 hO4 hR4
  have hb4' : Below w.heap.size w w4.drew := below_drew1 hB4
  go_split_ands
  go_region_with (first | (go_at_call 30; (with_reducible refine (impl_labelOf.calls n1 (bt t 3) (bt t 4) (bt t 5) n2 0 0 0 L _ (HT.out.later hb4') HL.out).mono ?_); rintro e w5 ⟨rfl, hb5⟩; have hB5 := below_step hb4' hb5; have F5 := impl_isLabel.facts w5 w3.heap.size w.heap.size n1 (bt t 3) (bt t 4) (bt t 5) n2 0 0 0 (impl_isLabel.keep (w := w4.drew) hO4 hb5) (impl_isLabel.keep (w := w4.drew) hR4 hb5); have hR5 := impl_isLabel.keep (w := w4.drew) hR4 hb5; go_split_ands))
  all_goals obtain ⟨hRF, hBF⟩ := impl_isLabel.put w w5 w.heap.size n1 (bt t 3) (bt t 4) (bt t 5) n2 0 0 0 hR5 (Nat.le_refl _) hB5
  all_goals have F9 := impl_isLabel.cells8 _ _ _ _ _ _ _ _ _ _ hRF
  all_goals clear hR5 hB5
  all_goals generalize (World.setCell (World.setCell (World.setCell (World.setCell (World.setCell (World.setCell (World.setCell (World.setCell w5 ⟨w.heap.size, 0, none⟩ (.int .i16 n1)) ⟨w.heap.size, 1, none⟩ (.int .u8 (bt t 3))) ⟨w.heap.size, 2, none⟩ (.int .u8 (bt t 4))) ⟨w.heap.size, 3, none⟩ (.int .u8 (bt t 5))) ⟨w.heap.size, 4, none⟩ (.int .i16 n2)) ⟨w.heap.size, 5, none⟩ (.int .i16 0)) ⟨w.heap.size, 6, none⟩ (.int .i16 0)) ⟨w.heap.size, 7, none⟩ (.int .i16 0)) = wf at *
  all_goals obtain ⟨g0, g1, g2, g3, g4, g5, g6, g7⟩ := F9
  all_goals go_wp2
  all_goals  exact bodyPost_ret (v := .tuple #[.agg #[.int .i16 n1, .int .u8 (bt t 3), .int .u8 (bt t 4), .int .u8 (bt t 5), .int .i16 n2, .int .i16 0, .int .i16 0, .int .i16 0], .bool (L.toList == t.toList)]) (by simp [results, Tryd.results24, go_sem, g0, g1, g2, g3, g4, g5, g6, g7]) rfl ⟨rfl, by repeat (first | assumption | exact Below.refl _ _ | apply below_alloc | apply below_drew1 | refine Below.setCell ?_ (by simp) _)⟩
set_option maxHeartbeats 16000000 in
set_option maxRecDepth 100000 in
theorem impl_isLabel.goodN (t : ByteArray) (n1 n2 : Int) (w : World) (ht_ : Go.Proofs.YtolhlackfphdcaaDoor.Tbl.Tb w) (hs : t.size = 9) (e1 : impl_isLabel.atoiV (t.extract 0 3) = n1) (e2 : impl_isLabel.atoiV (t.extract 6 8) = n2) (q1 : n1 ≤ 32767) (q2 : n2 ≤ 32767) (p1 : ¬ 0 ≤ n1) (p2 : 0 < n2)
    (hm : (impl_isLabel.sm (bt t 3) && (impl_isLabel.sm (bt t 4) && impl_isLabel.sm (bt t 5))) = true) (L : ByteArray) (hL : impl_labelOf.f 0 (bt t 3) (bt t 4) (bt t 5) n2 0 0 0 = some L) :
    Calls Tryd.prog 24 #[.string t] w fun e w' => e = .returned (.tuple #[.agg #[.int .i16 0, .int .u8 (bt t 3), .int .u8 (bt t 4), .int .u8 (bt t 5), .int .i16 n2, .int .i16 0, .int .i16 0, .int .i16 0], .bool (L.toList == t.toList)]) ∧ Below w.heap.size w w' := by
  have HT := Aside0.mk ht_
  have s1 : (t.extract 0 3).size = 3 := by rw [ByteArray.size_extract]; omega
  have s2 : (t.extract 6 8).size = 2 := by rw [ByteArray.size_extract]; omega
  have s3 : (t.extract 3 6).size = 3 := by rw [ByteArray.size_extract]; omega
  have A1 := Aside0.mk (fun W (hb : Below w.heap.size w W) => e1 ▸ impl_isLabel.atoi (t.extract 0 3) (by omega) W (HT.out.later hb))
  have A2 := Aside0.mk (fun W (hb : Below w.heap.size w W) => e2 ▸ impl_isLabel.atoi (t.extract 6 8) (by omega) W (HT.out.later hb))
  have HM := Aside0.mk hm
  have HL := Aside0.mk hL
  clear hm hL
  clear ht_
  go_enter Tryd.func24, Tryd.ntmps24
  go_upto_region 5 with (first | (go_at_call 27; first | ((with_reducible refine (A1.out _ (by repeat (first | exact Below.refl _ _ | apply below_alloc | apply below_drew1))).mono ?_); rintro e w1 ⟨⟨ev1, rfl⟩, hb1⟩; have hB1 := below_step (below_alloc (Below.refl w.heap.size w) _) hb1; have hR1 := impl_isLabel.keep (show (w.alloc (.cells #[.int .i16 0, .int .u8 0, .int .u8 0, .int .u8 0, .int .i16 0, .int .i16 0, .int .i16 0, .int .i16 0] 41)).heap[w.heap.size]? = some (.cells #[.int .i16 0, .int .u8 0, .int .u8 0, .int .u8 0, .int .i16 0, .int .i16 0, .int .i16 0, .int .i16 0] 41 (0, 0)) by simpa using heap_alloc_new w _) hb1) | ((with_reducible refine (A2.out _ hB1).mono ?_); rintro e w2 ⟨⟨ev2, rfl⟩, hb2⟩; have hB2 := below_step hB1 hb2; have hR2 := impl_isLabel.keep hR1 hb2)))
  have hC : (convert 9 29 (.string (t.extract 3 6))).run Tryd.prog w2 = .ok (.slice (some ⟨w2.heap.size, 0, none⟩) 3 (grownCap w2 3 0 5)) (Lib.bytesWorld w2 5 (t.extract 3 6)) := by
    have := Lib.run_convert_string_bytes (P := Tryd.prog) w2 9 29 5 (t.extract 3 6) Tryd.underlying9 Tryd.underlying29 Tryd.underlying5
    rwa [s3] at this
  have d0 : _ = some (Value.int .u8 (bt t 3)) := impl_isLabel.cell t w2 hs 0 (by omega)
  have d1 : _ = some (Value.int .u8 (bt t 4)) := impl_isLabel.cell t w2 hs 1 (by omega)
  have d2 : _ = some (Value.int .u8 (bt t 5)) := impl_isLabel.cell t w2 hs 2 (by omega)
  have hA := fun (cp : Nat) (W : World) => run_arrayAt (P := Tryd.prog) (w := W) 39 5 3 (some ⟨w2.heap.size, 0, none⟩) 3 cp Tryd.underlying39 (by omega)
  have hB3 : Below w.heap.size w (Lib.bytesWorld w2 5 (t.extract 3 6)) := below_step hB2 (Lib.bytesWorld_below _ _ _)
  have hR3 := impl_isLabel.keep hR2 (Lib.bytesWorld_below w2 5 (t.extract 3 6))
  have hz3 : w.heap.size ≤ (Lib.bytesWorld w2 5 (t.extract 3 6)).heap.size := hB3.size
  have p2' : 0 ≤ n2 := by omega
  have z2 : decide (n2 = 0) = false := decide_eq_false (by omega)
  have z3 : (n2 == 0) = false := by rw [beq_eq_false_iff_ne]; omega
  have x2 : IntKind.i16.wrap n2 = n2 := IntWalk.i16_in _ (by omega)
  go_upto_region 6 with fail
  generalize Lib.bytesWorld w2 5 (t.extract 3 6) = w3 at *
  go_wp2_with (go_at_call 28; (with_reducible refine (impl_isLabel.areAll _ w3.heap.size (bt t 3) (bt t 4) (bt t 5) true (by simp) (by simp) (by simp) HM.out).mono ?_); rintro e w4 ⟨rfl, hb4⟩; have q4 : w4.cell? ⟨w3.heap.size, 4, none⟩ = some (.int .i16 n2) := pw_cell_below hb4 (by simp); have hR4 := impl_isLabel.keep (blk_alloc hR3 _) hb4; have hO4 := impl_isLabel.keep (show (w3.alloc (.cells #[.int .i16 0, .int .u8 (bt t 3), .int .u8 (bt t 4), .int .u8 (bt t 5), .int .i16 n2, .int .i16 0, .int .i16 0, .int .i16 0] 41)).heap[w3.heap.size]? = some (.cells #[.int .i16 0, .int .u8 (bt t 3), .int .u8 (bt t 4), .int .u8 (bt t 5), .int .i16 n2, .int .i16 0, .int .i16 0, .int .i16 0] 41 (0, 0)) by simpa using heap_alloc_new w3 _) hb4; have hB4 := below_step (below_alloc hB3 _) hb4)
  have F4 := impl_isLabel.facts w4.drew w3.heap.size w.heap.size 0 (bt t 3) (bt t 4) (bt t 5) n2 0 0 0 hO4 hR4
  have hb4' : Below w.heap.size w w4.drew := below_drew1 hB4
  go_split_ands
  go_region_with (first | (go_at_call 30; (with_reducible refine (impl_labelOf.calls 0 (bt t 3) (bt t 4) (bt t 5) n2 0 0 0 L _ (HT.out.later hb4') HL.out).mono ?_); rintro e w5 ⟨rfl, hb5⟩; have hB5 := below_step hb4' hb5; have F5 := impl_isLabel.facts w5 w3.heap.size w.heap.size 0 (bt t 3) (bt t 4) (bt t 5) n2 0 0 0 (impl_isLabel.keep (w := w4.drew) hO4 hb5) (impl_isLabel.keep (w := w4.drew) hR4 hb5); have hR5 := impl_isLabel.keep (w := w4.drew) hR4 hb5; go_split_ands))
  all_goals obtain ⟨hRF, hBF⟩ := impl_isLabel.put w w5 w.heap.size 0 (bt t 3) (bt t 4) (bt t 5) n2 0 0 0 hR5 (Nat.le_refl _) hB5
  all_goals have F9 := impl_isLabel.cells8 _ _ _ _ _ _ _ _ _ _ hRF
  all_goals clear hR5 hB5
  all_goals generalize (World.setCell (World.setCell (World.setCell (World.setCell (World.setCell (World.setCell (World.setCell (World.setCell w5 ⟨w.heap.size, 0, none⟩ (.int .i16 0)) ⟨w.heap.size, 1, none⟩ (.int .u8 (bt t 3))) ⟨w.heap.size, 2, none⟩ (.int .u8 (bt t 4))) ⟨w.heap.size, 3, none⟩ (.int .u8 (bt t 5))) ⟨w.heap.size, 4, none⟩ (.int .i16 n2)) ⟨w.heap.size, 5, none⟩ (.int .i16 0)) ⟨w.heap.size, 6, none⟩ (.int .i16 0)) ⟨w.heap.size, 7, none⟩ (.int .i16 0)) = wf at *
  all_goals obtain ⟨g0, g1, g2, g3, g4, g5, g6, g7⟩ := F9
  all_goals go_wp2
  all_goals  exact bodyPost_ret (v := .tuple #[.agg #[.int .i16 0, .int .u8 (bt t 3), .int .u8 (bt t 4), .int .u8 (bt t 5), .int .i16 n2, .int .i16 0, .int .i16 0, .int .i16 0], .bool (L.toList == t.toList)]) (by simp [results, Tryd.results24, go_sem, g0, g1, g2, g3, g4, g5, g6, g7]) rfl ⟨rfl, by repeat (first | assumption | exact Below.refl _ _ | apply below_alloc | apply below_drew1 | refine Below.setCell ?_ (by simp) _)⟩
set_option maxHeartbeats 16000000 in
set_option maxRecDepth 100000 in
theorem impl_isLabel.bad110 (t : ByteArray) (n1 n2 : Int) (w : World) (ht_ : Go.Proofs.YtolhlackfphdcaaDoor.Tbl.Tb w) (hs : t.size = 9) (e1 : impl_isLabel.atoiV (t.extract 0 3) = n1) (e2 : impl_isLabel.atoiV (t.extract 6 8) = n2) (q1 : n1 ≤ 32767) (q2 : n2 ≤ 32767) (p1 : 0 ≤ n1) (p2' : 0 ≤ n2)
    (hm : (impl_isLabel.sm (bt t 3) && (impl_isLabel.sm (bt t 4) && impl_isLabel.sm (bt t 5))) = false) :
    Calls Tryd.prog 24 #[.string t] w fun e w' => e = .returned (.tuple #[.agg #[.int .i16 0, .int .u8 0, .int .u8 0, .int .u8 0, .int .i16 0, .int .i16 0, .int .i16 0, .int .i16 0], .bool false]) ∧ Below w.heap.size w w' := by
  have HT := Aside0.mk ht_
  have s1 : (t.extract 0 3).size = 3 := by rw [ByteArray.size_extract]; omega
  have s2 : (t.extract 6 8).size = 2 := by rw [ByteArray.size_extract]; omega
  have s3 : (t.extract 3 6).size = 3 := by rw [ByteArray.size_extract]; omega
  have A1 := Aside0.mk (fun W (hb : Below w.heap.size w W) => e1 ▸ impl_isLabel.atoi (t.extract 0 3) (by omega) W (HT.out.later hb))
  have A2 := Aside0.mk (fun W (hb : Below w.heap.size w W) => e2 ▸ impl_isLabel.atoi (t.extract 6 8) (by omega) W (HT.out.later hb))
  have HM := Aside0.mk hm
  clear hm
  clear ht_
  go_enter Tryd.func24, Tryd.ntmps24
  go_upto_region 5 with (first | (go_at_call 27; first | ((with_reducible refine (A1.out _ (by repeat (first | exact Below.refl _ _ | apply below_alloc | apply below_drew1))).mono ?_); rintro e w1 ⟨⟨ev1, rfl⟩, hb1⟩; have hB1 := below_step (below_alloc (Below.refl w.heap.size w) _) hb1; have hR1 := impl_isLabel.keep (show (w.alloc (.cells #[.int .i16 0, .int .u8 0, .int .u8 0, .int .u8 0, .int .i16 0, .int .i16 0, .int .i16 0, .int .i16 0] 41)).heap[w.heap.size]? = some (.cells #[.int .i16 0, .int .u8 0, .int .u8 0, .int .u8 0, .int .i16 0, .int .i16 0, .int .i16 0, .int .i16 0] 41 (0, 0)) by simpa using heap_alloc_new w _) hb1) | ((with_reducible refine (A2.out _ hB1).mono ?_); rintro e w2 ⟨⟨ev2, rfl⟩, hb2⟩; have hB2 := below_step hB1 hb2; have hR2 := impl_isLabel.keep hR1 hb2)))
  have hC : (convert 9 29 (.string (t.extract 3 6))).run Tryd.prog w2 = .ok (.slice (some ⟨w2.heap.size, 0, none⟩) 3 (grownCap w2 3 0 5)) (Lib.bytesWorld w2 5 (t.extract 3 6)) := by
    have := Lib.run_convert_string_bytes (P := Tryd.prog) w2 9 29 5 (t.extract 3 6) Tryd.underlying9 Tryd.underlying29 Tryd.underlying5
    rwa [s3] at this
  have d0 : _ = some (Value.int .u8 (bt t 3)) := impl_isLabel.cell t w2 hs 0 (by omega)
  have d1 : _ = some (Value.int .u8 (bt t 4)) := impl_isLabel.cell t w2 hs 1 (by omega)
  have d2 : _ = some (Value.int .u8 (bt t 5)) := impl_isLabel.cell t w2 hs 2 (by omega)
  have hA := fun (cp : Nat) (W : World) => run_arrayAt (P := Tryd.prog) (w := W) 39 5 3 (some ⟨w2.heap.size, 0, none⟩) 3 cp Tryd.underlying39 (by omega)
  have hB3 : Below w.heap.size w (Lib.bytesWorld w2 5 (t.extract 3 6)) := below_step hB2 (Lib.bytesWorld_below _ _ _)
  have hR3 := impl_isLabel.keep hR2 (Lib.bytesWorld_below w2 5 (t.extract 3 6))
  have hz3 : w.heap.size ≤ (Lib.bytesWorld w2 5 (t.extract 3 6)).heap.size := hB3.size
  have x1 : IntKind.i16.wrap n1 = n1 := IntWalk.i16_in _ (by omega)
  have x2 : IntKind.i16.wrap n2 = n2 := IntWalk.i16_in _ (by omega)
  go_upto_region 6 with fail
  generalize Lib.bytesWorld w2 5 (t.extract 3 6) = w3 at *
  go_upto_region 7 with (go_at_call 28; (with_reducible refine (impl_isLabel.areAll _ w3.heap.size (bt t 3) (bt t 4) (bt t 5) false (by simp) (by simp) (by simp) HM.out).mono ?_); rintro e w4 ⟨rfl, hb4⟩; have q4 : w4.cell? ⟨w3.heap.size, 4, none⟩ = some (.int .i16 n2) := pw_cell_below hb4 (by simp); have hR4 := impl_isLabel.keep (blk_alloc hR3 _) hb4; have hO4 := impl_isLabel.keep (show (w3.alloc (.cells #[.int .i16 n1, .int .u8 (bt t 3), .int .u8 (bt t 4), .int .u8 (bt t 5), .int .i16 n2, .int .i16 0, .int .i16 0, .int .i16 0] 41)).heap[w3.heap.size]? = some (.cells #[.int .i16 n1, .int .u8 (bt t 3), .int .u8 (bt t 4), .int .u8 (bt t 5), .int .i16 n2, .int .i16 0, .int .i16 0, .int .i16 0] 41 (0, 0)) by simpa using heap_alloc_new w3 _) hb4; have hB4 := below_step (below_alloc hB3 _) hb4)
  have F4 := impl_isLabel.facts w4 w3.heap.size w.heap.size n1 (bt t 3) (bt t 4) (bt t 5) n2 0 0 0 hO4 hR4
  go_split_ands
  go_wp2
  obtain ⟨hRF, hBF⟩ := impl_isLabel.put w w4 w.heap.size 0 0 0 0 0 0 0 0 hR4 (Nat.le_refl _) hB4
  obtain ⟨g0, g1, g2, g3, g4, g5, g6, g7⟩ := impl_isLabel.cells8 _ _ _ _ _ _ _ _ _ _ hRF
  clear hR4 hB4
  generalize (World.setCell (World.setCell (World.setCell (World.setCell (World.setCell (World.setCell (World.setCell (World.setCell w4 ⟨w.heap.size, 0, none⟩ (.int .i16 0)) ⟨w.heap.size, 1, none⟩ (.int .u8 0)) ⟨w.heap.size, 2, none⟩ (.int .u8 0)) ⟨w.heap.size, 3, none⟩ (.int .u8 0)) ⟨w.heap.size, 4, none⟩ (.int .i16 0)) ⟨w.heap.size, 5, none⟩ (.int .i16 0)) ⟨w.heap.size, 6, none⟩ (.int .i16 0)) ⟨w.heap.size, 7, none⟩ (.int .i16 0)) = wf at *
  exact bodyPost_ret (v := .tuple #[.agg #[.int .i16 0, .int .u8 0, .int .u8 0, .int .u8 0, .int .i16 0, .int .i16 0, .int .i16 0, .int .i16 0], .bool false]) (by simp [results, Tryd.results24, go_sem, g0, g1, g2, g3, g4, g5, g6, g7]) rfl ⟨rfl, by repeat (first | assumption | exact Below.refl _ _ | apply below_alloc | apply below_drew1 | refine Below.setCell ?_ (by simp) _)⟩
set_option maxHeartbeats 16000000 in
set_option maxRecDepth 100000 in
theorem impl_isLabel.bad100 (t : ByteArray) (n1 n2 : Int) (w : World) (ht_ : Go.Proofs.YtolhlackfphdcaaDoor.Tbl.Tb w) (hs : t.size = 9) (e1 : impl_isLabel.atoiV (t.extract 0 3) = n1) (e2 : impl_isLabel.atoiV (t.extract 6 8) = n2) (q1 : n1 ≤ 32767) (q2 : n2 ≤ 32767) (p1 : 0 ≤ n1) (p2' : ¬ 0 ≤ n2)
    (hm : (impl_isLabel.sm (bt t 3) && (impl_isLabel.sm (bt t 4) && impl_isLabel.sm (bt t 5))) = false) :
    Calls Tryd.prog 24 #[.string t] w fun e w' => e = .returned (.tuple #[.agg #[.int .i16 0, .int .u8 0, .int .u8 0, .int .u8 0, .int .i16 0, .int .i16 0, .int .i16 0, .int .i16 0], .bool false]) ∧ Below w.heap.size w w' := by
  have HT := Aside0.mk ht_
  have s1 : (t.extract 0 3).size = 3 := by rw [ByteArray.size_extract]; omega
  have s2 : (t.extract 6 8).size = 2 := by rw [ByteArray.size_extract]; omega
  have s3 : (t.extract 3 6).size = 3 := by rw [ByteArray.size_extract]; omega
  have A1 := Aside0.mk (fun W (hb : Below w.heap.size w W) => e1 ▸ impl_isLabel.atoi (t.extract 0 3) (by omega) W (HT.out.later hb))
  have A2 := Aside0.mk (fun W (hb : Below w.heap.size w W) => e2 ▸ impl_isLabel.atoi (t.extract 6 8) (by omega) W (HT.out.later hb))
  have HM := Aside0.mk hm
  clear hm
  clear ht_
  go_enter Tryd.func24, Tryd.ntmps24
  go_upto_region 5 with (first | (go_at_call 27; first | ((with_reducible refine (A1.out _ (by repeat (first | exact Below.refl _ _ | apply below_alloc | apply below_drew1))).mono ?_); rintro e w1 ⟨⟨ev1, rfl⟩, hb1⟩; have hB1 := below_step (below_alloc (Below.refl w.heap.size w) _) hb1; have hR1 := impl_isLabel.keep (show (w.alloc (.cells #[.int .i16 0, .int .u8 0, .int .u8 0, .int .u8 0, .int .i16 0, .int .i16 0, .int .i16 0, .int .i16 0] 41)).heap[w.heap.size]? = some (.cells #[.int .i16 0, .int .u8 0, .int .u8 0, .int .u8 0, .int .i16 0, .int .i16 0, .int .i16 0, .int .i16 0] 41 (0, 0)) by simpa using heap_alloc_new w _) hb1) | ((with_reducible refine (A2.out _ hB1).mono ?_); rintro e w2 ⟨⟨ev2, rfl⟩, hb2⟩; have hB2 := below_step hB1 hb2; have hR2 := impl_isLabel.keep hR1 hb2)))
  have hC : (convert 9 29 (.string (t.extract 3 6))).run Tryd.prog w2 = .ok (.slice (some ⟨w2.heap.size, 0, none⟩) 3 (grownCap w2 3 0 5)) (Lib.bytesWorld w2 5 (t.extract 3 6)) := by
    have := Lib.run_convert_string_bytes (P := Tryd.prog) w2 9 29 5 (t.extract 3 6) Tryd.underlying9 Tryd.underlying29 Tryd.underlying5
    rwa [s3] at this
  have d0 : _ = some (Value.int .u8 (bt t 3)) := impl_isLabel.cell t w2 hs 0 (by omega)
  have d1 : _ = some (Value.int .u8 (bt t 4)) := impl_isLabel.cell t w2 hs 1 (by omega)
  have d2 : _ = some (Value.int .u8 (bt t 5)) := impl_isLabel.cell t w2 hs 2 (by omega)
  have hA := fun (cp : Nat) (W : World) => run_arrayAt (P := Tryd.prog) (w := W) 39 5 3 (some ⟨w2.heap.size, 0, none⟩) 3 cp Tryd.underlying39 (by omega)
  have hB3 : Below w.heap.size w (Lib.bytesWorld w2 5 (t.extract 3 6)) := below_step hB2 (Lib.bytesWorld_below _ _ _)
  have hR3 := impl_isLabel.keep hR2 (Lib.bytesWorld_below w2 5 (t.extract 3 6))
  have hz3 : w.heap.size ≤ (Lib.bytesWorld w2 5 (t.extract 3 6)).heap.size := hB3.size
  have x1 : IntKind.i16.wrap n1 = n1 := IntWalk.i16_in _ (by omega)
  go_upto_region 6 with fail
  generalize Lib.bytesWorld w2 5 (t.extract 3 6) = w3 at *
  go_upto_region 7 with (go_at_call 28; (with_reducible refine (impl_isLabel.areAll _ w3.heap.size (bt t 3) (bt t 4) (bt t 5) false (by simp) (by simp) (by simp) HM.out).mono ?_); rintro e w4 ⟨rfl, hb4⟩; have q4 : w4.cell? ⟨w3.heap.size, 4, none⟩ = some (.int .i16 0) := pw_cell_below hb4 (by simp); have hR4 := impl_isLabel.keep (blk_alloc hR3 _) hb4; have hO4 := impl_isLabel.keep (show (w3.alloc (.cells #[.int .i16 n1, .int .u8 (bt t 3), .int .u8 (bt t 4), .int .u8 (bt t 5), .int .i16 0, .int .i16 0, .int .i16 0, .int .i16 0] 41)).heap[w3.heap.size]? = some (.cells #[.int .i16 n1, .int .u8 (bt t 3), .int .u8 (bt t 4), .int .u8 (bt t 5), .int .i16 0, .int .i16 0, .int .i16 0, .int .i16 0] 41 (0, 0)) by simpa using heap_alloc_new w3 _) hb4; have hB4 := below_step (below_alloc hB3 _) hb4)
  have F4 := impl_isLabel.facts w4 w3.heap.size w.heap.size n1 (bt t 3) (bt t 4) (bt t 5) 0 0 0 0 hO4 hR4
  go_split_ands
  go_wp2
  obtain ⟨hRF, hBF⟩ := impl_isLabel.put w w4 w.heap.size 0 0 0 0 0 0 0 0 hR4 (Nat.le_refl _) hB4
  obtain ⟨g0, g1, g2, g3, g4, g5, g6, g7⟩ := impl_isLabel.cells8 _ _ _ _ _ _ _ _ _ _ hRF
  clear hR4 hB4
  generalize (World.setCell (World.setCell (World.setCell (World.setCell (World.setCell (World.setCell (World.setCell (World.setCell w4 ⟨w.heap.size, 0, none⟩ (.int .i16 0)) ⟨w.heap.size, 1, none⟩ (.int .u8 0)) ⟨w.heap.size, 2, none⟩ (.int .u8 0)) ⟨w.heap.size, 3, none⟩ (.int .u8 0)) ⟨w.heap.size, 4, none⟩ (.int .i16 0)) ⟨w.heap.size, 5, none⟩ (.int .i16 0)) ⟨w.heap.size, 6, none⟩ (.int .i16 0)) ⟨w.heap.size, 7, none⟩ (.int .i16 0)) = wf at *
  exact bodyPost_ret (v := .tuple #[.agg #[.int .i16 0, .int .u8 0, .int .u8 0, .int .u8 0, .int .i16 0, .int .i16 0, .int .i16 0, .int .i16 0], .bool false]) (by simp [results, Tryd.results24, go_sem, g0, g1, g2, g3, g4, g5, g6, g7]) rfl ⟨rfl, by repeat (first | assumption | exact Below.refl _ _ | apply below_alloc | apply below_drew1 | refine Below.setCell ?_ (by simp) _)⟩
set_option maxHeartbeats 16000000 in
set_option maxRecDepth 100000 in
theorem impl_isLabel.bad101 (t : ByteArray) (n1 n2 : Int) (w : World) (ht_ : Go.Proofs.YtolhlackfphdcaaDoor.Tbl.Tb w) (hs : t.size = 9) (e1 : impl_isLabel.atoiV (t.extract 0 3) = n1) (e2 : impl_isLabel.atoiV (t.extract 6 8) = n2) (q1 : n1 ≤ 32767) (q2 : n2 ≤ 32767) (p1 : 0 ≤ n1) (p2' : ¬ 0 ≤ n2)
    (hm : (impl_isLabel.sm (bt t 3) && (impl_isLabel.sm (bt t 4) && impl_isLabel.sm (bt t 5))) = true) :
    Calls Tryd.prog 24 #[.string t] w fun e w' => e = .returned (.tuple #[.agg #[.int .i16 0, .int .u8 0, .int .u8 0, .int .u8 0, .int .i16 0, .int .i16 0, .int .i16 0, .int .i16 0], .bool false]) ∧ Below w.heap.size w w' := by
  have HT := Aside0.mk ht_
  have s1 : (t.extract 0 3).size = 3 := by rw [ByteArray.size_extract]; omega
  have s2 : (t.extract 6 8).size = 2 := by rw [ByteArray.size_extract]; omega
  have s3 : (t.extract 3 6).size = 3 := by rw [ByteArray.size_extract]; omega
  have A1 := Aside0.mk (fun W (hb : Below w.heap.size w W) => e1 ▸ impl_isLabel.atoi (t.extract 0 3) (by omega) W (HT.out.later hb))
  have A2 := Aside0.mk (fun W (hb : Below w.heap.size w W) => e2 ▸ impl_isLabel.atoi (t.extract 6 8) (by omega) W (HT.out.later hb))
  have HM := Aside0.mk hm
  clear hm
  clear ht_
  go_enter Tryd.func24, Tryd.ntmps24
  go_upto_region 5 with (first | (go_at_call 27; first | ((with_reducible refine (A1.out _ (by repeat (first | exact Below.refl _ _ | apply below_alloc | apply below_drew1))).mono ?_); rintro e w1 ⟨⟨ev1, rfl⟩, hb1⟩; have hB1 := below_step (below_alloc (Below.refl w.heap.size w) _) hb1; have hR1 := impl_isLabel.keep (show (w.alloc (.cells #[.int .i16 0, .int .u8 0, .int .u8 0, .int .u8 0, .int .i16 0, .int .i16 0, .int .i16 0, .int .i16 0] 41)).heap[w.heap.size]? = some (.cells #[.int .i16 0, .int .u8 0, .int .u8 0, .int .u8 0, .int .i16 0, .int .i16 0, .int .i16 0, .int .i16 0] 41 (0, 0)) by simpa using heap_alloc_new w _) hb1) | ((with_reducible refine (A2.out _ hB1).mono ?_); rintro e w2 ⟨⟨ev2, rfl⟩, hb2⟩; have hB2 := below_step hB1 hb2; have hR2 := impl_isLabel.keep hR1 hb2)))
  have hC : (convert 9 29 (.string (t.extract 3 6))).run Tryd.prog w2 = .ok (.slice (some ⟨w2.heap.size, 0, none⟩) 3 (grownCap w2 3 0 5)) (Lib.bytesWorld w2 5 (t.extract 3 6)) := by
    have := Lib.run_convert_string_bytes (P := Tryd.prog) w2 9 29 5 (t.extract 3 6) Tryd.underlying9 Tryd.underlying29 Tryd.underlying5
    rwa [s3] at this
  have d0 : _ = some (Value.int .u8 (bt t 3)) := impl_isLabel.cell t w2 hs 0 (by omega)
  have d1 : _ = some (Value.int .u8 (bt t 4)) := impl_isLabel.cell t w2 hs 1 (by omega)
  have d2 : _ = some (Value.int .u8 (bt t 5)) := impl_isLabel.cell t w2 hs 2 (by omega)
  have hA := fun (cp : Nat) (W : World) => run_arrayAt (P := Tryd.prog) (w := W) 39 5 3 (some ⟨w2.heap.size, 0, none⟩) 3 cp Tryd.underlying39 (by omega)
  have hB3 : Below w.heap.size w (Lib.bytesWorld w2 5 (t.extract 3 6)) := below_step hB2 (Lib.bytesWorld_below _ _ _)
  have hR3 := impl_isLabel.keep hR2 (Lib.bytesWorld_below w2 5 (t.extract 3 6))
  have hz3 : w.heap.size ≤ (Lib.bytesWorld w2 5 (t.extract 3 6)).heap.size := hB3.size
  have x1 : IntKind.i16.wrap n1 = n1 := IntWalk.i16_in _ (by omega)
  go_upto_region 6 with fail
  generalize Lib.bytesWorld w2 5 (t.extract 3 6) = w3 at *
  go_upto_region 7 with (go_at_call 28; (with_reducible refine (impl_isLabel.areAll _ w3.heap.size (bt t 3) (bt t 4) (bt t 5) true (by simp) (by simp) (by simp) HM.out).mono ?_); rintro e w4 ⟨rfl, hb4⟩; have q4 : w4.cell? ⟨w3.heap.size, 4, none⟩ = some (.int .i16 0) := pw_cell_below hb4 (by simp); have hR4 := impl_isLabel.keep (blk_alloc hR3 _) hb4; have hO4 := impl_isLabel.keep (show (w3.alloc (.cells #[.int .i16 n1, .int .u8 (bt t 3), .int .u8 (bt t 4), .int .u8 (bt t 5), .int .i16 0, .int .i16 0, .int .i16 0, .int .i16 0] 41)).heap[w3.heap.size]? = some (.cells #[.int .i16 n1, .int .u8 (bt t 3), .int .u8 (bt t 4), .int .u8 (bt t 5), .int .i16 0, .int .i16 0, .int .i16 0, .int .i16 0] 41 (0, 0)) by simpa using heap_alloc_new w3 _) hb4; have hB4 := below_step (below_alloc hB3 _) hb4)
  have F4 := impl_isLabel.facts w4 w3.heap.size w.heap.size n1 (bt t 3) (bt t 4) (bt t 5) 0 0 0 0 hO4 hR4
  go_split_ands
  go_wp2
  obtain ⟨hRF, hBF⟩ := impl_isLabel.put w w4 w.heap.size 0 0 0 0 0 0 0 0 hR4 (Nat.le_refl _) hB4
  obtain ⟨g0, g1, g2, g3, g4, g5, g6, g7⟩ := impl_isLabel.cells8 _ _ _ _ _ _ _ _ _ _ hRF
  clear hR4 hB4
  generalize (World.setCell (World.setCell (World.setCell (World.setCell (World.setCell (World.setCell (World.setCell (World.setCell w4 ⟨w.heap.size, 0, none⟩ (.int .i16 0)) ⟨w.heap.size, 1, none⟩ (.int .u8 0)) ⟨w.heap.size, 2, none⟩ (.int .u8 0)) ⟨w.heap.size, 3, none⟩ (.int .u8 0)) ⟨w.heap.size, 4, none⟩ (.int .i16 0)) ⟨w.heap.size, 5, none⟩ (.int .i16 0)) ⟨w.heap.size, 6, none⟩ (.int .i16 0)) ⟨w.heap.size, 7, none⟩ (.int .i16 0)) = wf at *
  exact bodyPost_ret (v := .tuple #[.agg #[.int .i16 0, .int .u8 0, .int .u8 0, .int .u8 0, .int .i16 0, .int .i16 0, .int .i16 0, .int .i16 0], .bool false]) (by simp [results, Tryd.results24, go_sem, g0, g1, g2, g3, g4, g5, g6, g7]) rfl ⟨rfl, by repeat (first | assumption | exact Below.refl _ _ | apply below_alloc | apply below_drew1 | refine Below.setCell ?_ (by simp) _)⟩
set_option maxHeartbeats 16000000 in
set_option maxRecDepth 100000 in
theorem impl_isLabel.bad010 (t : ByteArray) (n1 n2 : Int) (w : World) (ht_ : Go.Proofs.YtolhlackfphdcaaDoor.Tbl.Tb w) (hs : t.size = 9) (e1 : impl_isLabel.atoiV (t.extract 0 3) = n1) (e2 : impl_isLabel.atoiV (t.extract 6 8) = n2) (q1 : n1 ≤ 32767) (q2 : n2 ≤ 32767) (p1 : ¬ 0 ≤ n1) (p2' : 0 ≤ n2)
    (hm : (impl_isLabel.sm (bt t 3) && (impl_isLabel.sm (bt t 4) && impl_isLabel.sm (bt t 5))) = false) :
    Calls Tryd.prog 24 #[.string t] w fun e w' => e = .returned (.tuple #[.agg #[.int .i16 0, .int .u8 0, .int .u8 0, .int .u8 0, .int .i16 0, .int .i16 0, .int .i16 0, .int .i16 0], .bool false]) ∧ Below w.heap.size w w' := by
  have HT := Aside0.mk ht_
  have s1 : (t.extract 0 3).size = 3 := by rw [ByteArray.size_extract]; omega
  have s2 : (t.extract 6 8).size = 2 := by rw [ByteArray.size_extract]; omega
  have s3 : (t.extract 3 6).size = 3 := by rw [ByteArray.size_extract]; omega
  have A1 := Aside0.mk (fun W (hb : Below w.heap.size w W) => e1 ▸ impl_isLabel.atoi (t.extract 0 3) (by omega) W (HT.out.later hb))
  have A2 := Aside0.mk (fun W (hb : Below w.heap.size w W) => e2 ▸ impl_isLabel.atoi (t.extract 6 8) (by omega) W (HT.out.later hb))
  have HM := Aside0.mk hm
  clear hm
  clear ht_
  go_enter Tryd.func24, Tryd.ntmps24
  go_upto_region 5 with (first | (go_at_call 27; first | ((with_reducible refine (A1.out _ (by repeat (first | exact Below.refl _ _ | apply below_alloc | apply below_drew1))).mono ?_); rintro e w1 ⟨⟨ev1, rfl⟩, hb1⟩; have hB1 := below_step (below_alloc (Below.refl w.heap.size w) _) hb1; have hR1 := impl_isLabel.keep (show (w.alloc (.cells #[.int .i16 0, .int .u8 0, .int .u8 0, .int .u8 0, .int .i16 0, .int .i16 0, .int .i16 0, .int .i16 0] 41)).heap[w.heap.size]? = some (.cells #[.int .i16 0, .int .u8 0, .int .u8 0, .int .u8 0, .int .i16 0, .int .i16 0, .int .i16 0, .int .i16 0] 41 (0, 0)) by simpa using heap_alloc_new w _) hb1) | ((with_reducible refine (A2.out _ hB1).mono ?_); rintro e w2 ⟨⟨ev2, rfl⟩, hb2⟩; have hB2 := below_step hB1 hb2; have hR2 := impl_isLabel.keep hR1 hb2)))
  have hC : (convert 9 29 (.string (t.extract 3 6))).run Tryd.prog w2 = .ok (.slice (some ⟨w2.heap.size, 0, none⟩) 3 (grownCap w2 3 0 5)) (Lib.bytesWorld w2 5 (t.extract 3 6)) := by
    have := Lib.run_convert_string_bytes (P := Tryd.prog) w2 9 29 5 (t.extract 3 6) Tryd.underlying9 Tryd.underlying29 Tryd.underlying5
    rwa [s3] at this
  have d0 : _ = some (Value.int .u8 (bt t 3)) := impl_isLabel.cell t w2 hs 0 (by omega)
  have d1 : _ = some (Value.int .u8 (bt t 4)) := impl_isLabel.cell t w2 hs 1 (by omega)
  have d2 : _ = some (Value.int .u8 (bt t 5)) := impl_isLabel.cell t w2 hs 2 (by omega)
  have hA := fun (cp : Nat) (W : World) => run_arrayAt (P := Tryd.prog) (w := W) 39 5 3 (some ⟨w2.heap.size, 0, none⟩) 3 cp Tryd.underlying39 (by omega)
  have hB3 : Below w.heap.size w (Lib.bytesWorld w2 5 (t.extract 3 6)) := below_step hB2 (Lib.bytesWorld_below _ _ _)
  have hR3 := impl_isLabel.keep hR2 (Lib.bytesWorld_below w2 5 (t.extract 3 6))
  have hz3 : w.heap.size ≤ (Lib.bytesWorld w2 5 (t.extract 3 6)).heap.size := hB3.size
  have x2 : IntKind.i16.wrap n2 = n2 := IntWalk.i16_in _ (by omega)
  go_upto_region 6 with fail
  generalize Lib.bytesWorld w2 5 (t.extract 3 6) = w3 at *
  go_upto_region 7 with (go_at_call 28; (with_reducible refine (impl_isLabel.areAll _ w3.heap.size (bt t 3) (bt t 4) (bt t 5) false (by simp) (by simp) (by simp) HM.out).mono ?_); rintro e w4 ⟨rfl, hb4⟩; have q4 : w4.cell? ⟨w3.heap.size, 4, none⟩ = some (.int .i16 n2) := pw_cell_below hb4 (by simp); have hR4 := impl_isLabel.keep (blk_alloc hR3 _) hb4; have hO4 := impl_isLabel.keep (show (w3.alloc (.cells #[.int .i16 0, .int .u8 (bt t 3), .int .u8 (bt t 4), .int .u8 (bt t 5), .int .i16 n2, .int .i16 0, .int .i16 0, .int .i16 0] 41)).heap[w3.heap.size]? = some (.cells #[.int .i16 0, .int .u8 (bt t 3), .int .u8 (bt t 4), .int .u8 (bt t 5), .int .i16 n2, .int .i16 0, .int .i16 0, .int .i16 0] 41 (0, 0)) by simpa using heap_alloc_new w3 _) hb4; have hB4 := below_step (below_alloc hB3 _) hb4)
  have F4 := impl_isLabel.facts w4 w3.heap.size w.heap.size 0 (bt t 3) (bt t 4) (bt t 5) n2 0 0 0 hO4 hR4
  go_split_ands
  go_wp2
  obtain ⟨hRF, hBF⟩ := impl_isLabel.put w w4 w.heap.size 0 0 0 0 0 0 0 0 hR4 (Nat.le_refl _) hB4
  obtain ⟨g0, g1, g2, g3, g4, g5, g6, g7⟩ := impl_isLabel.cells8 _ _ _ _ _ _ _ _ _ _ hRF
  clear hR4 hB4
  generalize (World.setCell (World.setCell (World.setCell (World.setCell (World.setCell (World.setCell (World.setCell (World.setCell w4 ⟨w.heap.size, 0, none⟩ (.int .i16 0)) ⟨w.heap.size, 1, none⟩ (.int .u8 0)) ⟨w.heap.size, 2, none⟩ (.int .u8 0)) ⟨w.heap.size, 3, none⟩ (.int .u8 0)) ⟨w.heap.size, 4, none⟩ (.int .i16 0)) ⟨w.heap.size, 5, none⟩ (.int .i16 0)) ⟨w.heap.size, 6, none⟩ (.int .i16 0)) ⟨w.heap.size, 7, none⟩ (.int .i16 0)) = wf at *
  exact bodyPost_ret (v := .tuple #[.agg #[.int .i16 0, .int .u8 0, .int .u8 0, .int .u8 0, .int .i16 0, .int .i16 0, .int .i16 0, .int .i16 0], .bool false]) (by simp [results, Tryd.results24, go_sem, g0, g1, g2, g3, g4, g5, g6, g7]) rfl ⟨rfl, by repeat (first | assumption | exact Below.refl _ _ | apply below_alloc | apply below_drew1 | refine Below.setCell ?_ (by simp) _)⟩
set_option maxHeartbeats 16000000 in
set_option maxRecDepth 100000 in
theorem impl_isLabel.bad000 (t : ByteArray) (n1 n2 : Int) (w : World) (ht_ : Go.Proofs.YtolhlackfphdcaaDoor.Tbl.Tb w) (hs : t.size = 9) (e1 : impl_isLabel.atoiV (t.extract 0 3) = n1) (e2 : impl_isLabel.atoiV (t.extract 6 8) = n2) (q1 : n1 ≤ 32767) (q2 : n2 ≤ 32767) (p1 : ¬ 0 ≤ n1) (p2' : ¬ 0 ≤ n2)
    (hm : (impl_isLabel.sm (bt t 3) && (impl_isLabel.sm (bt t 4) && impl_isLabel.sm (bt t 5))) = false) :
    Calls Tryd.prog 24 #[.string t] w fun e w' => e = .returned (.tuple #[.agg #[.int .i16 0, .int .u8 0, .int .u8 0, .int .u8 0, .int .i16 0, .int .i16 0, .int .i16 0, .int .i16 0], .bool false]) ∧ Below w.heap.size w w' := by
  have HT := Aside0.mk ht_
  have s1 : (t.extract 0 3).size = 3 := by rw [ByteArray.size_extract]; omega
  have s2 : (t.extract 6 8).size = 2 := by rw [ByteArray.size_extract]; omega
  have s3 : (t.extract 3 6).size = 3 := by rw [ByteArray.size_extract]; omega
  have A1 := Aside0.mk (fun W (hb : Below w.heap.size w W) => e1 ▸ impl_isLabel.atoi (t.extract 0 3) (by omega) W (HT.out.later hb))
  have A2 := Aside0.mk (fun W (hb : Below w.heap.size w W) => e2 ▸ impl_isLabel.atoi (t.extract 6 8) (by omega) W (HT.out.later hb))
  have HM := Aside0.mk hm
  clear hm
  clear ht_
  go_enter Tryd.func24, Tryd.ntmps24
  go_upto_region 5 with (first | (go_at_call 27; first | ((with_reducible refine (A1.out _ (by repeat (first | exact Below.refl _ _ | apply below_alloc | apply below_drew1))).mono ?_); rintro e w1 ⟨⟨ev1, rfl⟩, hb1⟩; have hB1 := below_step (below_alloc (Below.refl w.heap.size w) _) hb1; have hR1 := impl_isLabel.keep (show (w.alloc (.cells #[.int .i16 0, .int .u8 0, .int .u8 0, .int .u8 0, .int .i16 0, .int .i16 0, .int .i16 0, .int .i16 0] 41)).heap[w.heap.size]? = some (.cells #[.int .i16 0, .int .u8 0, .int .u8 0, .int .u8 0, .int .i16 0, .int .i16 0, .int .i16 0, .int .i16 0] 41 (0, 0)) by simpa using heap_alloc_new w _) hb1) | ((with_reducible refine (A2.out _ hB1).mono ?_); rintro e w2 ⟨⟨ev2, rfl⟩, hb2⟩; have hB2 := below_step hB1 hb2; have hR2 := impl_isLabel.keep hR1 hb2)))
  have hC : (convert 9 29 (.string (t.extract 3 6))).run Tryd.prog w2 = .ok (.slice (some ⟨w2.heap.size, 0, none⟩) 3 (grownCap w2 3 0 5)) (Lib.bytesWorld w2 5 (t.extract 3 6)) := by
    have := Lib.run_convert_string_bytes (P := Tryd.prog) w2 9 29 5 (t.extract 3 6) Tryd.underlying9 Tryd.underlying29 Tryd.underlying5
    rwa [s3] at this
  have d0 : _ = some (Value.int .u8 (bt t 3)) := impl_isLabel.cell t w2 hs 0 (by omega)
  have d1 : _ = some (Value.int .u8 (bt t 4)) := impl_isLabel.cell t w2 hs 1 (by omega)
  have d2 : _ = some (Value.int .u8 (bt t 5)) := impl_isLabel.cell t w2 hs 2 (by omega)
  have hA := fun (cp : Nat) (W : World) => run_arrayAt (P := Tryd.prog) (w := W) 39 5 3 (some ⟨w2.heap.size, 0, none⟩) 3 cp Tryd.underlying39 (by omega)
  have hB3 : Below w.heap.size w (Lib.bytesWorld w2 5 (t.extract 3 6)) := below_step hB2 (Lib.bytesWorld_below _ _ _)
  have hR3 := impl_isLabel.keep hR2 (Lib.bytesWorld_below w2 5 (t.extract 3 6))
  have hz3 : w.heap.size ≤ (Lib.bytesWorld w2 5 (t.extract 3 6)).heap.size := hB3.size
  go_upto_region 6 with fail
  generalize Lib.bytesWorld w2 5 (t.extract 3 6) = w3 at *
  go_upto_region 7 with (go_at_call 28; (with_reducible refine (impl_isLabel.areAll _ w3.heap.size (bt t 3) (bt t 4) (bt t 5) false (by simp) (by simp) (by simp) HM.out).mono ?_); rintro e w4 ⟨rfl, hb4⟩; have q4 : w4.cell? ⟨w3.heap.size, 4, none⟩ = some (.int .i16 0) := pw_cell_below hb4 (by simp); have hR4 := impl_isLabel.keep (blk_alloc hR3 _) hb4; have hO4 := impl_isLabel.keep (show (w3.alloc (.cells #[.int .i16 0, .int .u8 (bt t 3), .int .u8 (bt t 4), .int .u8 (bt t 5), .int .i16 0, .int .i16 0, .int .i16 0, .int .i16 0] 41)).heap[w3.heap.size]? = some (.cells #[.int .i16 0, .int .u8 (bt t 3), .int .u8 (bt t 4), .int .u8 (bt t 5), .int .i16 0, .int .i16 0, .int .i16 0, .int .i16 0] 41 (0, 0)) by simpa using heap_alloc_new w3 _) hb4; have hB4 := below_step (below_alloc hB3 _) hb4)
  have F4 := impl_isLabel.facts w4 w3.heap.size w.heap.size 0 (bt t 3) (bt t 4) (bt t 5) 0 0 0 0 hO4 hR4
  go_split_ands
  go_wp2
  obtain ⟨hRF, hBF⟩ := impl_isLabel.put w w4 w.heap.size 0 0 0 0 0 0 0 0 hR4 (Nat.le_refl _) hB4
  obtain ⟨g0, g1, g2, g3, g4, g5, g6, g7⟩ := impl_isLabel.cells8 _ _ _ _ _ _ _ _ _ _ hRF
  clear hR4 hB4
  generalize (World.setCell (World.setCell (World.setCell (World.setCell (World.setCell (World.setCell (World.setCell (World.setCell w4 ⟨w.heap.size, 0, none⟩ (.int .i16 0)) ⟨w.heap.size, 1, none⟩ (.int .u8 0)) ⟨w.heap.size, 2, none⟩ (.int .u8 0)) ⟨w.heap.size, 3, none⟩ (.int .u8 0)) ⟨w.heap.size, 4, none⟩ (.int .i16 0)) ⟨w.heap.size, 5, none⟩ (.int .i16 0)) ⟨w.heap.size, 6, none⟩ (.int .i16 0)) ⟨w.heap.size, 7, none⟩ (.int .i16 0)) = wf at *
  exact bodyPost_ret (v := .tuple #[.agg #[.int .i16 0, .int .u8 0, .int .u8 0, .int .u8 0, .int .i16 0, .int .i16 0, .int .i16 0, .int .i16 0], .bool false]) (by simp [results, Tryd.results24, go_sem, g0, g1, g2, g3, g4, g5, g6, g7]) rfl ⟨rfl, by repeat (first | assumption | exact Below.refl _ _ | apply below_alloc | apply below_drew1 | refine Below.setCell ?_ (by simp) _)⟩
set_option maxHeartbeats 16000000 in
set_option maxRecDepth 100000 in
theorem impl_isLabel.bad001 (t : ByteArray) (n1 n2 : Int) (w : World) (ht_ : Go.Proofs.YtolhlackfphdcaaDoor.Tbl.Tb w) (hs : t.size = 9) (e1 : impl_isLabel.atoiV (t.extract 0 3) = n1) (e2 : impl_isLabel.atoiV (t.extract 6 8) = n2) (q1 : n1 ≤ 32767) (q2 : n2 ≤ 32767) (p1 : ¬ 0 ≤ n1) (p2' : ¬ 0 ≤ n2)
    (hm : (impl_isLabel.sm (bt t 3) && (impl_isLabel.sm (bt t 4) && impl_isLabel.sm (bt t 5))) = true) :
    Calls Tryd.prog 24 #[.string t] w fun e w' => e = .returned (.tuple #[.agg #[.int .i16 0, .int .u8 0, .int .u8 0, .int .u8 0, .int .i16 0, .int .i16 0, .int .i16 0, .int .i16 0], .bool false]) ∧ Below w.heap.size w w' := by
  have HT := Aside0.mk ht_
  have s1 : (t.extract 0 3).size = 3 := by rw [ByteArray.size_extract]; omega
  have s2 : (t.extract 6 8).size = 2 := by rw [ByteArray.size_extract]; omega
  have s3 : (t.extract 3 6).size = 3 := by rw [ByteArray.size_extract]; omega
  have A1 := Aside0.mk (fun W (hb : Below w.heap.size w W) => e1 ▸ impl_isLabel.atoi (t.extract 0 3) (by omega) W (HT.out.later hb))
  have A2 := Aside0.mk (fun W (hb : Below w.heap.size w W) => e2 ▸ impl_isLabel.atoi (t.extract 6 8) (by omega) W (HT.out.later hb))
  have HM := Aside0.mk hm
  clear hm
  clear ht_
  go_enter Tryd.func24, Tryd.ntmps24
  go_upto_region 5 with (first | (go_at_call 27; first | ((with_reducible refine (A1.out _ (by repeat (first | exact Below.refl _ _ | apply below_alloc | apply below_drew1))).mono ?_); rintro e w1 ⟨⟨ev1, rfl⟩, hb1⟩; have hB1 := below_step (below_alloc (Below.refl w.heap.size w) _) hb1; have hR1 := impl_isLabel.keep (show (w.alloc (.cells #[.int .i16 0, .int .u8 0, .int .u8 0, .int .u8 0, .int .i16 0, .int .i16 0, .int .i16 0, .int .i16 0] 41)).heap[w.heap.size]? = some (.cells #[.int .i16 0, .int .u8 0, .int .u8 0, .int .u8 0, .int .i16 0, .int .i16 0, .int .i16 0, .int .i16 0] 41 (0, 0)) by simpa using heap_alloc_new w _) hb1) | ((with_reducible refine (A2.out _ hB1).mono ?_); rintro e w2 ⟨⟨ev2, rfl⟩, hb2⟩; have hB2 := below_step hB1 hb2; have hR2 := impl_isLabel.keep hR1 hb2)))
  have hC : (convert 9 29 (.string (t.extract 3 6))).run Tryd.prog w2 = .ok (.slice (some ⟨w2.heap.size, 0, none⟩) 3 (grownCap w2 3 0 5)) (Lib.bytesWorld w2 5 (t.extract 3 6)) := by
    have := Lib.run_convert_string_bytes (P := Tryd.prog) w2 9 29 5 (t.extract 3 6) Tryd.underlying9 Tryd.underlying29 Tryd.underlying5
    rwa [s3] at this
  have d0 : _ = some (Value.int .u8 (bt t 3)) := impl_isLabel.cell t w2 hs 0 (by omega)
  have d1 : _ = some (Value.int .u8 (bt t 4)) := impl_isLabel.cell t w2 hs 1 (by omega)
  have d2 : _ = some (Value.int .u8 (bt t 5)) := impl_isLabel.cell t w2 hs 2 (by omega)
  have hA := fun (cp : Nat) (W : World) => run_arrayAt (P := Tryd.prog) (w := W) 39 5 3 (some ⟨w2.heap.size, 0, none⟩) 3 cp Tryd.underlying39 (by omega)
  have hB3 : Below w.heap.size w (Lib.bytesWorld w2 5 (t.extract 3 6)) := below_step hB2 (Lib.bytesWorld_below _ _ _)
  have hR3 := impl_isLabel.keep hR2 (Lib.bytesWorld_below w2 5 (t.extract 3 6))
  have hz3 : w.heap.size ≤ (Lib.bytesWorld w2 5 (t.extract 3 6)).heap.size := hB3.size
  go_upto_region 6 with fail
  generalize Lib.bytesWorld w2 5 (t.extract 3 6) = w3 at *
  go_upto_region 7 with (go_at_call 28; (with_reducible refine (impl_isLabel.areAll _ w3.heap.size (bt t 3) (bt t 4) (bt t 5) true (by simp) (by simp) (by simp) HM.out).mono ?_); rintro e w4 ⟨rfl, hb4⟩; have q4 : w4.cell? ⟨w3.heap.size, 4, none⟩ = some (.int .i16 0) := pw_cell_below hb4 (by simp); have hR4 := impl_isLabel.keep (blk_alloc hR3 _) hb4; have hO4 := impl_isLabel.keep (show (w3.alloc (.cells #[.int .i16 0, .int .u8 (bt t 3), .int .u8 (bt t 4), .int .u8 (bt t 5), .int .i16 0, .int .i16 0, .int .i16 0, .int .i16 0] 41)).heap[w3.heap.size]? = some (.cells #[.int .i16 0, .int .u8 (bt t 3), .int .u8 (bt t 4), .int .u8 (bt t 5), .int .i16 0, .int .i16 0, .int .i16 0, .int .i16 0] 41 (0, 0)) by simpa using heap_alloc_new w3 _) hb4; have hB4 := below_step (below_alloc hB3 _) hb4)
  have F4 := impl_isLabel.facts w4 w3.heap.size w.heap.size 0 (bt t 3) (bt t 4) (bt t 5) 0 0 0 0 hO4 hR4
  go_split_ands
  go_wp2
  obtain ⟨hRF, hBF⟩ := impl_isLabel.put w w4 w.heap.size 0 0 0 0 0 0 0 0 hR4 (Nat.le_refl _) hB4
  obtain ⟨g0, g1, g2, g3, g4, g5, g6, g7⟩ := impl_isLabel.cells8 _ _ _ _ _ _ _ _ _ _ hRF
  clear hR4 hB4
  generalize (World.setCell (World.setCell (World.setCell (World.setCell (World.setCell (World.setCell (World.setCell (World.setCell w4 ⟨w.heap.size, 0, none⟩ (.int .i16 0)) ⟨w.heap.size, 1, none⟩ (.int .u8 0)) ⟨w.heap.size, 2, none⟩ (.int .u8 0)) ⟨w.heap.size, 3, none⟩ (.int .u8 0)) ⟨w.heap.size, 4, none⟩ (.int .i16 0)) ⟨w.heap.size, 5, none⟩ (.int .i16 0)) ⟨w.heap.size, 6, none⟩ (.int .i16 0)) ⟨w.heap.size, 7, none⟩ (.int .i16 0)) = wf at *
  exact bodyPost_ret (v := .tuple #[.agg #[.int .i16 0, .int .u8 0, .int .u8 0, .int .u8 0, .int .i16 0, .int .i16 0, .int .i16 0, .int .i16 0], .bool false]) (by simp [results, Tryd.results24, go_sem, g0, g1, g2, g3, g4, g5, g6, g7]) rfl ⟨rfl, by repeat (first | assumption | exact Below.refl _ _ | apply below_alloc | apply below_drew1 | refine Below.setCell ?_ (by simp) _)⟩
set_option maxHeartbeats 16000000 in
set_option maxRecDepth 100000 in
theorem impl_isLabel.bad111 (t : ByteArray) (n1 n2 : Int) (w : World) (ht_ : Go.Proofs.YtolhlackfphdcaaDoor.Tbl.Tb w) (hs : t.size = 9) (e1 : impl_isLabel.atoiV (t.extract 0 3) = n1) (e2 : impl_isLabel.atoiV (t.extract 6 8) = n2) (q1 : n1 ≤ 32767) (q2 : n2 ≤ 32767) (p1 : 0 ≤ n1) (p2' : n2 = 0)
    (hm : (impl_isLabel.sm (bt t 3) && (impl_isLabel.sm (bt t 4) && impl_isLabel.sm (bt t 5))) = true) :
    Calls Tryd.prog 24 #[.string t] w fun e w' => e = .returned (.tuple #[.agg #[.int .i16 0, .int .u8 0, .int .u8 0, .int .u8 0, .int .i16 0, .int .i16 0, .int .i16 0, .int .i16 0], .bool false]) ∧ Below w.heap.size w w' := by
  subst p2'
  have HT := Aside0.mk ht_
  have s1 : (t.extract 0 3).size = 3 := by rw [ByteArray.size_extract]; omega
  have s2 : (t.extract 6 8).size = 2 := by rw [ByteArray.size_extract]; omega
  have s3 : (t.extract 3 6).size = 3 := by rw [ByteArray.size_extract]; omega
  have A1 := Aside0.mk (fun W (hb : Below w.heap.size w W) => e1 ▸ impl_isLabel.atoi (t.extract 0 3) (by omega) W (HT.out.later hb))
  have A2 := Aside0.mk (fun W (hb : Below w.heap.size w W) => e2 ▸ impl_isLabel.atoi (t.extract 6 8) (by omega) W (HT.out.later hb))
  have HM := Aside0.mk hm
  clear hm
  clear ht_
  go_enter Tryd.func24, Tryd.ntmps24
  go_upto_region 5 with (first | (go_at_call 27; first | ((with_reducible refine (A1.out _ (by repeat (first | exact Below.refl _ _ | apply below_alloc | apply below_drew1))).mono ?_); rintro e w1 ⟨⟨ev1, rfl⟩, hb1⟩; have hB1 := below_step (below_alloc (Below.refl w.heap.size w) _) hb1; have hR1 := impl_isLabel.keep (show (w.alloc (.cells #[.int .i16 0, .int .u8 0, .int .u8 0, .int .u8 0, .int .i16 0, .int .i16 0, .int .i16 0, .int .i16 0] 41)).heap[w.heap.size]? = some (.cells #[.int .i16 0, .int .u8 0, .int .u8 0, .int .u8 0, .int .i16 0, .int .i16 0, .int .i16 0, .int .i16 0] 41 (0, 0)) by simpa using heap_alloc_new w _) hb1) | ((with_reducible refine (A2.out _ hB1).mono ?_); rintro e w2 ⟨⟨ev2, rfl⟩, hb2⟩; have hB2 := below_step hB1 hb2; have hR2 := impl_isLabel.keep hR1 hb2)))
  have hC : (convert 9 29 (.string (t.extract 3 6))).run Tryd.prog w2 = .ok (.slice (some ⟨w2.heap.size, 0, none⟩) 3 (grownCap w2 3 0 5)) (Lib.bytesWorld w2 5 (t.extract 3 6)) := by
    have := Lib.run_convert_string_bytes (P := Tryd.prog) w2 9 29 5 (t.extract 3 6) Tryd.underlying9 Tryd.underlying29 Tryd.underlying5
    rwa [s3] at this
  have d0 : _ = some (Value.int .u8 (bt t 3)) := impl_isLabel.cell t w2 hs 0 (by omega)
  have d1 : _ = some (Value.int .u8 (bt t 4)) := impl_isLabel.cell t w2 hs 1 (by omega)
  have d2 : _ = some (Value.int .u8 (bt t 5)) := impl_isLabel.cell t w2 hs 2 (by omega)
  have hA := fun (cp : Nat) (W : World) => run_arrayAt (P := Tryd.prog) (w := W) 39 5 3 (some ⟨w2.heap.size, 0, none⟩) 3 cp Tryd.underlying39 (by omega)
  have hB3 : Below w.heap.size w (Lib.bytesWorld w2 5 (t.extract 3 6)) := below_step hB2 (Lib.bytesWorld_below _ _ _)
  have hR3 := impl_isLabel.keep hR2 (Lib.bytesWorld_below w2 5 (t.extract 3 6))
  have hz3 : w.heap.size ≤ (Lib.bytesWorld w2 5 (t.extract 3 6)).heap.size := hB3.size
  have x1 : IntKind.i16.wrap n1 = n1 := IntWalk.i16_in _ (by omega)
  go_upto_region 6 with fail
  generalize Lib.bytesWorld w2 5 (t.extract 3 6) = w3 at *
  go_upto_region 7 with (go_at_call 28; (with_reducible refine (impl_isLabel.areAll _ w3.heap.size (bt t 3) (bt t 4) (bt t 5) true (by simp) (by simp) (by simp) HM.out).mono ?_); rintro e w4 ⟨rfl, hb4⟩; have q4 : w4.cell? ⟨w3.heap.size, 4, none⟩ = some (.int .i16 0) := pw_cell_below hb4 (by simp); have hR4 := impl_isLabel.keep (blk_alloc hR3 _) hb4; have hO4 := impl_isLabel.keep (show (w3.alloc (.cells #[.int .i16 n1, .int .u8 (bt t 3), .int .u8 (bt t 4), .int .u8 (bt t 5), .int .i16 0, .int .i16 0, .int .i16 0, .int .i16 0] 41)).heap[w3.heap.size]? = some (.cells #[.int .i16 n1, .int .u8 (bt t 3), .int .u8 (bt t 4), .int .u8 (bt t 5), .int .i16 0, .int .i16 0, .int .i16 0, .int .i16 0] 41 (0, 0)) by simpa using heap_alloc_new w3 _) hb4; have hB4 := below_step (below_alloc hB3 _) hb4)
  have F4 := impl_isLabel.facts w4 w3.heap.size w.heap.size n1 (bt t 3) (bt t 4) (bt t 5) 0 0 0 0 hO4 hR4
  go_split_ands
  go_wp2
  obtain ⟨hRF, hBF⟩ := impl_isLabel.put w w4 w.heap.size 0 0 0 0 0 0 0 0 hR4 (Nat.le_refl _) hB4
  obtain ⟨g0, g1, g2, g3, g4, g5, g6, g7⟩ := impl_isLabel.cells8 _ _ _ _ _ _ _ _ _ _ hRF
  clear hR4 hB4
  generalize (World.setCell (World.setCell (World.setCell (World.setCell (World.setCell (World.setCell (World.setCell (World.setCell w4 ⟨w.heap.size, 0, none⟩ (.int .i16 0)) ⟨w.heap.size, 1, none⟩ (.int .u8 0)) ⟨w.heap.size, 2, none⟩ (.int .u8 0)) ⟨w.heap.size, 3, none⟩ (.int .u8 0)) ⟨w.heap.size, 4, none⟩ (.int .i16 0)) ⟨w.heap.size, 5, none⟩ (.int .i16 0)) ⟨w.heap.size, 6, none⟩ (.int .i16 0)) ⟨w.heap.size, 7, none⟩ (.int .i16 0)) = wf at *
  exact bodyPost_ret (v := .tuple #[.agg #[.int .i16 0, .int .u8 0, .int .u8 0, .int .u8 0, .int .i16 0, .int .i16 0, .int .i16 0, .int .i16 0], .bool false]) (by simp [results, Tryd.results24, go_sem, g0, g1, g2, g3, g4, g5, g6, g7]) rfl ⟨rfl, by repeat (first | assumption | exact Below.refl _ _ | apply below_alloc | apply below_drew1 | refine Below.setCell ?_ (by simp) _)⟩
set_option maxHeartbeats 16000000 in
set_option maxRecDepth 100000 in
theorem impl_isLabel.bad011 (t : ByteArray) (n1 n2 : Int) (w : World) (ht_ : Go.Proofs.YtolhlackfphdcaaDoor.Tbl.Tb w) (hs : t.size = 9) (e1 : impl_isLabel.atoiV (t.extract 0 3) = n1) (e2 : impl_isLabel.atoiV (t.extract 6 8) = n2) (q1 : n1 ≤ 32767) (q2 : n2 ≤ 32767) (p1 : ¬ 0 ≤ n1) (p2' : n2 = 0)
    (hm : (impl_isLabel.sm (bt t 3) && (impl_isLabel.sm (bt t 4) && impl_isLabel.sm (bt t 5))) = true) :
    Calls Tryd.prog 24 #[.string t] w fun e w' => e = .returned (.tuple #[.agg #[.int .i16 0, .int .u8 0, .int .u8 0, .int .u8 0, .int .i16 0, .int .i16 0, .int .i16 0, .int .i16 0], .bool false]) ∧ Below w.heap.size w w' := by
  subst p2'
  have HT := Aside0.mk ht_
  have s1 : (t.extract 0 3).size = 3 := by rw [ByteArray.size_extract]; omega
  have s2 : (t.extract 6 8).size = 2 := by rw [ByteArray.size_extract]; omega
  have s3 : (t.extract 3 6).size = 3 := by rw [ByteArray.size_extract]; omega
  have A1 := Aside0.mk (fun W (hb : Below w.heap.size w W) => e1 ▸ impl_isLabel.atoi (t.extract 0 3) (by omega) W (HT.out.later hb))
  have A2 := Aside0.mk (fun W (hb : Below w.heap.size w W) => e2 ▸ impl_isLabel.atoi (t.extract 6 8) (by omega) W (HT.out.later hb))
  have HM := Aside0.mk hm
  clear hm
  clear ht_
  go_enter Tryd.func24, Tryd.ntmps24
  go_upto_region 5 with (first | (go_at_call 27; first | ((with_reducible refine (A1.out _ (by repeat (first | exact Below.refl _ _ | apply below_alloc | apply below_drew1))).mono ?_); rintro e w1 ⟨⟨ev1, rfl⟩, hb1⟩; have hB1 := below_step (below_alloc (Below.refl w.heap.size w) _) hb1; have hR1 := impl_isLabel.keep (show (w.alloc (.cells #[.int .i16 0, .int .u8 0, .int .u8 0, .int .u8 0, .int .i16 0, .int .i16 0, .int .i16 0, .int .i16 0] 41)).heap[w.heap.size]? = some (.cells #[.int .i16 0, .int .u8 0, .int .u8 0, .int .u8 0, .int .i16 0, .int .i16 0, .int .i16 0, .int .i16 0] 41 (0, 0)) by simpa using heap_alloc_new w _) hb1) | ((with_reducible refine (A2.out _ hB1).mono ?_); rintro e w2 ⟨⟨ev2, rfl⟩, hb2⟩; have hB2 := below_step hB1 hb2; have hR2 := impl_isLabel.keep hR1 hb2)))
  have hC : (convert 9 29 (.string (t.extract 3 6))).run Tryd.prog w2 = .ok (.slice (some ⟨w2.heap.size, 0, none⟩) 3 (grownCap w2 3 0 5)) (Lib.bytesWorld w2 5 (t.extract 3 6)) := by
    have := Lib.run_convert_string_bytes (P := Tryd.prog) w2 9 29 5 (t.extract 3 6) Tryd.underlying9 Tryd.underlying29 Tryd.underlying5
    rwa [s3] at this
  have d0 : _ = some (Value.int .u8 (bt t 3)) := impl_isLabel.cell t w2 hs 0 (by omega)
  have d1 : _ = some (Value.int .u8 (bt t 4)) := impl_isLabel.cell t w2 hs 1 (by omega)
  have d2 : _ = some (Value.int .u8 (bt t 5)) := impl_isLabel.cell t w2 hs 2 (by omega)
  have hA := fun (cp : Nat) (W : World) => run_arrayAt (P := Tryd.prog) (w := W) 39 5 3 (some ⟨w2.heap.size, 0, none⟩) 3 cp Tryd.underlying39 (by omega)
  have hB3 : Below w.heap.size w (Lib.bytesWorld w2 5 (t.extract 3 6)) := below_step hB2 (Lib.bytesWorld_below _ _ _)
  have hR3 := impl_isLabel.keep hR2 (Lib.bytesWorld_below w2 5 (t.extract 3 6))
  have hz3 : w.heap.size ≤ (Lib.bytesWorld w2 5 (t.extract 3 6)).heap.size := hB3.size
  go_upto_region 6 with fail
  generalize Lib.bytesWorld w2 5 (t.extract 3 6) = w3 at *
  go_upto_region 7 with (go_at_call 28; (with_reducible refine (impl_isLabel.areAll _ w3.heap.size (bt t 3) (bt t 4) (bt t 5) true (by simp) (by simp) (by simp) HM.out).mono ?_); rintro e w4 ⟨rfl, hb4⟩; have q4 : w4.cell? ⟨w3.heap.size, 4, none⟩ = some (.int .i16 0) := pw_cell_below hb4 (by simp); have hR4 := impl_isLabel.keep (blk_alloc hR3 _) hb4; have hO4 := impl_isLabel.keep (show (w3.alloc (.cells #[.int .i16 0, .int .u8 (bt t 3), .int .u8 (bt t 4), .int .u8 (bt t 5), .int .i16 0, .int .i16 0, .int .i16 0, .int .i16 0] 41)).heap[w3.heap.size]? = some (.cells #[.int .i16 0, .int .u8 (bt t 3), .int .u8 (bt t 4), .int .u8 (bt t 5), .int .i16 0, .int .i16 0, .int .i16 0, .int .i16 0] 41 (0, 0)) by simpa using heap_alloc_new w3 _) hb4; have hB4 := below_step (below_alloc hB3 _) hb4)
  have F4 := impl_isLabel.facts w4 w3.heap.size w.heap.size 0 (bt t 3) (bt t 4) (bt t 5) 0 0 0 0 hO4 hR4
  go_split_ands
  go_wp2
  obtain ⟨hRF, hBF⟩ := impl_isLabel.put w w4 w.heap.size 0 0 0 0 0 0 0 0 hR4 (Nat.le_refl _) hB4
  obtain ⟨g0, g1, g2, g3, g4, g5, g6, g7⟩ := impl_isLabel.cells8 _ _ _ _ _ _ _ _ _ _ hRF
  clear hR4 hB4
  generalize (World.setCell (World.setCell (World.setCell (World.setCell (World.setCell (World.setCell (World.setCell (World.setCell w4 ⟨w.heap.size, 0, none⟩ (.int .i16 0)) ⟨w.heap.size, 1, none⟩ (.int .u8 0)) ⟨w.heap.size, 2, none⟩ (.int .u8 0)) ⟨w.heap.size, 3, none⟩ (.int .u8 0)) ⟨w.heap.size, 4, none⟩ (.int .i16 0)) ⟨w.heap.size, 5, none⟩ (.int .i16 0)) ⟨w.heap.size, 6, none⟩ (.int .i16 0)) ⟨w.heap.size, 7, none⟩ (.int .i16 0)) = wf at *
  exact bodyPost_ret (v := .tuple #[.agg #[.int .i16 0, .int .u8 0, .int .u8 0, .int .u8 0, .int .i16 0, .int .i16 0, .int .i16 0, .int .i16 0], .bool false]) (by simp [results, Tryd.results24, go_sem, g0, g1, g2, g3, g4, g5, g6, g7]) rfl ⟨rfl, by repeat (first | assumption | exact Below.refl _ _ | apply below_alloc | apply below_drew1 | refine Below.setCell ?_ (by simp) _)⟩
set_option maxHeartbeats 16000000 in
set_option maxRecDepth 100000 in
theorem impl_isLabel.short (t : ByteArray) (w : World) (hs : t.size ≠ 9) :
    Calls Tryd.prog 24 #[.string t] w fun e w' => e = .returned (.tuple #[.agg #[.int .i16 0, .int .u8 0, .int .u8 0, .int .u8 0, .int .i16 0, .int .i16 0, .int .i16 0, .int .i16 0], .bool false]) ∧ Below w.heap.size w w' := by
  have z1 : ((t.size : Int) = 9) = False := eq_false (by omega)
  have z2 : decide ((t.size : Int) = 9) = false := decide_eq_false (by omega)
  have z3 : ((t.size : Int) == 9) = false := by rw [beq_eq_false_iff_ne]; omega
  have hR4 : (w.alloc (.cells #[.int .i16 0, .int .u8 0, .int .u8 0, .int .u8 0, .int .i16 0, .int .i16 0, .int .i16 0, .int .i16 0] 41)).heap[w.heap.size]? = some (.cells #[.int .i16 0, .int .u8 0, .int .u8 0, .int .u8 0, .int .i16 0, .int .i16 0, .int .i16 0, .int .i16 0] 41 (0, 0)) := by simpa using heap_alloc_new w _
  have hB4 : Below w.heap.size w (w.alloc (.cells #[.int .i16 0, .int .u8 0, .int .u8 0, .int .u8 0, .int .i16 0, .int .i16 0, .int .i16 0, .int .i16 0] 41)) := below_alloc (Below.refl _ _) _
  go_enter Tryd.func24, Tryd.ntmps24
  go_wp2
  obtain ⟨hRF, hBF⟩ := impl_isLabel.put w (w.alloc (.cells #[.int .i16 0, .int .u8 0, .int .u8 0, .int .u8 0, .int .i16 0, .int .i16 0, .int .i16 0, .int .i16 0] 41)) w.heap.size 0 0 0 0 0 0 0 0 hR4 (Nat.le_refl _) hB4
  obtain ⟨g0, g1, g2, g3, g4, g5, g6, g7⟩ := impl_isLabel.cells8 _ _ _ _ _ _ _ _ _ _ hRF
  clear hR4 hB4
  generalize (World.setCell (World.setCell (World.setCell (World.setCell (World.setCell (World.setCell (World.setCell (World.setCell (w.alloc (.cells #[.int .i16 0, .int .u8 0, .int .u8 0, .int .u8 0, .int .i16 0, .int .i16 0, .int .i16 0, .int .i16 0] 41)) ⟨w.heap.size, 0, none⟩ (.int .i16 0)) ⟨w.heap.size, 1, none⟩ (.int .u8 0)) ⟨w.heap.size, 2, none⟩ (.int .u8 0)) ⟨w.heap.size, 3, none⟩ (.int .u8 0)) ⟨w.heap.size, 4, none⟩ (.int .i16 0)) ⟨w.heap.size, 5, none⟩ (.int .i16 0)) ⟨w.heap.size, 6, none⟩ (.int .i16 0)) ⟨w.heap.size, 7, none⟩ (.int .i16 0)) = wf at *
  exact bodyPost_ret (v := .tuple #[.agg #[.int .i16 0, .int .u8 0, .int .u8 0, .int .u8 0, .int .i16 0, .int .i16 0, .int .i16 0, .int .i16 0], .bool false]) (by simp [results, Tryd.results24, go_sem, g0, g1, g2, g3, g4, g5, g6, g7]) rfl ⟨rfl, by repeat (first | assumption | exact Below.refl _ _ | apply below_alloc | apply below_drew1 | refine Below.setCell ?_ (by simp) _)⟩
def impl_isLabel.allv (t : ByteArray) : Bool := impl_isLabel.sm (bt t 3) && (impl_isLabel.sm (bt t 4) && impl_isLabel.sm (bt t 5))
def impl_isLabel.f (t : ByteArray) : Option Bool :=
  if t.size = 9 then
    if impl_isLabel.atoiV (t.extract 0 3) ≤ 32767 then (if impl_isLabel.atoiV (t.extract 6 8) ≤ 32767 then
      (if impl_isLabel.allv t = true then (if 0 < impl_isLabel.atoiV (t.extract 6 8) then
        (impl_labelOf.f (max (impl_isLabel.atoiV (t.extract 0 3)) 0) (bt t 3) (bt t 4) (bt t 5) (impl_isLabel.atoiV (t.extract 6 8)) 0 0 0).bind fun L => some (L.toList == t.toList)
        else some false) else some false) else none) else none
  else some false
def impl_isLabel.res (c m0 m1 m2 v : Int) (r : Bool) : Value := .tuple #[.agg #[.int .i16 c, .int .u8 m0, .int .u8 m1, .int .u8 m2, .int .i16 v, .int .i16 0, .int .i16 0, .int .i16 0], .bool r]
theorem impl_isLabel.read (t : ByteArray) (r : Bool) (w : World) (ht_ : Go.Proofs.YtolhlackfphdcaaDoor.Tbl.Tb w) (h : impl_isLabel.f t = some r) :
    Calls Tryd.prog 24 #[.string t] w fun e w' => (∃ c m0 m1 m2 v, e = .returned (impl_isLabel.res c m0 m1 m2 v r) ∧ (r = true → c = max (impl_isLabel.atoiV (t.extract 0 3)) 0 ∧ m0 = bt t 3 ∧ m1 = bt t 4 ∧ m2 = bt t 5 ∧ v = impl_isLabel.atoiV (t.extract 6 8))) ∧ Below w.heap.size w w' := by
  unfold impl_isLabel.f at h
  by_cases hs : t.size = 9
  · rw [if_pos hs] at h
    by_cases q1 : impl_isLabel.atoiV (t.extract 0 3) ≤ 32767
    · rw [if_pos q1] at h
      by_cases q2 : impl_isLabel.atoiV (t.extract 6 8) ≤ 32767
      · rw [if_pos q2] at h
        by_cases hm : impl_isLabel.allv t = true
        · rw [if_pos hm] at h
          by_cases p2 : 0 < impl_isLabel.atoiV (t.extract 6 8)
          · rw [if_pos p2] at h
            obtain ⟨L, hL, h⟩ := Option.bind_eq_some_iff.mp h
            obtain rfl := Option.some.inj h
            by_cases p1 : 0 ≤ impl_isLabel.atoiV (t.extract 0 3)
            · rw [show max (impl_isLabel.atoiV (t.extract 0 3)) 0 = impl_isLabel.atoiV (t.extract 0 3) by omega] at hL ⊢
              exact (impl_isLabel.good t _ _ w ht_ hs rfl rfl q1 q2 p1 p2 hm L hL).mono fun e w' x => ⟨⟨_, _, _, _, _, x.1, fun _ => ⟨rfl, rfl, rfl, rfl, rfl⟩⟩, x.2⟩
            · rw [show max (impl_isLabel.atoiV (t.extract 0 3)) 0 = 0 by omega] at hL ⊢
              exact (impl_isLabel.goodN t _ _ w ht_ hs rfl rfl q1 q2 p1 p2 hm L hL).mono fun e w' x => ⟨⟨_, _, _, _, _, x.1, fun _ => ⟨rfl, rfl, rfl, rfl, rfl⟩⟩, x.2⟩
          · rw [if_neg p2] at h
            obtain rfl := Option.some.inj h
            by_cases p1 : 0 ≤ impl_isLabel.atoiV (t.extract 0 3)
            · by_cases p3 : 0 ≤ impl_isLabel.atoiV (t.extract 6 8)
              · exact (impl_isLabel.bad111 t _ _ w ht_ hs rfl (show _ = 0 by omega) q1 (by omega) p1 (by omega) hm).mono fun e w' x => ⟨⟨_, _, _, _, _, x.1, fun h => by cases h⟩, x.2⟩
              · exact (impl_isLabel.bad101 t _ _ w ht_ hs rfl rfl q1 q2 p1 p3 hm).mono fun e w' x => ⟨⟨_, _, _, _, _, x.1, fun h => by cases h⟩, x.2⟩
            · by_cases p3 : 0 ≤ impl_isLabel.atoiV (t.extract 6 8)
              · exact (impl_isLabel.bad011 t _ _ w ht_ hs rfl (show _ = 0 by omega) q1 (by omega) p1 (by omega) hm).mono fun e w' x => ⟨⟨_, _, _, _, _, x.1, fun h => by cases h⟩, x.2⟩
              · exact (impl_isLabel.bad001 t _ _ w ht_ hs rfl rfl q1 q2 p1 p3 hm).mono fun e w' x => ⟨⟨_, _, _, _, _, x.1, fun h => by cases h⟩, x.2⟩
        · rw [if_neg hm] at h
          obtain rfl := Option.some.inj h
          have hm' := Bool.eq_false_iff.2 hm
          by_cases p1 : 0 ≤ impl_isLabel.atoiV (t.extract 0 3)
          · by_cases p3 : 0 ≤ impl_isLabel.atoiV (t.extract 6 8)
            · exact (impl_isLabel.bad110 t _ _ w ht_ hs rfl rfl q1 q2 p1 p3 hm').mono fun e w' x => ⟨⟨_, _, _, _, _, x.1, fun h => by cases h⟩, x.2⟩
            · exact (impl_isLabel.bad100 t _ _ w ht_ hs rfl rfl q1 q2 p1 p3 hm').mono fun e w' x => ⟨⟨_, _, _, _, _, x.1, fun h => by cases h⟩, x.2⟩
          · by_cases p3 : 0 ≤ impl_isLabel.atoiV (t.extract 6 8)
            · exact (impl_isLabel.bad010 t _ _ w ht_ hs rfl rfl q1 q2 p1 p3 hm').mono fun e w' x => ⟨⟨_, _, _, _, _, x.1, fun h => by cases h⟩, x.2⟩
            · exact (impl_isLabel.bad000 t _ _ w ht_ hs rfl rfl q1 q2 p1 p3 hm').mono fun e w' x => ⟨⟨_, _, _, _, _, x.1, fun h => by cases h⟩, x.2⟩
      · rw [if_neg q2] at h; cases h
    · rw [if_neg q1] at h; cases h
  · rw [if_neg hs] at h
    obtain rfl := Option.some.inj h
    exact (impl_isLabel.short t w hs).mono fun e w' x => ⟨⟨_, _, _, _, _, x.1, fun h => by cases h⟩, x.2⟩
set_option maxHeartbeats 8000000 in
set_option maxRecDepth 100000 in
theorem impl_isLabel.calls (a0 : ByteArray) (r : Bool) (w : World) (ht_ : Go.Proofs.YtolhlackfphdcaaDoor.Tbl.Tb w) (h : impl_isLabel.f a0 = some r) :
    Calls Tryd.prog 20 #[.string a0] w fun e w' => e = .returned (.bool r) ∧ Below w.heap.size w w' := by
  have X := Aside0.mk (impl_isLabel.read a0 r w ht_ h)
  clear ht_ h
  go_enter Tryd.func20, Tryd.ntmps20
  go_wp2_with (go_at_call 24; refine X.out.mono ?_; rintro e w' ⟨⟨c, m0, m1, m2, v, rfl, hok⟩, hb⟩; simp only [impl_isLabel.res])
  go_ret
  exact ⟨rfl, below_alloc hb _⟩

/-! ### laws_eqStringS: function 7 -/
def laws_eqStringS.l0 : Nat → List ByteArray → List ByteArray → Int → Option (Bool)
  | 0, _, _, _ => none
  | k + 1, x0, x1, x5 => if x5 < (x0.length : Int) then (if 0 ≤ x5 then (if x5 < (x1.length : Int) then (if (rdOf ByteArray.empty x0 x5).toList = (rdOf ByteArray.empty x1 x5).toList then (laws_eqStringS.l0 k x0 x1 (wrap64 (x5 + 1))) else (some false)) else (none)) else (none)) else (some true)
def laws_eqStringS.f (k : Nat) (l0 : List ByteArray) (l1 : List ByteArray) : Option (Bool) := if (l0.length : Int) = (l1.length : Int) then (laws_eqStringS.l0 k l0 l1 0) else (some false)
theorem laws_eqStringS.mono_l : ∀ k, (∀ y0 y1 y2, LeO (laws_eqStringS.l0 k y0 y1 y2) (laws_eqStringS.l0 (k + 1) y0 y1 y2))
  | 0 => fun _ _ _ r h => by simp [laws_eqStringS.l0] at h
  | k + 1 => by
    have ih0 := laws_eqStringS.mono_l k
    · intro y0 y1 y2
      unfold laws_eqStringS.l0
      repeat' first
      | (with_reducible exact ih0 _ _ _)
      | (with_reducible exact LeO.refl _)
      | (with_reducible exact LeO.none _)
      | (with_reducible refine LeO.ite ?_ ?_)
      | (with_reducible refine LeO.bind ?_ (fun _ => ?_))
      | exact ih0 _ _ _
      | exact LeO.none _
      | refine LeO.ite ?_ ?_
      | refine LeO.bind ?_ (fun _ => ?_)
theorem laws_eqStringS.mono : ∀ a0 a1 k, LeO (laws_eqStringS.f k a0 a1) (laws_eqStringS.f (k + 1) a0 a1) := by
  intro a0 a1 k
  have ih0 := laws_eqStringS.mono_l k
  unfold laws_eqStringS.f
  repeat' first
      | (with_reducible exact ih0 _ _ _)
      | (with_reducible exact LeO.refl _)
      | (with_reducible exact LeO.none _)
      | (with_reducible refine LeO.ite ?_ ?_)
      | (with_reducible refine LeO.bind ?_ (fun _ => ?_))
      | exact ih0 _ _ _
      | exact LeO.none _
      | refine LeO.ite ?_ ?_
      | refine LeO.bind ?_ (fun _ => ?_)
set_option maxHeartbeats 8000000 in
set_option maxRecDepth 100000 in
theorem laws_eqStringS.calls (k : Nat) (A0 : Option Addr) (c0 : Nat) (l0 : List ByteArray) (A1 : Option Addr) (c1 : Nat) (l1 : List ByteArray) (r : Bool) (w : World) (hr0 : Kd.C Kd.string w A0 l0.length l0) (hc0 : l0.length ≤ c0) (hr1 : Kd.C Kd.string w A1 l1.length l1) (hc1 : l1.length ≤ c1) (h : laws_eqStringS.f k l0 l1 = some r) :
    Calls Tryd.prog 7 #[.slice A0 l0.length c0, .slice A1 l1.length c1] w fun e w' => e = .returned (.bool r) ∧ Drawn0 w w' := by
  have HR0 := Aside0.mk hr0
  have HC0 := Aside0.mk hc0
  clear hr0 hc0
  have HR1 := Aside0.mk hr1
  have HC1 := Aside0.mk hc1
  clear hr1 hc1
  have H : (if (l0.length : Int) = (l1.length : Int) then (laws_eqStringS.l0 k l0 l1 0) else (some false)) = some r := h
  clear h
  by_cases c3 : (l0.length : Int) = (l1.length : Int)
  · rw [if_pos c3] at H
    have c3b0 : ((l0.length : Int) == (l1.length : Int)) = true := beq_iff_eq.mpr c3
    have c3b1 : ((l0.length : Int) != (l1.length : Int)) = false := bne_eq_false_iff_eq.mpr c3
    have c3b2 : (l0.length == l1.length) = true := by first | simpa using c3 | (simp at c3 ⊢; omega)
    clear c3
    have H' := Aside0.mk H
    clear H
    go_enter Tryd.func7, Tryd.ntmps7
    go_wp2
    repeat (go_quiet (fail); try go_wp2)
    go_loopg [5] k (fun kq v5 w' => ∃ (x5_1 : Int), v5 = .int .i64 x5_1 ∧ Aside0 (laws_eqStringS.l0 kq l0 l1 x5_1 = some r) ∧ Aside0 (kq ≤ k) ∧ Drawn0 w w')
    case atStart => exact ⟨(0), (by first | rfl | (simp; done) | (simp [*]; done)), H', ⟨Nat.le_refl _⟩, by repeat (first | exact Drawn0.refl _ | apply Drawn0.step)⟩
    case round =>
      clear H'
      try clear c1
      try clear p2
      try clear c3
      try clear c3b0
      try clear c3b1
      try clear c3b2
      obtain ⟨x5_1, rfl, HA, HK1, ⟨m1, rfl⟩⟩ := hrel
      cases gk with
      | zero => exact absurd HA.out (by simp [laws_eqStringS.l0])
      | succ k1 =>
        have H := HA.out
        clear HA
        simp only [laws_eqStringS.l0] at H
        by_cases c4 : x5_1 < (l0.length : Int)
        · rw [if_pos c4] at H
          have c4b0 : decide (x5_1 < (l0.length : Int)) = true := decide_eq_true c4
          clear c4
          by_cases c5 : 0 ≤ x5_1
          · rw [if_pos c5] at H
            have c5b0 : decide (0 ≤ x5_1) = true := decide_eq_true c5
            clear c5
            by_cases c6 : x5_1 < (l1.length : Int)
            · rw [if_pos c6] at H
              have c6b0 : decide (x5_1 < (l1.length : Int)) = true := decide_eq_true c6
              clear c6
              by_cases c7 : (rdOf ByteArray.empty l0 x5_1).toList = (rdOf ByteArray.empty l1 x5_1).toList
              · rw [if_pos c7] at H
                have c7b0 : ((rdOf ByteArray.empty l0 x5_1).toList == (rdOf ByteArray.empty l1 x5_1).toList) = true := beq_iff_eq.mpr c7
                have c7b1 : ((rdOf ByteArray.empty l0 x5_1).toList != (rdOf ByteArray.empty l1 x5_1).toList) = false := bne_eq_false_iff_eq.mpr c7
                clear c7
                have H' := Aside0.mk H
                clear H
                have p113 : 0 ≤ (x5_1 : Int) := of_decide_eq_true (by first | (with_reducible assumption) | assumption)
                have q113 : x5_1 < (l0.length : Int) := of_decide_eq_true (by first | (with_reducible assumption) | assumption)
                obtain ⟨ad113, e113, hx113_0⟩ := Kd.at_string HR0.out x5_1 p113 q113
                cases e113
                replace p113 := eq_true p113
                replace q113 := eq_true q113
                have p114 : 0 ≤ (x5_1 : Int) := of_decide_eq_true (by first | (with_reducible assumption) | assumption)
                have q114 : x5_1 < (l1.length : Int) := of_decide_eq_true (by first | (with_reducible assumption) | assumption)
                obtain ⟨ad114, e114, hx114_0⟩ := Kd.at_string HR1.out x5_1 p114 q114
                cases e114
                replace p114 := eq_true p114
                replace q114 := eq_true q114
                go_wp2
                repeat (go_quiet (fail); try go_wp2)
                go_roundg k1
                case measure => have := HK1.out; omega
                case rel => exact ⟨(wrap64 (x5_1 + 1)), (by first | rfl | (simp; done) | (simp [*]; done)), H', ⟨by have := HK1.out; omega⟩, by repeat (first | exact Drawn0.refl _ | apply Drawn0.step)⟩
              · rw [if_neg c7] at H
                have c7b0 : ((rdOf ByteArray.empty l0 x5_1).toList == (rdOf ByteArray.empty l1 x5_1).toList) = false := beq_eq_false_iff_ne.mpr c7
                have c7b1 : ((rdOf ByteArray.empty l0 x5_1).toList != (rdOf ByteArray.empty l1 x5_1).toList) = true := bne_iff_ne.mpr c7
                obtain rfl := Option.some.inj H
                have p113 : 0 ≤ (x5_1 : Int) := of_decide_eq_true (by first | (with_reducible assumption) | assumption)
                have q113 : x5_1 < (l0.length : Int) := of_decide_eq_true (by first | (with_reducible assumption) | assumption)
                obtain ⟨ad113, e113, hx113_0⟩ := Kd.at_string HR0.out x5_1 p113 q113
                cases e113
                replace p113 := eq_true p113
                replace q113 := eq_true q113
                have p114 : 0 ≤ (x5_1 : Int) := of_decide_eq_true (by first | (with_reducible assumption) | assumption)
                have q114 : x5_1 < (l1.length : Int) := of_decide_eq_true (by first | (with_reducible assumption) | assumption)
                obtain ⟨ad114, e114, hx114_0⟩ := Kd.at_string HR1.out x5_1 p114 q114
                cases e114
                replace p114 := eq_true p114
                replace q114 := eq_true q114
                go_wp2
                repeat (go_quiet (fail); try go_wp2)
                go_ret
                exact ⟨by first | rfl | (simp; done) | (simp [*]; done), by repeat (first | exact Drawn0.refl _ | apply Drawn0.step)⟩
            · rw [if_neg c6] at H
              exact absurd H (by simp)
          · rw [if_neg c5] at H
            exact absurd H (by simp)
        · rw [if_neg c4] at H
          have c4b0 : decide (x5_1 < (l0.length : Int)) = false := decide_eq_false c4
          clear c4
          obtain rfl := Option.some.inj H
          go_wp2
          repeat (go_quiet (fail); try go_wp2)
          go_ret
          exact ⟨by first | rfl | (simp; done) | (simp [*]; done), by repeat (first | exact Drawn0.refl _ | apply Drawn0.step)⟩
  · rw [if_neg c3] at H
    have c3b0 : ((l0.length : Int) == (l1.length : Int)) = false := beq_eq_false_iff_ne.mpr c3
    have c3b1 : ((l0.length : Int) != (l1.length : Int)) = true := bne_iff_ne.mpr c3
    have c3b2 : (l0.length == l1.length) = false := by first | simpa using c3 | (simp at c3 ⊢; omega)
    obtain rfl := Option.some.inj H
    go_enter Tryd.func7, Tryd.ntmps7
    go_wp2
    repeat (go_quiet (fail); try go_wp2)
    go_ret
    exact ⟨by first | rfl | (simp; done) | (simp [*]; done), by repeat (first | exact Drawn0.refl _ | apply Drawn0.step)⟩

/-! ### laws_markText: function 15 -/
def laws_markText.l0 : Nat → Int → ByteArray → Option (ByteArray)
  | 0, _, _ => none
  | k + 1, x0, x3 => if x0 > 0 then ((some (([(wrap64 (48 + (Int.tmod x0 10))) % 256] : List Int) : List Int)).bind fun y115 => (if (strOfNums y115).size + x3.size ≤ 9223372036854775807 then (laws_markText.l0 k (wrap64 (Int.tdiv x0 10)) ((strOfNums y115) ++ x3)) else (none))) else (if 1 + x3.size ≤ 9223372036854775807 then (some ((⟨#[109]⟩ : ByteArray) ++ x3)) else (none))
def laws_markText.f (k : Nat) (a0 : Int) : Option (ByteArray) := if a0 ≤ 0 then (some (⟨#[109, 48]⟩ : ByteArray)) else (laws_markText.l0 k a0 (⟨#[]⟩ : ByteArray))
theorem laws_markText.mono_l : ∀ k, (∀ y0 y1, LeO (laws_markText.l0 k y0 y1) (laws_markText.l0 (k + 1) y0 y1))
  | 0 => fun _ _ r h => by simp [laws_markText.l0] at h
  | k + 1 => by
    have ih0 := laws_markText.mono_l k
    · intro y0 y1
      unfold laws_markText.l0
      repeat' first
      | (with_reducible exact ih0 _ _)
      | (with_reducible exact LeO.refl _)
      | (with_reducible exact LeO.none _)
      | (with_reducible refine LeO.ite ?_ ?_)
      | (with_reducible refine LeO.bind ?_ (fun _ => ?_))
      | exact ih0 _ _
      | exact LeO.none _
      | refine LeO.ite ?_ ?_
      | refine LeO.bind ?_ (fun _ => ?_)
theorem laws_markText.mono : ∀ a0 k, LeO (laws_markText.f k a0) (laws_markText.f (k + 1) a0) := by
  intro a0 k
  have ih0 := laws_markText.mono_l k
  unfold laws_markText.f
  repeat' first
      | (with_reducible exact ih0 _ _)
      | (with_reducible exact LeO.refl _)
      | (with_reducible exact LeO.none _)
      | (with_reducible refine LeO.ite ?_ ?_)
      | (with_reducible refine LeO.bind ?_ (fun _ => ?_))
      | exact ih0 _ _
      | exact LeO.none _
      | refine LeO.ite ?_ ?_
      | refine LeO.bind ?_ (fun _ => ?_)
set_option maxHeartbeats 8000000 in
set_option maxRecDepth 100000 in
theorem laws_markText.calls (k : Nat) (a0 : Int) (r : ByteArray) (w : World) (ht_ : Go.Proofs.YtolhlackfphdcaaDoor.Tbl.Tb w) (h : laws_markText.f k a0 = some r) :
    Calls Tryd.prog 15 #[.int .i64 a0] w fun e w' => e = .returned (.string r) ∧ Below w.heap.size w w' := by
  have HTB_ := Aside0.mk ht_
  clear ht_
  have HB := Aside0.mk (Below.refl w.heap.size w)
  have H : (if a0 ≤ 0 then (some (⟨#[109, 48]⟩ : ByteArray)) else (laws_markText.l0 k a0 (⟨#[]⟩ : ByteArray))) = some r := h
  clear h
  by_cases c2 : a0 ≤ 0
  · rw [if_pos c2] at H
    have c2b0 : decide (a0 ≤ 0) = true := decide_eq_true c2
    clear c2
    obtain rfl := Option.some.inj H
    go_enter Tryd.func15, Tryd.ntmps15
    go_wp2
    go_ret
    exact ⟨by first | rfl | (simp [errW_none, errW_some] <;> rfl) | (simp [*, errW_none, errW_some] <;> rfl) | (simp [IntKind.wrap_i64, wrap64]; done), by repeat (first | (with_reducible first | exact HB.out | apply below_alloc | apply pw_below_drewN | apply below_drew1) | exact HB.out)⟩
  · rw [if_neg c2] at H
    have c2b0 : decide (a0 ≤ 0) = false := decide_eq_false c2
    clear c2
    have H' := Aside0.mk H
    clear H
    go_enter Tryd.func15, Tryd.ntmps15
    go_wp2
    go_loopg [0, 3] k (fun kq v0 v3 w' => ∃ (x0_1 : Int) (x3_1 : ByteArray), v0 = .int .i64 x0_1 ∧ v3 = .string x3_1 ∧ Aside0 (laws_markText.l0 kq x0_1 x3_1 = some r) ∧ Aside0 (kq ≤ k) ∧ Aside0 (Below w.heap.size w w'))
    case atStart => exact ⟨(a0), ((⟨#[]⟩ : ByteArray)), (by first | rfl | (simp; done) | (simp [*]; done)), (by first | rfl | (simp; done) | (simp [*]; done)), H', ⟨Nat.le_refl _⟩, ⟨by repeat (first | (with_reducible first | exact HB.out | apply below_alloc | apply pw_below_drewN | apply below_drew1) | exact HB.out)⟩⟩
    case round =>
      clear H'
      try clear c1
      try clear c2
      try clear c2b0
      try clear p2
      obtain ⟨x0_1, x3_1, rfl, rfl, HA, HK1, HB⟩ := hrel
      cases gk with
      | zero => exact absurd HA.out (by simp [laws_markText.l0])
      | succ k1 =>
        have H := HA.out
        clear HA
        simp only [laws_markText.l0] at H
        by_cases c3 : x0_1 > 0
        · rw [if_pos c3] at H
          have c3b0 : decide (0 < x0_1) = true := decide_eq_true c3
          clear c3
          obtain ⟨y115, hy115⟩ : ∃ y_ : List Int, y_ = (([(wrap64 (48 + (Int.tmod x0_1 10))) % 256] : List Int)) := ⟨_, rfl⟩
          replace H : (if (strOfNums y115).size + x3_1.size ≤ 9223372036854775807 then (laws_markText.l0 k1 (wrap64 (Int.tdiv x0_1 10)) ((strOfNums y115) ++ x3_1)) else (none)) = some r := by first | (rw [hy115]; with_reducible exact H) | (have H2_ := (Option.bind_some _ _).symm.trans H; rw [hy115]; with_reducible exact H2_) | (have H2_ := (Option.bind_some _ _).symm.trans H; with_reducible exact H2_) | with_reducible exact H | (rw [hy115]; exact H) | exact H
          have Ny115 := Aside0.mk hy115
          clear hy115
          by_cases c4 : (strOfNums y115).size + x3_1.size ≤ 9223372036854775807
          · rw [if_pos c4] at H
            have c4b0 := eq_true c4
            have c4b1 : decide ((strOfNums y115).size + x3_1.size ≤ 9223372036854775807) = true := decide_eq_true c4
            try have c4b2 : (9223372036854775807 < (strOfNums y115).size + x3_1.size) = False := eq_false (Nat.not_lt.2 c4)
            have H' := Aside0.mk H
            clear H
            go_wp2_with (first | ((with_reducible refine gate_dst (N := 12) rfl ?_); refine Kd.R_lit (Kd.int .u8) _ 5 ?hg (N := 12) ?hd (xs := ([(wrap64 (48 + (Int.tmod x0_1 10))) % 256] : List Int)) (inner := [.int .u8 ((wrap64 (48 + (Int.tmod x0_1 10))) % 256)]) (ok := fun _ => True) (okp := fun _ => True) ?hr ?hp (fun _ hk => hk) trivial (Below.refl _ _) (Nat.le_refl _) (by simp) ?_; (case hd => rfl); (case hg => rfl); (case hr => first | (go_simp; done) | (go_simp; rfl)); (case hp => exact (Reps.one (show Kd.M (Kd.int .u8) _ _ _ ((wrap64 (48 + (Int.tmod x0_1 10))) % 256) [.int .u8 ((wrap64 (48 + (Int.tmod x0_1 10))) % 256)] from rfl) (Reps.none _ _))); intro v116 w5 ho6 hb hg_ hnew_; clear hg_ hnew_; (first | rw [← Ny115.out] at ho6 | (simp only [Int.reduceToNat] at ho6; rw [← Ny115.out] at ho6)); have n0_ := Aside0.mk (Kd.R_lower ho6 (below_size (by repeat (first | (with_reducible first | exact HB.out | apply below_alloc | apply pw_below_drewN | apply below_drew1) | exact HB.out)))); have n1_ := Aside0.mk (below_step (by repeat (first | (with_reducible first | exact HB.out | apply below_alloc | apply pw_below_drewN | apply below_drew1) | exact HB.out)) hb); clear HB; have HO117 := n0_; have HB := n1_; clear n0_ n1_; clear hb ho6; have hcv7 := own_string (P := Tryd.prog) Tryd.underlying29 Tryd.underlying5 Tryd.underlying9 (Kd.own_of_R HO117.out)))
            go_roundg k1
            case measure => have := HK1.out; omega
            case rel => exact ⟨(wrap64 (Int.tdiv x0_1 10)), ((strOfNums y115) ++ x3_1), (by first | rfl | (simp; done) | (simp [*]; done)), (by first | rfl | (simp; done) | (simp [*]; done)), H', ⟨by have := HK1.out; omega⟩, ⟨by repeat (first | (with_reducible first | exact HB.out | apply below_alloc | apply pw_below_drewN | apply below_drew1) | exact HB.out)⟩⟩
          · rw [if_neg c4] at H
            exact absurd H (by simp)
        · rw [if_neg c3] at H
          have c3b0 : decide (0 < x0_1) = false := decide_eq_false c3
          clear c3
          by_cases c8 : 1 + x3_1.size ≤ 9223372036854775807
          · rw [if_pos c8] at H
            have c8b0 := eq_true c8
            have c8b1 : decide (1 + x3_1.size ≤ 9223372036854775807) = true := decide_eq_true c8
            try have c8b2 : (9223372036854775807 < 1 + x3_1.size) = False := eq_false (Nat.not_lt.2 c8)
            obtain rfl := Option.some.inj H
            go_wp2
            go_ret
            exact ⟨by first | rfl | (simp [errW_none, errW_some] <;> rfl) | (simp [*, errW_none, errW_some] <;> rfl) | (simp [IntKind.wrap_i64, wrap64]; done), by repeat (first | (with_reducible first | exact HB.out | apply below_alloc | apply pw_below_drewN | apply below_drew1) | exact HB.out)⟩
          · rw [if_neg c8] at H
            exact absurd H (by simp)

end Go.Proofs.YtolhlackfphdcaaDoor.PNea
