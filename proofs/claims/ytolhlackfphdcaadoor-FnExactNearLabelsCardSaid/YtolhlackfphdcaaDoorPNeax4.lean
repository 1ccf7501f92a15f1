-- made by a program of this session (wip/pext.py) out of the translation; the parts by hand are wip/ext's
import Derived.Test.YtolhlackfphdcaaDoorPNeax0
import Derived.Test.YtolhlackfphdcaaDoorPNeax3
namespace Go.Proofs.YtolhlackfphdcaaDoor.PNea
open Go.RowKit Go.Proofs.YtolhlackfphdcaaDoorW.PrintWords Go.Proofs.YtolhlackfphdcaaDoorW.PrintLast Go.Proofs.YtolhlackfphdcaaDoorW.PrintMore
attribute [local go_sem] max2_int min2_int max_two min_two max_three min_three max_four min_four   -- for this text's walks alone
set_option linter.unusedVariables false
set_option linter.unusedSimpArgs false

/-! ### impl_NearLabels: function 11 -/
def impl_NearLabels.pos (t : ByteArray) : Nat → Nat → List Nat
  | 0, _ => []
  | fuel + 1, p => if p < t.size then p :: impl_NearLabels.pos t fuel (p + (Utf8.decode t p).2) else []
def impl_NearLabels.LL : List Int := [48, 49, 50, 51, 52, 53, 54, 55, 56, 57, 97, 98, 99, 100, 101, 102, 103, 104, 105, 106, 107, 108, 109, 110, 111, 112, 113, 114, 115, 116, 117, 118, 119, 120, 121, 122]
def impl_NearLabels.cand (t : ByteArray) (i : Nat) (c : Int) : ByteArray := t.extract 0 i ++ strOfNums [c] ++ t.extract (i + 1) t.size
def impl_NearLabels.all (t : ByteArray) (ps : List Nat) : List ByteArray := ps.flatMap fun i => impl_NearLabels.LL.map (impl_NearLabels.cand t i)
def impl_NearLabels.f (t : ByteArray) : Option (List ByteArray × Int) := if t.size = 9 then (impl_labelsOf.f (impl_NearLabels.all t (impl_NearLabels.pos t 9 0)) t).bind fun r => some (r, 0) else some ([], 5)
def impl_NearLabels.LC : Array Value := #[.int .u8 48, .int .u8 49, .int .u8 50, .int .u8 51, .int .u8 52, .int .u8 53, .int .u8 54, .int .u8 55, .int .u8 56, .int .u8 57, .int .u8 97, .int .u8 98, .int .u8 99, .int .u8 100, .int .u8 101, .int .u8 102, .int .u8 103, .int .u8 104, .int .u8 105, .int .u8 106, .int .u8 107, .int .u8 108, .int .u8 109, .int .u8 110, .int .u8 111, .int .u8 112, .int .u8 113, .int .u8 114, .int .u8 115, .int .u8 116, .int .u8 117, .int .u8 118, .int .u8 119, .int .u8 120, .int .u8 121, .int .u8 122]
theorem impl_NearLabels.LC_at (k : Nat) (hk : k < 36) : impl_NearLabels.LC[k]? = some (.int .u8 (impl_NearLabels.LL.getD k 0)) := by
  have h : impl_NearLabels.LC = (impl_NearLabels.LL.map (Value.int .u8)).toArray := rfl
  have hl : impl_NearLabels.LL.length = 36 := rfl
  rw [h, List.getElem?_toArray, List.getElem?_map, List.getD_eq_getElem?_getD, List.getElem?_eq_getElem (by omega)]
  rfl
theorem impl_NearLabels.width (s : ByteArray) (p : Nat) (h : p < s.size) : 1 ≤ (Utf8.decode s p).2 := by
  by_cases ha : (s[p]'h).toNat < 128
  · rw [decode_ascii s p h ha]
    exact Nat.le_refl _
  · exact (decode_high s p h (by omega)).2
theorem impl_NearLabels.pos_len (t : ByteArray) : ∀ (f p : Nat), (impl_NearLabels.pos t f p).length ≤ f
  | 0, _ => Nat.le_refl _
  | f + 1, p => by
    unfold impl_NearLabels.pos
    split
    · have := impl_NearLabels.pos_len t f (p + (Utf8.decode t p).2)
      simp only [List.length_cons]; omega
    · exact Nat.zero_le _
theorem impl_NearLabels.pos_end (t : ByteArray) (f p : Nat) (h : ¬ p < t.size) : impl_NearLabels.pos t f p = [] := by
  cases f with
  | zero => rfl
  | succ f => simp [impl_NearLabels.pos, h]
theorem impl_NearLabels.all_len (t : ByteArray) : ∀ ps : List Nat, (impl_NearLabels.all t ps).length = ps.length * 36
  | [] => rfl
  | p :: ps => by
    have e : impl_NearLabels.all t (p :: ps) = impl_NearLabels.LL.map (impl_NearLabels.cand t p) ++ impl_NearLabels.all t ps := rfl
    rw [e, List.length_append, impl_NearLabels.all_len t ps, List.length_map, List.length_cons]
    have : impl_NearLabels.LL.length = 36 := rfl
    omega
theorem impl_NearLabels.stay {α : Type} {d : Kd α} {e base k : Nat} {ok : Nat → Prop} {W w1 : World} {u : Value} {xs : List α} {o : Obj} (h : d.R e W base ok u xs) (hg : W.grownBy w1 u.ownBlock) (hb : W.heap[k]? = some o) (hne : ∀ cs, o ≠ .cells cs e (0, 0)) : w1.heap[k]? = some o := by
  rw [hg.block k (blk_lt hb) (fun he => ?_), hb]
  obtain ⟨inner, ho⟩ := Kd.R_own h
  obtain ⟨cs, hc⟩ := own_typed ho k he.symm
  rw [hb] at hc
  exact hne cs (Option.some.inj hc)
set_option maxHeartbeats 8000000 in
set_option maxRecDepth 100000 in
theorem impl_NearLabels.calls (a0 : ByteArray) (r1 : List ByteArray) (r2 : Int) (w : World) (ht_ : Go.Proofs.YtolhlackfphdcaaDoor.Tbl.Tb w) (h : impl_NearLabels.f a0 = some (r1, r2)) :
    Calls Tryd.prog 11 #[.string a0] w fun e w' => ∃ v0_ : Value, e = .returned (.tuple #[v0_, .int .i64 r2]) ∧ Kd.R Kd.string 9 w' w.heap.size (fun _ => True) v0_ r1 ∧ Below w.heap.size w w' := by
  unfold impl_NearLabels.f at h
  by_cases hs : a0.size = 9
  · rw [if_pos hs] at h
    obtain ⟨r, hr, h⟩ := Option.bind_eq_some_iff.1 h
    cases h
    have HT := Aside0.mk ht_
    have HR := Aside0.mk hr
    have hsb : ((a0.size : Int) != 9) = false := by rw [hs]; rfl
    have HSZ := Aside0.mk hs
    clear ht_ hr hs
    go_enter Tryd.func11, Tryd.ntmps11
    go_wp2
    go_loopg [4] 9 (fun gg s4 wr => ∃ (p fuel : Nat) (done : List Nat), fuel ≤ gg ∧ Aside0 (9 ≤ p + fuel ∧ done ++ impl_NearLabels.pos a0 fuel p = impl_NearLabels.pos a0 9 0 ∧ (done ++ impl_NearLabels.pos a0 fuel p).length ≤ 9) ∧ wr.heap[w.heap.size]? = some (.stringIter a0 p) ∧ Aside0 (Kd.R Kd.string 9 wr w.heap.size (fun _ => True) s4 (impl_NearLabels.all a0 done)) ∧ Aside0 (Below w.heap.size w wr))
    case atStart =>
      refine ⟨0, 9, [], by omega, ⟨by omega, rfl, by have := impl_NearLabels.pos_len a0 9 0; simpa using this⟩, ?_, ⟨Kd.R_nil _ _ _ _ _⟩, ⟨below_alloc (Below.refl _ _) _⟩⟩
      exact World.iter_heap w a0 0
    case round =>
      obtain ⟨p, fuel, done, hg, HP, hit, HRw, HBw⟩ := hrel
      clear hsb
      have hib : w.heap.size < wr.heap.size := (Array.getElem?_eq_some_iff.1 hit).1
      by_cases hp : p < a0.size
      · have hnx : ∀ ty, (Instr.next (.pointer (some ⟨w.heap.size, 0, none⟩)) true ty).run Tryd.prog wr = _ := fun ty => Lib.run_next_any_at wr w.heap.size a0 p ty hit hp
        have hit2 := Lib.iterAt_heap wr w.heap.size a0 p (p + (Utf8.decode a0 p).2) hit
        have hsz2 := Lib.iterAt_size wr w.heap.size a0 (p + (Utf8.decode a0 p).2)
        have hbw2 := Lib.below_iterAt HBw.out (k := w.heap.size) (Nat.le_refl _) a0 (p + (Utf8.decode a0 p).2)
        have hR2 : Kd.R Kd.string 9 (wr.iterAt w.heap.size a0 (p + (Utf8.decode a0 p).2)) w.heap.size (fun _ => True) u4 (impl_NearLabels.all a0 done) := by
          refine Kd.R_mono (Kd.R_step (Kd.R_bound HRw.out) (fun k hk hlt => ?_)) (fun k hk => hk.1)
          obtain ⟨_, _, _, q, _, cells, hc⟩ := hk
          refine Lib.iterAt_other wr w.heap.size k a0 _ (fun e => ?_)
          subst e
          rw [hit] at hc
          cases hc
        have HIT := Aside0.mk hit2
        have HB2 := Aside0.mk hbw2
        have HR2 := Aside0.mk hR2
        have HSZ2 := Aside0.mk hsz2
        clear hit hit2 hbw2 hR2 hsz2
        go_upto_region 7 with fail
        generalize wr.iterAt w.heap.size a0 (p + (Utf8.decode a0 p).2) = w1 at *
        have kc := fun (w : World) (C : Array Value) (n c : Nat) => Lib.run_convert_bytes_const (P := Tryd.prog) w 29 5 C n c Tryd.underlying29 Tryd.underlying5
        clear hnx
        go_upto_block 2 with fail
        clear kc
        have hLB : (w1.alloc (.cells impl_NearLabels.LC 5 (36, 37))).heap[w1.heap.size]? = some (.cells impl_NearLabels.LC 5 (36, 37)) := by
          show (w1.heap.push _)[w1.heap.size]? = _
          simp
        have hIT2 : (w1.alloc (.cells impl_NearLabels.LC 5 (36, 37))).heap[w.heap.size]? = some (.stringIter a0 (p + (Utf8.decode a0 p).2)) := by
          rw [Below.heap_alloc _ _ _ (by have := HSZ2.out; omega)]; exact HIT.out
        have hBB : Below w.heap.size w (w1.alloc (.cells impl_NearLabels.LC 5 (36, 37))) := below_alloc HB2.out _
        have hRR := Kd.R_alloc HR2.out (.cells impl_NearLabels.LC 5 (36, 37))
        have HLB := Aside0.mk (And.intro hLB (And.intro hIT2 (And.intro hBB hRR)))
        clear hLB hIT2 hBB hRR
        generalize hw2 : w1.alloc (.cells impl_NearLabels.LC 5 (36, 37)) = w2 at *
        have hw2' : w1.alloc (.cells #[.int .u8 48, .int .u8 49, .int .u8 50, .int .u8 51, .int .u8 52, .int .u8 53, .int .u8 54, .int .u8 55, .int .u8 56, .int .u8 57, .int .u8 97, .int .u8 98, .int .u8 99, .int .u8 100, .int .u8 101, .int .u8 102, .int .u8 103, .int .u8 104, .int .u8 105, .int .u8 106, .int .u8 107, .int .u8 108, .int .u8 109, .int .u8 110, .int .u8 111, .int .u8 112, .int .u8 113, .int .u8 114, .int .u8 115, .int .u8 116, .int .u8 117, .int .u8 118, .int .u8 119, .int .u8 120, .int .u8 121, .int .u8 122] 5 (36, 37)) = w2 := hw2
        try rw [hw2']
        clear hw2 hw2'
        have hw1 : w.heap.size < w1.heap.size := by have := HSZ2.out; omega
        have hp9 : p < 9 := by have := HSZ.out; omega
        have hdl : done.length < 9 := by
          have h1 := HP.out.2.2
          have h0 : fuel ≠ 0 := by rintro rfl; have := HP.out.1; have := HSZ.out; omega
          obtain ⟨f, rfl⟩ : ∃ f, fuel = f + 1 := ⟨fuel - 1, by omega⟩
          rw [List.length_append] at h1
          unfold impl_NearLabels.pos at h1
          rw [if_pos hp, List.length_cons] at h1
          omega
        have hal := impl_NearLabels.all_len a0 done
        clear HSZ2 hib HRw HBw
        go_wp2
        go_loopg [4, 19] 36 (fun g2 s4 s19 wi => ∃ k : Nat, k ≤ 36 ∧ 36 - k ≤ g2 ∧ s19 = .int .i64 k ∧ Aside0 (wi.heap[w1.heap.size]? = some (.cells impl_NearLabels.LC 5 (36, 37)) ∧ wi.heap[w.heap.size]? = some (.stringIter a0 (p + (Utf8.decode a0 p).2))) ∧ Aside0 (Kd.R Kd.string 9 wi w.heap.size (fun _ => True) s4 (impl_NearLabels.all a0 done ++ (impl_NearLabels.LL.take k).map (impl_NearLabels.cand a0 p))) ∧ Aside0 (Below w.heap.size w wi))
        case atStart => exact ⟨0, by omega, by omega, rfl, ⟨HLB.out.1, HLB.out.2.1⟩, ⟨by rw [List.take_zero, List.map_nil, List.append_nil]; exact HLB.out.2.2.2⟩, ⟨HLB.out.2.2.1⟩⟩
        case round =>
          obtain ⟨k, hk, hg2, rfl, HHi, HRi, HBi⟩ := hrel
          by_cases hlt : k < 36
          · have hltz : (k : Int) < 36 := by omega
            have hck : wr.cell? ⟨w1.heap.size, k, none⟩ = some (.int .u8 (impl_NearLabels.LL.getD k 0)) := by
              rw [Lib.cell_of_heap HHi.out.1]
              exact impl_NearLabels.LC_at k hlt
            generalize hc : impl_NearLabels.LL.getD k 0 = c at hck
            have HC := Aside0.mk hc
            clear hc
            go_upto_region 10 with fail
            have s1 : (a0.extract 0 p).size = p := by rw [ByteArray.size_extract]; omega
            have s2 : (strOfNums [c]).size = 1 := strOfNums_size _
            have s3 : (a0.extract (p + 1) a0.size).size = 8 - p := by rw [ByteArray.size_extract]; have := HSZ.out; omega
            have cv := Go.Proofs.YtolhlackfphdcaaDoor.Conv.conv1 (wr.alloc (.cells #[.int .u8 c] 5)).drew wr.heap.size 1 c (by simp)
            have p1 : IntKind.i64.wrap ((p : Int) + 1) = (p : Int) + 1 := by rw [IntKind.wrap_i64]; omega
            have p2 : 0 ≤ (p : Int) + 1 := by omega
            have p3 : ((p : Int) + 1).toNat = p + 1 := by omega
            have p4 : (p : Int) ≤ (a0.size : Int) := by omega
            have p5 : (p : Int) + 1 ≤ (a0.size : Int) := by omega
            have q1 : (9223372036854775807 < p + 1) = False := eq_false (by omega)
            have q2 : (9223372036854775807 < p + 1 + (8 - p)) = False := eq_false (by omega)
            have HBi2 := below_drew1 (below_alloc HBi.out (.cells #[.int .u8 c] 5))
            have HRi2 := Kd.R_drew (Kd.R_alloc HRi.out (.cells #[.int .u8 c] 5))
            have HB3 := Aside0.mk HBi2
            have HR3 := Aside0.mk HRi2
            clear HBi2 HRi2
            go_region_law (refine Kd.R_append_step Kd.string (w0 := w) (W := (wr.alloc (.cells #[.int .u8 c] 5)).drew) w.heap.size (by simp [Region.wanted]) (.tmp 23) (.tmp 36) 22 9 (.string ⟨#[]⟩) 16 rfl Tryd.underlying22 impl_SwappedLabels.info rfl (by decide) (by omega) _ (impl_NearLabels.all a0 done ++ (impl_NearLabels.LL.take k).map (impl_NearLabels.cand a0 p)) (impl_NearLabels.cand a0 p c) [.string (impl_NearLabels.cand a0 p c)] (fun _ => True) (fun _ => False) rfl (by simp [Act.eval, Act.put]) rfl (fun _ hk => hk.elim) (fun _ _ => trivial) HR3.out HB3.out HB3.out.size (by rw [List.length_append, List.length_map, List.length_take]; omega) ?_; intro v1 w1_ hR1 hb1 hg1 hat1)
            go_wp2
            have hx1 := impl_NearLabels.stay HR3.out hg1 (k := w1.heap.size) (o := .cells impl_NearLabels.LC 5 (36, 37)) (((below_drew1 (below_alloc (Below.refl _ wr) _)).block _ (blk_lt HHi.out.1)).trans HHi.out.1) (fun cs e => by cases e)
            have hx2 := impl_NearLabels.stay HR3.out hg1 (k := w.heap.size) (o := .stringIter a0 (p + (Utf8.decode a0 p).2)) (((below_drew1 (below_alloc (Below.refl _ wr) _)).block _ (blk_lt HHi.out.2)).trans HHi.out.2) (fun cs e => by cases e)
            go_roundg (36 - (k + 1))
            case measure => omega
            case rel =>
              refine ⟨k + 1, by omega, by omega, by go_num, ⟨hx1, hx2⟩, ⟨?_⟩, ⟨hb1⟩⟩
              have hL : impl_NearLabels.LL.take (k + 1) = impl_NearLabels.LL.take k ++ [c] := by
                have hl : impl_NearLabels.LL.length = 36 := rfl
                rw [List.take_succ_eq_append_getElem (by omega), ← HC.out, List.getD_eq_getElem?_getD, List.getElem?_eq_getElem (by omega)]
                rfl
              rw [hL, List.map_append, ← List.append_assoc]
              exact hR1
          · have hltz : ¬ (k : Int) < 36 := by omega
            obtain rfl : k = 36 := by omega
            have hall : impl_NearLabels.LL.take 36 = impl_NearLabels.LL := rfl
            have HRj := Aside0.mk HRi.out
            rw [hall] at HRj
            clear HRi hall
            go_wp2
            have hwid := impl_NearLabels.width a0 p hp
            have h0 : fuel ≠ 0 := by rintro rfl; have := HP.out.1; have := HSZ.out; omega
            obtain ⟨f, rfl⟩ : ∃ f, fuel = f + 1 := ⟨fuel - 1, by omega⟩
            have hpos : impl_NearLabels.pos a0 (f + 1) p = p :: impl_NearLabels.pos a0 f (p + (Utf8.decode a0 p).2) := by
              rw [impl_NearLabels.pos, if_pos hp]
            have HP2 := HP.out
            rw [hpos] at HP2
            go_roundg f
            case measure => omega
            case rel =>
              refine ⟨p + (Utf8.decode a0 p).2, f, done ++ [p], Nat.le_refl _, ⟨by omega, by rw [List.append_assoc]; exact HP2.2.1, by rw [List.append_assoc]; exact HP2.2.2⟩, HHi.out.2, ⟨?_⟩, ⟨HBi.out⟩⟩
              have ha : impl_NearLabels.all a0 (done ++ [p]) = impl_NearLabels.all a0 done ++ impl_NearLabels.LL.map (impl_NearLabels.cand a0 p) := by
                unfold impl_NearLabels.all
                rw [List.flatMap_append]
                simp
              rw [ha]
              exact HRj.out
      · have hnx : ∀ ty, (Instr.next (.pointer (some ⟨w.heap.size, 0, none⟩)) true ty).run Tryd.prog wr = _ := fun ty => Lib.run_next_end_at wr w.heap.size a0 p ty hit hp
        have hdn : done = impl_NearLabels.pos a0 9 0 := by
          have := HP.out.2.1
          rwa [impl_NearLabels.pos_end a0 fuel p hp, List.append_nil] at this
        have hne : 0 < (impl_NearLabels.all a0 done).length := by
          rw [impl_NearLabels.all_len, hdn]
          unfold impl_NearLabels.pos
          rw [if_pos (by have := HSZ.out; omega), List.length_cons]
          omega
        have hlb : (impl_NearLabels.all a0 done).length < 4611686018427387904 := by
          rw [impl_NearLabels.all_len, hdn]
          have := impl_NearLabels.pos_len a0 9 0
          omega
        obtain ⟨gb, cap, hv, hge, hgl, _⟩ := Kd.R_form HRw.out hne
        subst hv
        have HO := Aside0.mk (impl_labelsOf.own w wr HT.out HBw.out gb cap (impl_NearLabels.all a0 done) r1 a0 hlb HRw.out (by rw [hdn]; exact HR.out))
        clear hge hgl hne hlb hdn HP hib hit HR
        go_wp2_with (go_at_call 14; refine HO.out.mono ?_; rintro e w1 ⟨v, rfl, hR1, hb1⟩)
        go_ret2
        exact ⟨_, rfl, hR1, hb1⟩
  · rw [if_neg hs] at h
    cases h
    have hsb : ((a0.size : Int) != 9) = true := by simp only [bne_iff_ne]; omega
    clear hs ht_
    go_enter Tryd.func11, Tryd.ntmps11
    go_wp2
    go_ret2
    exact ⟨_, rfl, Kd.R_nil _ _ _ _ _, Below.refl _ _⟩

/-! ### spec_l07Value: function 16 -/
def spec_l07Value.j0 : Nat → Int → Bool → Option (Int)
  | 0, _, _ => none
  | k + 1, x0, x3 => if x3 = true then (some ((x0 - 48) % 256)) else (if x0 ≥ 97 then (if x0 ≤ 122 then (some (((x0 - 97) % 256) + 1)) else (some (-1))) else (some (-1)))
def spec_l07Value.f (k : Nat) (a0 : Int) : Option (Int) := if a0 ≥ 48 then (spec_l07Value.j0 k a0 (decide (a0 ≤ 57))) else (spec_l07Value.j0 k a0 false)
theorem spec_l07Value.mono_l : ∀ k, (∀ y0 y1, LeO (spec_l07Value.j0 k y0 y1) (spec_l07Value.j0 (k + 1) y0 y1))
  | 0 => fun _ _ r h => by simp [spec_l07Value.j0] at h
  | k + 1 => by
    have ih0 := spec_l07Value.mono_l k
    · intro y0 y1
      unfold spec_l07Value.j0
      repeat' first
      | (with_reducible exact ih0 _ _)
      | (with_reducible exact LeO.refl _)
      | (with_reducible exact LeO.none _)
      | (with_reducible refine LeO.ite ?_ ?_)
      | (with_reducible refine LeO.bind ?_ (fun _ => ?_))
      | exact ih0 _ _
      | exact LeO.none _
      | refine LeO.ite ?_ ?_
      | refine LeO.bind ?_ (fun _ => ?_)
theorem spec_l07Value.mono : ∀ a0 k, LeO (spec_l07Value.f k a0) (spec_l07Value.f (k + 1) a0) := by
  intro a0 k
  have ih0 := spec_l07Value.mono_l k
  unfold spec_l07Value.f
  repeat' first
      | (with_reducible exact ih0 _ _)
      | (with_reducible exact LeO.refl _)
      | (with_reducible exact LeO.none _)
      | (with_reducible refine LeO.ite ?_ ?_)
      | (with_reducible refine LeO.bind ?_ (fun _ => ?_))
      | exact ih0 _ _
      | exact LeO.none _
      | refine LeO.ite ?_ ?_
      | refine LeO.bind ?_ (fun _ => ?_)
set_option maxHeartbeats 8000000 in
set_option maxRecDepth 100000 in
theorem spec_l07Value.calls (k : Nat) (a0 : Int) (r : Int) (w : World) (h : spec_l07Value.f k a0 = some r) :
    Calls Tryd.prog 16 #[.int .u8 a0] w fun e w' => e = .returned (.int .i64 r) ∧ Drawn0 w w' := by
  have H : (if a0 ≥ 48 then (spec_l07Value.j0 k a0 (decide (a0 ≤ 57))) else (spec_l07Value.j0 k a0 false)) = some r := h
  clear h
  have HC2 := Aside0.mk H
  clear H
  go_enter Tryd.func16, Tryd.ntmps16
  go_upto_region 1 with (fail)
  go_cut [3] (fun v3 wc => ∃ (kq : Nat) (x3_1 : Bool), v3 = .bool x3_1 ∧ Aside0 (spec_l07Value.j0 kq a0 x3_1 = some r) ∧ Aside0 (kq ≤ k) ∧ Drawn0 w wc)
  case first =>
    have H := HC2.out
    clear HC2
    by_cases c3 : a0 ≥ 48
    · rw [if_pos c3] at H
      have c3b0 : decide (48 ≤ a0) = true := decide_eq_true c3
      clear c3
      (first | rw [c3b0] | (simp only [i64_w, i32_w]; rw [c3b0]) | skip)
      have H' := Aside0.mk H
      clear H
      go_wp2
      go_meet
      case rel => exact ⟨_, (decide (a0 ≤ 57)), (by first | rfl | (simp; done) | (simp [*]; done)), H', ⟨by first | omega | exact Nat.le_refl _⟩, by repeat (first | exact Drawn0.refl _ | apply Drawn0.step)⟩
    · rw [if_neg c3] at H
      have c3b0 : decide (48 ≤ a0) = false := decide_eq_false c3
      clear c3
      (first | rw [c3b0] | (simp only [i64_w, i32_w]; rw [c3b0]) | skip)
      have H' := Aside0.mk H
      clear H
      go_wp2
      go_meet
      case rel => exact ⟨_, (false), (by first | rfl | (simp; done) | (simp [*]; done)), H', ⟨by first | omega | exact Nat.le_refl _⟩, by repeat (first | exact Drawn0.refl _ | apply Drawn0.step)⟩
  case rest =>
    clear HC2
    try clear c1
    try clear p2
    try clear c3
    try clear c3b0
    obtain ⟨kq, x3_1, rfl, HA, HJ1, ⟨mc1, rfl⟩⟩ := hcut
    cases kq with
    | zero => exact absurd HA.out (by simp [spec_l07Value.j0])
    | succ kj1 =>
      have H := HA.out
      clear HA
      simp only [spec_l07Value.j0] at H
      by_cases c4 : x3_1 = true
      · subst c4
        have H1 : (some ((a0 - 48) % 256)) = some r := by rw [if_pos rfl] at H; exact H
        clear H
        have H := H1
        clear H1
        obtain rfl := Option.some.inj H
        go_wp2
        go_ret
        exact ⟨by first | rfl | (simp; done) | (simp [*]; done), by repeat (first | exact Drawn0.refl _ | apply Drawn0.step)⟩
      · replace c4 := Bool.eq_false_iff.mpr c4
        subst c4
        have H1 : (if a0 ≥ 97 then (if a0 ≤ 122 then (some (((a0 - 97) % 256) + 1)) else (some (-1))) else (some (-1))) = some r := by rw [if_neg (show ¬ (false = true) by decide)] at H; exact H
        clear H
        have H := H1
        clear H1
        by_cases c5 : a0 ≥ 97
        · rw [if_pos c5] at H
          have c5b0 : decide (97 ≤ a0) = true := decide_eq_true c5
          clear c5
          by_cases c6 : a0 ≤ 122
          · rw [if_pos c6] at H
            have c6b0 : decide (a0 ≤ 122) = true := decide_eq_true c6
            clear c6
            obtain rfl := Option.some.inj H
            go_wp2
            go_ret
            exact ⟨by first | rfl | (simp; done) | (simp [*]; done), by repeat (first | exact Drawn0.refl _ | apply Drawn0.step)⟩
          · rw [if_neg c6] at H
            have c6b0 : decide (a0 ≤ 122) = false := decide_eq_false c6
            clear c6
            obtain rfl := Option.some.inj H
            go_wp2
            go_ret
            exact ⟨by first | rfl | (simp; done) | (simp [*]; done), by repeat (first | exact Drawn0.refl _ | apply Drawn0.step)⟩
        · rw [if_neg c5] at H
          have c5b0 : decide (97 ≤ a0) = false := decide_eq_false c5
          clear c5
          obtain rfl := Option.some.inj H
          go_wp2
          go_ret
          exact ⟨by first | rfl | (simp; done) | (simp [*]; done), by repeat (first | exact Drawn0.refl _ | apply Drawn0.step)⟩

/-! ### spec_l07Check: function 17 -/
def spec_l07Check.val (b : Int) : Int := if 48 ≤ b ∧ b ≤ 57 then b - 48 else if 97 ≤ b ∧ b ≤ 122 then b - 96 else -1
def spec_l07Check.wt (n : Nat) : Int := match n with
  | 0 => 1 | 1 => 3 | 2 => 7 | 3 => 9 | 4 => 1 | 5 => 3 | 6 => 7 | _ => 9
def spec_l07Check.sum (t : ByteArray) : Nat → Int
  | 0 => 0
  | n + 1 => wrap64 (spec_l07Check.sum t n + wrap64 (spec_l07Check.val (bt t n) * spec_l07Check.wt n))
def spec_l07Check.f (a0 : ByteArray) : Option Int := if 8 ≤ a0.size then some (IntKind.u8.wrap (wrap64 (48 + Int.tmod (spec_l07Check.sum a0 8) 10))) else none
theorem spec_l07Check.val_is (b : Int) (h0 : 0 ≤ b) (h1 : b ≤ 255) : spec_l07Value.f 3 b = some (spec_l07Check.val b) := by
  unfold spec_l07Value.f spec_l07Check.val
  have w48 : b - 48 = b - 48 := rfl
  by_cases c0 : 48 ≤ b <;> by_cases c1 : b ≤ 57 <;> by_cases c2 : 97 ≤ b <;> by_cases c3 : b ≤ 122
  all_goals first
    | (exfalso; omega)
    | (simp [spec_l07Value.j0, c0, c1, c2, c3, ge_iff_le, IntKind.wrap_u8, wrap64]; done)
    | (simp [spec_l07Value.j0, c0, c1, c2, c3, ge_iff_le, IntKind.wrap_u8, wrap64]; omega)
theorem spec_l07Check.w64 (z : Int) : IntKind.i64.wrap z = wrap64 z := by rw [IntKind.wrap_i64]; unfold wrap64; omega
set_option maxHeartbeats 8000000 in
theorem spec_l07Check.calls (a0 : ByteArray) (r : Int) (w : World) (h : spec_l07Check.f a0 = some r) :
    Calls Tryd.prog 17 #[.string a0] w fun e w' => e = .returned (.int .u8 r) ∧ Below w.heap.size w w' := by
  unfold spec_l07Check.f at h
  by_cases h8 : 8 ≤ a0.size
  · rw [if_pos h8] at h
    obtain rfl := Option.some.inj h
    clear h
    have HV := Aside0.mk (fun i => spec_l07Check.val_is (bt a0 i) (bt_range a0 i).1 (bt_range a0 i).2)
    have HS := Aside0.mk h8
    clear h8
    go_enter Tryd.func17, Tryd.ntmps17
    go_wp2
    go_loopg [4, 5] 9 (fun gg s i wr => ∃ kk : Nat, kk ≤ 8 ∧ kk + gg = 9 ∧ s = .int .i64 (spec_l07Check.sum a0 kk) ∧ i = .int .i64 kk ∧ Aside0 (Below (w.alloc (.cells #[.int .i64 1, .int .i64 3, .int .i64 7, .int .i64 9] 36)).heap.size (w.alloc (.cells #[.int .i64 1, .int .i64 3, .int .i64 7, .int .i64 9] 36)) wr))
    case atStart => exact ⟨0, by omega, by omega, rfl, rfl, ⟨Below.refl _ _⟩⟩
    case round =>
      obtain ⟨kk, hkk, hg, rfl, rfl, HB⟩ := hrel
      have h9 : kk = 0 ∨ kk = 1 ∨ kk = 2 ∨ kk = 3 ∨ kk = 4 ∨ kk = 5 ∨ kk = 6 ∨ kk = 7 ∨ kk = 8 := by omega
      clear hkk
      have hc0 : wr.cell? ⟨w.heap.size, 0, none⟩ = some (.int .i64 1) := pw_cell_below HB.out (by simp)
      have hc1 : wr.cell? ⟨w.heap.size, 1, none⟩ = some (.int .i64 3) := pw_cell_below HB.out (by simp)
      have hc2 : wr.cell? ⟨w.heap.size, 2, none⟩ = some (.int .i64 7) := pw_cell_below HB.out (by simp)
      have hc3 : wr.cell? ⟨w.heap.size, 3, none⟩ = some (.int .i64 9) := pw_cell_below HB.out (by simp)
      obtain ⟨x, hx⟩ : ∃ x : Int, x = kk := ⟨_, rfl⟩
      rw [← hx]
      have HX := Aside0.mk hx
      clear hx
      rcases h9 with rfl | rfl | rfl | rfl | rfl | rfl | rfl | rfl | rfl
      · have HVV := Aside0.mk (HV.out x)
        have hx := bt_at a0 x
        have p0 := eq_true (show 0 ≤ x by have := HX.out; omega)
        have q0 := eq_true (show x < (a0.size : Int) by have := HX.out; have := HS.out; omega)
        have d8 : decide (x < 8) = true := decide_eq_true (by have := HX.out; omega)
        have m4 : Int.tmod x 4 = 0 := by rw [HX.out]; rfl
        have hb0 := HB.out
        go_upto_region 6 with fail
        go_region_held3 (fun w' => w'.cell? ⟨w.heap.size, 0, none⟩ = some (.int .i64 1) ∧ Below (w.alloc (.cells #[.int .i64 1, .int .i64 3, .int .i64 7, .int .i64 9] 36)).heap.size (w.alloc (.cells #[.int .i64 1, .int .i64 3, .int .i64 7, .int .i64 9] 36)) w')
          (first | exact ⟨hc0, below_drew1 hb0⟩ | (go_split_ands; refine ⟨pw_cell_below hb2 ?_, below_step ?_ hb2⟩ <;> assumption) | (go_split_ands; refine ⟨?_, ?_⟩ <;> assumption))
          (first | (go_at_call 16; refine (spec_l07Value.calls 3 (bt a0 x) (spec_l07Check.val (bt a0 x)) _ HVV.out).mono ?_; rintro e w' ⟨rfl, hb2⟩; replace hb2 := Drawn0.below hb2))
        go_wp2
        go_split_ands
        go_roundg 8
        case measure => omega
        case rel => exact ⟨1, by omega, by omega, by rw [HX.out]; first | rfl | exact congrArg (Value.int .i64) (by simp [spec_l07Check.sum, spec_l07Check.wt, spec_l07Check.w64]), by rw [HX.out]; exact congrArg (Value.int .i64) (by unfold wrap64; omega), ⟨by assumption⟩⟩
      · have HVV := Aside0.mk (HV.out x)
        have hx := bt_at a0 x
        have p0 := eq_true (show 0 ≤ x by have := HX.out; omega)
        have q0 := eq_true (show x < (a0.size : Int) by have := HX.out; have := HS.out; omega)
        have d8 : decide (x < 8) = true := decide_eq_true (by have := HX.out; omega)
        have m4 : Int.tmod x 4 = 1 := by rw [HX.out]; rfl
        have hb0 := HB.out
        go_upto_region 6 with fail
        go_region_held3 (fun w' => w'.cell? ⟨w.heap.size, 1, none⟩ = some (.int .i64 3) ∧ Below (w.alloc (.cells #[.int .i64 1, .int .i64 3, .int .i64 7, .int .i64 9] 36)).heap.size (w.alloc (.cells #[.int .i64 1, .int .i64 3, .int .i64 7, .int .i64 9] 36)) w')
          (first | exact ⟨hc1, below_drew1 hb0⟩ | (go_split_ands; refine ⟨pw_cell_below hb2 ?_, below_step ?_ hb2⟩ <;> assumption) | (go_split_ands; refine ⟨?_, ?_⟩ <;> assumption))
          (first | (go_at_call 16; refine (spec_l07Value.calls 3 (bt a0 x) (spec_l07Check.val (bt a0 x)) _ HVV.out).mono ?_; rintro e w' ⟨rfl, hb2⟩; replace hb2 := Drawn0.below hb2))
        go_wp2
        go_split_ands
        go_roundg 7
        case measure => omega
        case rel => exact ⟨2, by omega, by omega, by rw [HX.out]; first | rfl | exact congrArg (Value.int .i64) (by simp [spec_l07Check.sum, spec_l07Check.wt, spec_l07Check.w64]), by rw [HX.out]; exact congrArg (Value.int .i64) (by unfold wrap64; omega), ⟨by assumption⟩⟩
      · have HVV := Aside0.mk (HV.out x)
        have hx := bt_at a0 x
        have p0 := eq_true (show 0 ≤ x by have := HX.out; omega)
        have q0 := eq_true (show x < (a0.size : Int) by have := HX.out; have := HS.out; omega)
        have d8 : decide (x < 8) = true := decide_eq_true (by have := HX.out; omega)
        have m4 : Int.tmod x 4 = 2 := by rw [HX.out]; rfl
        have hb0 := HB.out
        go_upto_region 6 with fail
        go_region_held3 (fun w' => w'.cell? ⟨w.heap.size, 2, none⟩ = some (.int .i64 7) ∧ Below (w.alloc (.cells #[.int .i64 1, .int .i64 3, .int .i64 7, .int .i64 9] 36)).heap.size (w.alloc (.cells #[.int .i64 1, .int .i64 3, .int .i64 7, .int .i64 9] 36)) w')
          (first | exact ⟨hc2, below_drew1 hb0⟩ | (go_split_ands; refine ⟨pw_cell_below hb2 ?_, below_step ?_ hb2⟩ <;> assumption) | (go_split_ands; refine ⟨?_, ?_⟩ <;> assumption))
          (first | (go_at_call 16; refine (spec_l07Value.calls 3 (bt a0 x) (spec_l07Check.val (bt a0 x)) _ HVV.out).mono ?_; rintro e w' ⟨rfl, hb2⟩; replace hb2 := Drawn0.below hb2))
        go_wp2
        go_split_ands
        go_roundg 6
        case measure => omega
        case rel => exact ⟨3, by omega, by omega, by rw [HX.out]; first | rfl | exact congrArg (Value.int .i64) (by simp [spec_l07Check.sum, spec_l07Check.wt, spec_l07Check.w64]), by rw [HX.out]; exact congrArg (Value.int .i64) (by unfold wrap64; omega), ⟨by assumption⟩⟩
      · have HVV := Aside0.mk (HV.out x)
        have hx := bt_at a0 x
        have p0 := eq_true (show 0 ≤ x by have := HX.out; omega)
        have q0 := eq_true (show x < (a0.size : Int) by have := HX.out; have := HS.out; omega)
        have d8 : decide (x < 8) = true := decide_eq_true (by have := HX.out; omega)
        have m4 : Int.tmod x 4 = 3 := by rw [HX.out]; rfl
        have hb0 := HB.out
        go_upto_region 6 with fail
        go_region_held3 (fun w' => w'.cell? ⟨w.heap.size, 3, none⟩ = some (.int .i64 9) ∧ Below (w.alloc (.cells #[.int .i64 1, .int .i64 3, .int .i64 7, .int .i64 9] 36)).heap.size (w.alloc (.cells #[.int .i64 1, .int .i64 3, .int .i64 7, .int .i64 9] 36)) w')
          (first | exact ⟨hc3, below_drew1 hb0⟩ | (go_split_ands; refine ⟨pw_cell_below hb2 ?_, below_step ?_ hb2⟩ <;> assumption) | (go_split_ands; refine ⟨?_, ?_⟩ <;> assumption))
          (first | (go_at_call 16; refine (spec_l07Value.calls 3 (bt a0 x) (spec_l07Check.val (bt a0 x)) _ HVV.out).mono ?_; rintro e w' ⟨rfl, hb2⟩; replace hb2 := Drawn0.below hb2))
        go_wp2
        go_split_ands
        go_roundg 5
        case measure => omega
        case rel => exact ⟨4, by omega, by omega, by rw [HX.out]; first | rfl | exact congrArg (Value.int .i64) (by simp [spec_l07Check.sum, spec_l07Check.wt, spec_l07Check.w64]), by rw [HX.out]; exact congrArg (Value.int .i64) (by unfold wrap64; omega), ⟨by assumption⟩⟩
      · have HVV := Aside0.mk (HV.out x)
        have hx := bt_at a0 x
        have p0 := eq_true (show 0 ≤ x by have := HX.out; omega)
        have q0 := eq_true (show x < (a0.size : Int) by have := HX.out; have := HS.out; omega)
        have d8 : decide (x < 8) = true := decide_eq_true (by have := HX.out; omega)
        have m4 : Int.tmod x 4 = 0 := by rw [HX.out]; rfl
        have hb0 := HB.out
        go_upto_region 6 with fail
        go_region_held3 (fun w' => w'.cell? ⟨w.heap.size, 0, none⟩ = some (.int .i64 1) ∧ Below (w.alloc (.cells #[.int .i64 1, .int .i64 3, .int .i64 7, .int .i64 9] 36)).heap.size (w.alloc (.cells #[.int .i64 1, .int .i64 3, .int .i64 7, .int .i64 9] 36)) w')
          (first | exact ⟨hc0, below_drew1 hb0⟩ | (go_split_ands; refine ⟨pw_cell_below hb2 ?_, below_step ?_ hb2⟩ <;> assumption) | (go_split_ands; refine ⟨?_, ?_⟩ <;> assumption))
          (first | (go_at_call 16; refine (spec_l07Value.calls 3 (bt a0 x) (spec_l07Check.val (bt a0 x)) _ HVV.out).mono ?_; rintro e w' ⟨rfl, hb2⟩; replace hb2 := Drawn0.below hb2))
        go_wp2
        go_split_ands
        go_roundg 4
        case measure => omega
        case rel => exact ⟨5, by omega, by omega, by rw [HX.out]; first | rfl | exact congrArg (Value.int .i64) (by simp [spec_l07Check.sum, spec_l07Check.wt, spec_l07Check.w64]), by rw [HX.out]; exact congrArg (Value.int .i64) (by unfold wrap64; omega), ⟨by assumption⟩⟩
      · have HVV := Aside0.mk (HV.out x)
        have hx := bt_at a0 x
        have p0 := eq_true (show 0 ≤ x by have := HX.out; omega)
        have q0 := eq_true (show x < (a0.size : Int) by have := HX.out; have := HS.out; omega)
        have d8 : decide (x < 8) = true := decide_eq_true (by have := HX.out; omega)
        have m4 : Int.tmod x 4 = 1 := by rw [HX.out]; rfl
        have hb0 := HB.out
        go_upto_region 6 with fail
        go_region_held3 (fun w' => w'.cell? ⟨w.heap.size, 1, none⟩ = some (.int .i64 3) ∧ Below (w.alloc (.cells #[.int .i64 1, .int .i64 3, .int .i64 7, .int .i64 9] 36)).heap.size (w.alloc (.cells #[.int .i64 1, .int .i64 3, .int .i64 7, .int .i64 9] 36)) w')
          (first | exact ⟨hc1, below_drew1 hb0⟩ | (go_split_ands; refine ⟨pw_cell_below hb2 ?_, below_step ?_ hb2⟩ <;> assumption) | (go_split_ands; refine ⟨?_, ?_⟩ <;> assumption))
          (first | (go_at_call 16; refine (spec_l07Value.calls 3 (bt a0 x) (spec_l07Check.val (bt a0 x)) _ HVV.out).mono ?_; rintro e w' ⟨rfl, hb2⟩; replace hb2 := Drawn0.below hb2))
        go_wp2
        go_split_ands
        go_roundg 3
        case measure => omega
        case rel => exact ⟨6, by omega, by omega, by rw [HX.out]; first | rfl | exact congrArg (Value.int .i64) (by simp [spec_l07Check.sum, spec_l07Check.wt, spec_l07Check.w64]), by rw [HX.out]; exact congrArg (Value.int .i64) (by unfold wrap64; omega), ⟨by assumption⟩⟩
      · have HVV := Aside0.mk (HV.out x)
        have hx := bt_at a0 x
        have p0 := eq_true (show 0 ≤ x by have := HX.out; omega)
        have q0 := eq_true (show x < (a0.size : Int) by have := HX.out; have := HS.out; omega)
        have d8 : decide (x < 8) = true := decide_eq_true (by have := HX.out; omega)
        have m4 : Int.tmod x 4 = 2 := by rw [HX.out]; rfl
        have hb0 := HB.out
        go_upto_region 6 with fail
        go_region_held3 (fun w' => w'.cell? ⟨w.heap.size, 2, none⟩ = some (.int .i64 7) ∧ Below (w.alloc (.cells #[.int .i64 1, .int .i64 3, .int .i64 7, .int .i64 9] 36)).heap.size (w.alloc (.cells #[.int .i64 1, .int .i64 3, .int .i64 7, .int .i64 9] 36)) w')
          (first | exact ⟨hc2, below_drew1 hb0⟩ | (go_split_ands; refine ⟨pw_cell_below hb2 ?_, below_step ?_ hb2⟩ <;> assumption) | (go_split_ands; refine ⟨?_, ?_⟩ <;> assumption))
          (first | (go_at_call 16; refine (spec_l07Value.calls 3 (bt a0 x) (spec_l07Check.val (bt a0 x)) _ HVV.out).mono ?_; rintro e w' ⟨rfl, hb2⟩; replace hb2 := Drawn0.below hb2))
        go_wp2
        go_split_ands
        go_roundg 2
        case measure => omega
        case rel => exact ⟨7, by omega, by omega, by rw [HX.out]; first | rfl | exact congrArg (Value.int .i64) (by simp [spec_l07Check.sum, spec_l07Check.wt, spec_l07Check.w64]), by rw [HX.out]; exact congrArg (Value.int .i64) (by unfold wrap64; omega), ⟨by assumption⟩⟩
      · have HVV := Aside0.mk (HV.out x)
        have hx := bt_at a0 x
        have p0 := eq_true (show 0 ≤ x by have := HX.out; omega)
        have q0 := eq_true (show x < (a0.size : Int) by have := HX.out; have := HS.out; omega)
        have d8 : decide (x < 8) = true := decide_eq_true (by have := HX.out; omega)
        have m4 : Int.tmod x 4 = 3 := by rw [HX.out]; rfl
        have hb0 := HB.out
        go_upto_region 6 with fail
        go_region_held3 (fun w' => w'.cell? ⟨w.heap.size, 3, none⟩ = some (.int .i64 9) ∧ Below (w.alloc (.cells #[.int .i64 1, .int .i64 3, .int .i64 7, .int .i64 9] 36)).heap.size (w.alloc (.cells #[.int .i64 1, .int .i64 3, .int .i64 7, .int .i64 9] 36)) w')
          (first | exact ⟨hc3, below_drew1 hb0⟩ | (go_split_ands; refine ⟨pw_cell_below hb2 ?_, below_step ?_ hb2⟩ <;> assumption) | (go_split_ands; refine ⟨?_, ?_⟩ <;> assumption))
          (first | (go_at_call 16; refine (spec_l07Value.calls 3 (bt a0 x) (spec_l07Check.val (bt a0 x)) _ HVV.out).mono ?_; rintro e w' ⟨rfl, hb2⟩; replace hb2 := Drawn0.below hb2))
        go_wp2
        go_split_ands
        go_roundg 1
        case measure => omega
        case rel => exact ⟨8, by omega, by omega, by rw [HX.out]; first | rfl | exact congrArg (Value.int .i64) (by simp [spec_l07Check.sum, spec_l07Check.wt, spec_l07Check.w64]), by rw [HX.out]; exact congrArg (Value.int .i64) (by unfold wrap64; omega), ⟨by assumption⟩⟩
      · have d8 : decide (x < 8) = false := decide_eq_false (by have := HX.out; omega)
        go_wp2
        go_ret
        exact ⟨rfl, below_step (below_alloc (Below.refl _ _) _) (by repeat (first | exact HB.out | apply below_alloc | apply pw_below_drewN | apply below_drew1))⟩
  · rw [if_neg h8] at h; cases h

end Go.Proofs.YtolhlackfphdcaaDoor.PNea
