/- The table of powers of ten that strconv reads, as what a world holds; it stays where nothing that lay there is written. -/
import Derived.Test.YtolhlackfphdcaaDoorShelf
import Derived.Lib.LaidTab
import Derived.Below
import Derived.WalkSmall
import Derived.KernelRfl
namespace Go.Proofs.YtolhlackfphdcaaDoor.Tbl
open Go.RowKit Go.Sort
def TabP (w : World) : Prop := Lib.TabIs Tryd.prog w "internal/strconv.uint64pow10" .u64 Lib.pow10Tab
/-- ... and the library's error of bad syntax is some error. -/
def Tb (w : World) : Prop := TabP w ∧ ∃ tp p, w.var? Tryd.prog "strconv.ErrSyntax" = some #[.iface tp p]
theorem Tb.tab {w : World} (h : Tb w) : Lib.TabIs Tryd.prog w "internal/strconv.uint64pow10" .u64 Lib.pow10Tab := h.1
theorem gErr : Tryd.prog.globalNamed "strconv.ErrSyntax" = some 0 := by kernel_rfl
theorem gTab : Tryd.prog.globalNamed "internal/strconv.uint64pow10" = some 3 := by kernel_rfl
theorem TabP.later {w w1 : World} (h : TabP w) (hb : Below w.heap.size w w1) : TabP w1 := by
  refine var?_below hb gTab ?_ h
  have h' : w.var? Tryd.prog "internal/strconv.uint64pow10" = some _ := h
  rcases Nat.lt_or_ge 3 w.heap.size with hl | hl
  · exact hl
  · unfold World.var? at h'
    rw [gTab] at h'
    simp [Array.getElem?_eq_none hl] at h'
theorem Tb.later {w w1 : World} (h : Tb w) (hb : Below w.heap.size w w1) : Tb w1 := by
  refine ⟨h.1.later hb, ?_⟩
  obtain ⟨tp, p, h'⟩ := h.2
  refine ⟨tp, p, var?_below hb gErr ?_ h'⟩
  rcases Nat.lt_or_ge 0 w.heap.size with hl | hl
  · exact hl
  · unfold World.var? at h'
    rw [gErr] at h'
    simp [Array.getElem?_eq_none hl] at h'
theorem below_grow (w : World) (n : Nat) (os : Array Obj) : Below w.heap.size w (grow (w.drewN n) os) :=
  ⟨rfl, rfl, rfl, by show w.heap.size ≤ (w.heap ++ os).size; rw [Array.size_append]; omega, fun _ hj => Sort.heap_grow_old (w.drewN n) os hj⟩
end Go.Proofs.YtolhlackfphdcaaDoor.Tbl
