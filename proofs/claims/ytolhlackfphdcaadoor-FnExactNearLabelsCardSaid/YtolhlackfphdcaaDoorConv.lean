/- string(b) of a few cells of bytes: the fact that a walk wants beside it. -/
import Derived.Test.YtolhlackfphdcaaDoorProg
import Derived.Laws.BytesArg
import Derived.WalkSmall
import Derived.RowKit
import Derived.KernelRfl
namespace Go.Proofs.YtolhlackfphdcaaDoor.Conv
open Go.RowKit
theorem conv3 (w : World) (g o : Nat) (a b c : Int) (h0 : w.cell? ⟨g, o, none⟩ = some (.int .u8 a)) (h1 : w.cell? ⟨g, o + 1, none⟩ = some (.int .u8 b)) (h2 : w.cell? ⟨g, o + 2, none⟩ = some (.int .u8 c)) :
    (convert 29 9 (.slice (some ⟨g, o, none⟩) 3 3)).run Tryd.prog w = .ok (.string (strOfNums [a, b, c])) w :=
  run_convert_bytes_arg (P := Tryd.prog) w 29 5 Tryd.underlying29 Tryd.underlying5 g o 3 3 [a, b, c] rfl (fun i hi => by
    have h : i = 0 ∨ i = 1 ∨ i = 2 := by omega
    rcases h with rfl | rfl | rfl
    · exact h0
    · exact h1
    · exact h2) 9 Tryd.underlying9
theorem conv1 (w : World) (g n : Nat) (a : Int) (h0 : w.cell? ⟨g, 0, none⟩ = some (.int .u8 a)) :
    (convert 29 9 (.slice (some ⟨g, 0, none⟩) 1 n)).run Tryd.prog w = .ok (.string (strOfNums [a])) w :=
  run_convert_bytes_arg (P := Tryd.prog) w 29 5 Tryd.underlying29 Tryd.underlying5 g 0 1 n [a] rfl (fun i hi => by
    have h : i = 0 := by omega
    subst h
    exact h0) 9 Tryd.underlying9
end Go.Proofs.YtolhlackfphdcaaDoor.Conv
