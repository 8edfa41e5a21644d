/- The contracts of the arithmetic, at whole numbers. -/
import Derived.Test.YteckhaafdojoeaaS
import Derived.Test.YteckhaafdojoeaaM4
namespace Go.Proofs.Yteckhaafdojoeaa
open Go.RowKit

theorem iMulD' (x y : DO) (w : World) : Calls Try.prog 126 #[Dv x, Dv y] w fun e w' => e = .returned (.tuple #[Dv (mulD x y).1, .bool (mulD x y).2]) ∧ Below w.heap.size w w' := iMulD _ _ _ _ _ _ _ _ _ _ _
theorem iAddD' (x y : DO) (w : World) : Calls Try.prog 176 #[Dv x, Dv y] w fun e w' => e = .returned (.tuple #[Dv (addD x y).1, .bool (addD x y).2]) ∧ Below w.heap.size w w' := iAddD _ _ _ _ _ _ _ _ _ _ _
theorem iNegD' (x : DO) (w : World) : Calls Try.prog 130 #[Dv x] w fun e w' => e = .returned (Dv (negD x)) ∧ Below w.heap.size w w' := iNegD _ _ _ _ _ _
theorem iConjD' (x : DO) (w : World) : Calls Try.prog 107 #[Dv x] w fun e w' => e = .returned (Dv (conjD x)) ∧ Below w.heap.size w w' := iConjD _ _ _ _ _ _
theorem iIsValidD' (x : DO) (w : World) : Calls Try.prog 156 #[Dv x] w fun e w' => e = .returned (.bool x.ok) ∧ Below w.heap.size w w' := iIsValidD _ _ _ _ _ _
theorem sMulD' (x y : DO) (w : World) : Calls Try.prog 121 #[Dv x, Dv y] w fun e w' => e = .returned (.tuple #[Dv (mulD x y).1, .bool (mulD x y).2]) ∧ Below w.heap.size w w' := sMulD _ _ _ _ _ _ _ _ _ _ _
theorem sAddD' (x y : DO) (w : World) : Calls Try.prog 122 #[Dv x, Dv y] w fun e w' => e = .returned (.tuple #[Dv (addD x y).1, .bool (addD x y).2]) ∧ Below w.heap.size w w' := sAddD _ _ _ _ _ _ _ _ _ _ _
theorem sNegD' (x : DO) (w : World) : Calls Try.prog 168 #[Dv x] w fun e w' => e = .returned (Dv (negD x)) ∧ Below w.heap.size w w' := sNegD _ _ _ _ _ _
theorem sConjD' (x : DO) (w : World) : Calls Try.prog 146 #[Dv x] w fun e w' => e = .returned (Dv (conjD x)) ∧ Below w.heap.size w w' := sConjD _ _ _ _ _ _
theorem sIsValidD' (x : DO) (w : World) : Calls Try.prog 164 #[Dv x] w fun e w' => e = .returned (.bool x.ok) ∧ Below w.heap.size w w' := sIsValidD _ _ _ _ _ _

end Go.Proofs.Yteckhaafdojoeaa
