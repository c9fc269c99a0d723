/- The law's loop, worked out for one, two and three operands. -/
import Derived.Test.YtchahcaccneinaaF3
import Derived.Test.YtchahcaccneinaaTz
namespace Go.Proofs.Ytchahcaccneinaa.Fn
open Go Go.RowKit Go.Proofs.Ytchahcaccneinaa.Ev Go.Proofs.Ytchahcaccneinaa.Bv
set_option linter.unusedVariables false
set_option linter.unusedSimpArgs false
set_option maxRecDepth 100000

/-- The end of the law: the result is a range that contains y. -/
noncomputable def fin13 (r : Int) (q : Int × Int) (y : Option Int) : Option Bool :=
  y.bind fun y => (ranges_Valid.f r (q.1, q.2)).bind fun b => bif b then (ranges_Has.f r (q.1, q.2) y).bind fun c => bif c then (saturatelaw13_lives.f).bind fun t => some t else some false else some false
theorem sp1 (fu k : Nat) (op w x r lo hi : Int) (g glo ghi y : Nat → Int) : saturatelaw13_RangesSound.j9 fu (k + 2) 1 r 0 ((1 : Nat) : Int) 0 1 y op w x 1 1 lo hi 0 (fun _ => 0) 1 g 1 glo ghi =
    (saturateref01_Cut.f (g 0) (y 0)).bind fun a => (ranges_Has.f (g 0) (glo 0, ghi 0) a).bind fun b => bif !b then (saturatelaw13_lives.f).bind fun t => some t else
      fin13 r (lo, hi) (saturateref13_Value.f op r x (1, g) (1, cat 0 (fun _ => 0) (fun i => [a].getD i 0))) := by kernel_rfl
theorem sp2 (fu k : Nat) (op w x r lo hi : Int) (g glo ghi y : Nat → Int) : saturatelaw13_RangesSound.j9 fu (k + 3) 2 r 0 ((2 : Nat) : Int) 0 2 y op w x 2 2 lo hi 0 (fun _ => 0) 2 g 2 glo ghi =
    (saturateref01_Cut.f (g 0) (y 0)).bind fun a => (ranges_Has.f (g 0) (glo 0, ghi 0) a).bind fun b => bif !b then (saturatelaw13_lives.f).bind fun t => some t else
    (saturateref01_Cut.f (g 1) (y 1)).bind fun a1 => (ranges_Has.f (g 1) (glo 1, ghi 1) a1).bind fun b1 => bif !b1 then (saturatelaw13_lives.f).bind fun t => some t else
      fin13 r (lo, hi) (saturateref13_Value.f op r x (2, g) (2, cat 1 (cat 0 (fun _ => 0) (fun i => [a].getD i 0)) (fun i => [a1].getD i 0))) := by kernel_rfl
theorem sp3 (fu k : Nat) (op w x r lo hi : Int) (g glo ghi y : Nat → Int) : saturatelaw13_RangesSound.j9 fu (k + 4) 3 r 0 ((3 : Nat) : Int) 0 3 y op w x 3 3 lo hi 0 (fun _ => 0) 3 g 3 glo ghi =
    (saturateref01_Cut.f (g 0) (y 0)).bind fun a => (ranges_Has.f (g 0) (glo 0, ghi 0) a).bind fun b => bif !b then (saturatelaw13_lives.f).bind fun t => some t else
    (saturateref01_Cut.f (g 1) (y 1)).bind fun a1 => (ranges_Has.f (g 1) (glo 1, ghi 1) a1).bind fun b1 => bif !b1 then (saturatelaw13_lives.f).bind fun t => some t else
    (saturateref01_Cut.f (g 2) (y 2)).bind fun a2 => (ranges_Has.f (g 2) (glo 2, ghi 2) a2).bind fun b2 => bif !b2 then (saturatelaw13_lives.f).bind fun t => some t else
      fin13 r (lo, hi) (saturateref13_Value.f op r x (3, g) (3, cat 2 (cat 1 (cat 0 (fun _ => 0) (fun i => [a].getD i 0)) (fun i => [a1].getD i 0)) (fun i => [a2].getD i 0))) := by kernel_rfl
end Go.Proofs.Ytchahcaccneinaa.Fn
