/-
  FrameThere at what a row hands over. No condition.
-/
import Derived.Test.YtgjfdbbghefdbaaGreatDoorRf7
import Derived.Test.YtgjfdbbghefdbaaGreatDoorLt20
namespace Go.Proofs.YtgjfdbbghefdbaaGreatDoor.Rdb
open Go.ChangeShapes Go.WideShapes Go.ChangeAt Go.RowKit Go.Joins
theorem frameThere_any {W : World} {x : Sx.Dat} {v : Value} {r1 : List Sx.Dat} {c1 : Array Value} {r2 : List Sx.Dat} {c2 : Array Value} (hT : Sx.ToldM Fa.rho.tl (Sx.memOf W)) (hx : Sx.DR Fa.lay (Sx.memOf W) (.sl 43) x v) (ho : Dd.Dok x) (hf : Dd.Good Fa.lay (Sx.memOf W) (Fa.lay 43) r1 c1.toList) (hfo : Dd.AllOk r1) (ht : Dd.Good Fa.lay (Sx.memOf W) (Fa.lay 26) r2 c2.toList) (hto : Dd.AllOk r2) :
    Calls Tryz.prog 4 #[v, .agg c1, .agg c2] W fun e W' => e = .returned (.bool true) ∧ Below W.heap.size W W' :=
  Lt.there_any (cs := c1.toList) hT hx ho hf hfo ht hto
end Go.Proofs.YtgjfdbbghefdbaaGreatDoor.Rdb
