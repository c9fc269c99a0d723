/- FactsPairs, in plain words: Meet, Join and Leq of the program are the reference's. -/
import Derived.Test.YtcihbcffokjgjaaGreatStFactsPairs
import Derived.Test.YtcihbcffokjgjaaGreatFc
import Derived.Test.YtcihbcffokjgjaaGreatFl
namespace Go.Proofs.YtcihbcffokjgjaaGreat.Th
open Go Go.RowKit Go.Proofs.YtcihbcffokjgjaaGreat.Ev Go.Proofs.YtcihbcffokjgjaaGreat.Fn Go.Proofs.YtcihbcffokjgjaaGreat.Bv
set_option linter.unusedVariables false
set_option linter.unusedSimpArgs false
set_option maxRecDepth 100000
theorem pairs_abs (v : Unit → Option Bool) {h} (hv : v () = some true) (fu : Nat) (a a' : Int) {z o l u z' o' l' u' : Nat} (hz : z < U64) (ho : o < U64) (hz' : z' < U64) (ho' : o' < U64) : saturatelaw14_FactsPairs.gv v h fu (a, (z : Int), (o : Int), (l : Int), (u : Int)) (a', (z' : Int), (o' : Int), (l' : Int), (u' : Int)) = some true := by
  obtain ⟨m, b, m1, m2, _⟩ := meet_ex a a' (k := (z, o)) (r := (l, u)) (k' := (z', o')) (r' := (l', u')) hz ho hz' ho'
  obtain ⟨q, j1, j2⟩ := join_ex a a' (k := (z, o)) (r := (l, u)) (k' := (z', o')) (r' := (l', u')) hz ho hz' ho'
  obtain ⟨c, l1, l2⟩ := facts_Leq_eq a a' (k := (z, o)) (r := (l, u)) (k' := (z', o')) (r' := (l', u')) hz ho hz' ho'
  unfold saturatelaw14_FactsPairs.gv
  simp only at m1 m2 j1 j2 l1 l2 ⊢
  rw [m1, m2, j1, j2, l1, l2, hv]
  simp only [Option.bind_some, beq_self_eq_true, Bool.and_self, cond_true]
theorem FactsPairs : St.FactsPairs := by
  intro a a1 a2 a3 a4 b b1 b2 b3 b4 _ h1 h2 h3 h4 _ g1 g2 g3 g4
  obtain ⟨a1, rfl, l1⟩ := u64_of h1
  obtain ⟨a2, rfl, l2⟩ := u64_of h2
  obtain ⟨a3, rfl, l3⟩ := u64_of h3
  obtain ⟨a4, rfl, l4⟩ := u64_of h4
  obtain ⟨b1, rfl, m1⟩ := u64_of g1
  obtain ⟨b2, rfl, m2⟩ := u64_of g2
  obtain ⟨b3, rfl, m3⟩ := u64_of g3
  obtain ⟨b4, rfl, m4⟩ := u64_of g4
  have q := @pairs_abs (fun a => saturatelaw14_lives.f) ⟨saturatelaw14_lives.con⟩ lives14_true (fuel0 + 1) a b a1 a2 a3 a4 b1 b2 b3 b4 l1 l2 m1 m2
  delta saturatelaw14_FactsPairs.f
  exact q
end Go.Proofs.YtcihbcffokjgjaaGreat.Th
