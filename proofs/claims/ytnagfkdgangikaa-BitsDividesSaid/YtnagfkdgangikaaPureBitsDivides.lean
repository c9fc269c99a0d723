/- For every width and all values: the quotient times b plus the remainder is a, a difference is the sum with the negation, a complement is the difference from the mask, results are at most the mask, and the examples of the document hold. Conditions: none beyond the kinds of the numbers. -/
import Derived.Test.YtnagfkdgangikaaFunAll0
import Derived.Test.YtnagfkdgangikaaQAllx7
namespace Go.Proofs.Ytnagfkdgangikaa.Pure
open Go Go.RowKit Go.Proofs.Ytnagfkdgangikaa.QAll Go.Proofs.YtnagfkdgangikaaW.PrintWords Go.Proofs.YtnagfkdgangikaaW.PrintLast Go.Proofs.Ytnagfkdgangikaa.Bv
set_option linter.unusedVariables false
set_option linter.unusedSimpArgs false
theorem div_back (w x y : Nat) : vadd w (vmul w (vudiv w x y) y) (vurem w x y) = vcut w x := by
  unfold vadd vmul vudiv vurem vcut
  by_cases h : y % 2 ^ w = 0
  · rw [if_pos h, if_pos h]
    rw [Nat.mul_mod, h]; simp
  · rw [if_neg h, if_neg h]
    rw [Nat.mod_add_mod, ← Nat.mod_add_mod]
    have e : x % 2 ^ w / (y % 2 ^ w) * y % 2 ^ w = x % 2 ^ w / (y % 2 ^ w) * (y % 2 ^ w) % 2 ^ w := by rw [Nat.mul_mod_mod]
    rw [e, Nat.mod_add_mod, Nat.mul_comm, Nat.div_add_mod, Nat.mod_mod]
theorem sub_neg (w x y : Nat) : vsub w x y = vadd w x (vneg w y) := by
  unfold vsub vadd vneg; rw [Nat.add_mod_mod]
theorem not_sub (w x : Nat) : vnot w x = vsub w (vmask w) x := by
  have h := Nat.mod_lt x (pw_pos w)
  unfold vnot vsub vmask
  generalize x % 2 ^ w = r at *
  generalize 2 ^ w = P at *
  rw [show P - 1 + (P - r) = P * 1 + (P - 1 - r) by omega, Nat.mul_add_mod, Nat.mod_eq_of_lt (by omega)]
theorem le_mask {w x : Nat} (h : x < 2 ^ w) : (x : Int) ≤ (vmask w : Int) := by unfold vmask; omega
theorem vashr_lt' (w x y : Nat) : vashr w x y < 2 ^ w := by
  have hp := pw_pos w
  unfold vashr; split
  · generalize (2 ^ w - 1 - x % 2 ^ w) >>> (y % 2 ^ w) = t
    omega
  · exact Nat.lt_of_le_of_lt (shr_le _ _) (Nat.mod_lt _ hp)
theorem BitsDivides : saturatelaw01_BitsDivides.Pure := by
  intro a0 a1 a2 h0 h1 h2
  obtain ⟨x, rfl, hx⟩ := u64_of h1
  obtain ⟨y, rfl, hy⟩ := u64_of h2
  have hw := W_le a0
  refine ⟨1002, ?_⟩
  unfold saturatelaw01_BitsDivides.f
  simp only [bits_Mask_eq, bits_Udiv_eq a0 hx hy, bits_Mul_eq a0 (x := vudiv (W a0) x y) (y := y), bits_Urem_eq a0 hx hy, bits_Add_eq a0 (x := vmul (W a0) (vudiv (W a0) x y) y) (y := vurem (W a0) x y), bits_Cut_eq a0 hx, bits_Sub_eq a0 (x := x) hy, bits_Neg_eq a0 hy, bits_Add_eq a0 (x := x) (y := vneg (W a0) y), bits_Not_eq a0 hx, bits_Sub_eq a0 (x := vmask (W a0)) hx, Option.bind_some, div_back, ← sub_neg, ← not_sub, if_true]
  have e : ((vnot (W a0) x : Int) != (vnot (W a0) x : Int)) = false := by simp
  rw [e]
  simp only [saturatelaw01_BitsDivides.j0]
  rw [if_neg (by decide), if_pos (le_mask (show vcut (W a0) x < 2 ^ W a0 from Nat.mod_lt _ (pw_pos _)))]
  simp only [bits_Mul_eq a0 (x := x) (y := y), bits_Shl_eq (k := 1001) (by decide) a0 hx hy, bits_Ashr_eq (k := 1001) (by decide) a0 hx hy, Option.bind_some]
  rw [if_pos (le_mask (show vmul (W a0) x y < 2 ^ W a0 from Nat.mod_lt _ (pw_pos _))), if_pos (le_mask (show vshl (W a0) x y < 2 ^ W a0 from Nat.mod_lt _ (pw_pos _))), if_pos (le_mask (vashr_lt' _ _ _))]
  have hl : saturatelaw01_lives.f 1001 = some true := by decide +kernel
  rw [hl]; rfl
end Go.Proofs.Ytnagfkdgangikaa.Pure
