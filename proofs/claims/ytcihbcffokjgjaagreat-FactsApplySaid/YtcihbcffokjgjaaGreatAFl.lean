/- lives() of the chapter on facts: its examples, one by one. -/
import Derived.Test.YtcihbcffokjgjaaGreatAF4
import Derived.Test.YtcihbcffokjgjaaGreatATb
namespace Go.Proofs.YtcihbcffokjgjaaGreat.Fn
open Go Go.RowKit Go.Proofs.YtcihbcffokjgjaaGreat.Ev Go.Proofs.YtcihbcffokjgjaaGreat.Bv
set_option linter.unusedVariables false
set_option linter.unusedSimpArgs false
set_option maxRecDepth 100000

abbrev tX : Tm := Tm.mk 1 8 0 (ByteArray.mk #[120]) []
abbrev tC (n : Int) : Tm := Tm.mk 2 8 n (ByteArray.mk #[]) []
abbrev tLow : Tm := Tm.mk 5 8 0 (ByteArray.mk #[]) [tX, tC 15]
abbrev tUlt : Tm := Tm.mk 17 1 0 (ByteArray.mk #[]) [tLow, tC 16]
theorem l14_const : facts_Const.f 8 3 = some (8, 252, 3, 3, 3) := by kernel_rfl
theorem l14_const4 : facts_Const.f 8 4 = some (8, 251, 4, 4, 4) := by kernel_rfl
theorem l14_const1 : facts_Const.f 1 1 = some (1, 0, 1, 1, 1) := by kernel_rfl
theorem l14_var : term_Var.f (ByteArray.mk #[120]) 8 = some tX := by kernel_rfl
theorem l14_cst : term_Const.f 8 15 = some (tC 15) := by kernel_rfl
theorem l14_cst16 : term_Const.f 8 16 = some (tC 16) := by kernel_rfl
theorem l14_make : term_Make.f 5 [tX, tC 15] = some tLow := by kernel_rfl
theorem l14_make2 : term_Make.f 17 [tLow, tC 16] = some tUlt := by kernel_rfl
theorem l14_top : facts_Top.f 8 = some (8, 0, 0, 0, 255) := by kernel_rfl
theorem l14_top4 : facts_Top.f 4 = some (4, 0, 0, 0, 15) := by kernel_rfl
theorem l14_meet : facts_Meet.f (8, 252, 3, 3, 3) (8, 0, 0, 0, 255) = some ((8, 252, 3, 3, 3), true) := by kernel_rfl
theorem l14_meet2 : facts_Meet.f (8, 252, 3, 3, 3) (8, 251, 4, 4, 4) = some ((8, 0, 0, 0, 255), false) := by kernel_rfl
theorem l14_chk0 : term_Check.f (Tm.mk 0 0 0 (ByteArray.mk #[]) []) = some 4 := by kernel_rfl
theorem l14_chk1 : term_Check.f tLow = some 0 := by kernel_rfl
theorem l14_chk2 : term_Check.f tUlt = some 0 := by kernel_rfl
theorem l14_c1 : facts_compute.f tLow = some (8, 240, 0, 0, 15) := by kernel_rfl
theorem l14_c2 : facts_compute.f tUlt = some (1, 0, 1, 1, 1) := by kernel_rfl
theorem l14_val : facts_Valid.f (8, 240, 0, 0, 15) = some true := by kernel_rfl
theorem l14_val2 : facts_Valid.f (8, 240, 0, 0, 255) = some false := by kernel_rfl
theorem l14_join : facts_Join.f (8, 0, 0, 0, 255) (4, 0, 0, 0, 15) = some ((0, 0, 0, 0, 0), 3) := by kernel_rfl
theorem l14_of0 : facts_Of.f (Tm.mk 0 0 0 (ByteArray.mk #[]) []) = some ((0, 0, 0, 0, 0), 4) := by
  unfold facts_Of.f
  rw [show (Tm.mk (Tm.mk 0 0 0 (ByteArray.mk #[]) []).op (Tm.mk 0 0 0 (ByteArray.mk #[]) []).width (Tm.mk 0 0 0 (ByteArray.mk #[]) []).val (Tm.mk 0 0 0 (ByteArray.mk #[]) []).name (Tm.mk 0 0 0 (ByteArray.mk #[]) []).kids) = Tm.mk 0 0 0 (ByteArray.mk #[]) [] from rfl, l14_chk0]
  rfl
theorem Tm.eta (t : Tm) : Tm.mk t.op t.width t.val t.name t.kids = t := by cases t; rfl
theorem l14_ofs {t : Tm} {a b c d e : Int} (h : term_Check.f t = some 0) (hc : facts_compute.f t = some (a, b, c, d, e)) : facts_Of.f t = some ((a, b, c, d, e), 0) := by
  unfold facts_Of.f
  rw [Tm.eta, h]
  simp only [Option.bind_some, bne_self_eq_false, cond_false]
  rw [hc]
  rfl
section
variable (v1 : ByteArray × Int × Unit → Option Tm) (v2 : Int × Int × Unit → Option Tm) (v3 : Int × List Tm × Unit → Option Tm) (v4 : Tm × Unit → Option ((Int × Int × Int × Int × Int) × Int)) (v5 : Int × Int × Unit → Option (Int × Int × Int × Int × Int)) (v6 : Int × Unit → Option (Int × Int × Int × Int × Int)) (v7 : (Int × Int × Int × Int × Int) × (Int × Int × Int × Int × Int) × Unit → Option ((Int × Int × Int × Int × Int) × Bool)) (v8 : (Int × Int × Int × Int × Int) × (Int × Int × Int × Int × Int) × Unit → Option ((Int × Int × Int × Int × Int) × Int)) (v9 : (Int × Int × Int × Int × Int) × Unit → Option Bool)
theorem lives14_abs {h1 h2 h3 h4 h5 h6 h7 h8 h9} (e1 : v1 (ByteArray.mk #[120], 8, ()) = some tX) (e2 : v2 (8, 15, ()) = some (tC 15)) (e2' : v2 (8, 16, ()) = some (tC 16)) (e3 : v3 (5, [tX, tC 15], ()) = some tLow) (e3' : v3 (17, [tLow, tC 16], ()) = some tUlt)
    (e4 : v4 (tLow, ()) = some ((8, 240, 0, 0, 15), 0)) (e4' : v4 (tUlt, ()) = some ((1, 0, 1, 1, 1), 0)) (e4'' : v4 (Tm.mk 0 0 0 (ByteArray.mk #[]) [], ()) = some ((0, 0, 0, 0, 0), 4))
    (e5 : v5 (8, 3, ()) = some (8, 252, 3, 3, 3)) (e5' : v5 (8, 4, ()) = some (8, 251, 4, 4, 4)) (e5'' : v5 (1, 1, ()) = some (1, 0, 1, 1, 1)) (e6 : v6 (8, ()) = some (8, 0, 0, 0, 255)) (e6' : v6 (4, ()) = some (4, 0, 0, 0, 15))
    (e7 : v7 ((8, 252, 3, 3, 3), (8, 0, 0, 0, 255), ()) = some ((8, 252, 3, 3, 3), true)) (e7' : v7 ((8, 252, 3, 3, 3), (8, 251, 4, 4, 4), ()) = some ((8, 0, 0, 0, 255), false)) (e8 : v8 ((8, 0, 0, 0, 255), (4, 0, 0, 0, 15), ()) = some ((0, 0, 0, 0, 0), 3))
    (e9 : v9 ((8, 240, 0, 0, 15), ()) = some true) (e9' : v9 ((8, 240, 0, 0, 255), ()) = some false) : saturatelaw14_lives.fv v1 h1 v2 h2 v3 h3 v4 h4 v5 h5 v6 h6 v7 h7 v8 h8 v9 h9 = some true := by
  unfold saturatelaw14_lives.fv
  simp only [Tm.eta, e1, e2, e2', Option.bind_some, e3, e3', e4, e4', e4'', e5, e5', e5'', e6, e6', e7, e7', e8, e9, e9', beq_self_eq_true, Bool.and_self, cond_true, Bool.not_false]
end
theorem lives14_true : saturatelaw14_lives.f = some true := by
  delta saturatelaw14_lives.f
  exact @lives14_abs (fun a => term_Var.f a.1 a.2.1) (fun a => term_Const.f a.1 a.2.1) (fun a => term_Make.f a.1 a.2.1) (fun a => facts_Of.f a.1) (fun a => facts_Const.f a.1 a.2.1) (fun a => facts_Top.f a.1) (fun a => facts_Meet.f a.1 a.2.1) (fun a => facts_Join.f a.1 a.2.1) (fun a => facts_Valid.f a.1) ⟨term_Var.con⟩ ⟨term_Const.con⟩ ⟨term_Make.con⟩ ⟨facts_Of.con⟩ ⟨facts_Const.con⟩ ⟨facts_Top.con⟩ ⟨facts_Meet.con⟩ ⟨facts_Join.con⟩ ⟨facts_Valid.con⟩ l14_var l14_cst l14_cst16 l14_make l14_make2 (l14_ofs l14_chk1 l14_c1) (l14_ofs l14_chk2 l14_c2) l14_of0 l14_const l14_const4 l14_const1 l14_top l14_top4 l14_meet l14_meet2 l14_join l14_val l14_val2
end Go.Proofs.YtcihbcffokjgjaaGreat.Fn
