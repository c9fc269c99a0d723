/- FactsApply, in plain words: Apply of the program and of the reference return the same facts or the same error. -/
import Derived.Test.YtcihbcffokjgjaaGreatAStFactsApply
import Derived.Test.YtcihbcffokjgjaaGreatAFl
namespace Go.Proofs.YtcihbcffokjgjaaGreat.Th
open Go Go.RowKit Go.Proofs.YtcihbcffokjgjaaGreat.Ev Go.Proofs.YtcihbcffokjgjaaGreat.Fn Go.Proofs.YtcihbcffokjgjaaGreat.Bv
set_option linter.unusedVariables false
set_option linter.unusedSimpArgs false
set_option maxRecDepth 100000
theorem apply_both (op w : Int) {x n : Nat} (hx : x < U64) (hn : n ≤ 1000) {G z o l h : Nat → Int} (hz : Nums z) (ho : Nums o) (hl : Nums l) (hh : Nums h) : ∃ q, facts_Apply.f op w x (n, G, z, o, l, h) = some q ∧ saturateref14_Apply.f op w x (n, G, z, o, l, h) = some q := by
  rw [facts_Apply_eq op w hn hz ho hl hh, saturateref14_Apply_eq op w hn hz ho hl hh]
  have nz := opZ_nums (l := l) (h := h) (G := G) hz ho n
  have no := opO_nums (l := l) (h := h) (G := G) hz ho n
  exact ⟨_, apP_eq op w hx nz no (opL_nn n), apR_eq op w hx nz no (opL_nn n)⟩
theorem apply_abs (v : Unit → Option Bool) {e} (hv : v () = some true) (fu : Nat) (op w : Int) {x n : Nat} (hx : x < U64) {G z o l h : Nat → Int} (hz : Nums z) (ho : Nums o) (hl : Nums l) (hh : Nums h) : saturatelaw14_FactsApply.gv v e fu op w (x : Int) (n, G, z, o, l, h) = some true := by
  unfold saturatelaw14_FactsApply.gv
  simp only
  by_cases c : n ≤ 5
  · rw [bifd_neg (by omega)]
    obtain ⟨q, e1, e2⟩ := apply_both op w hx (n := n) (by omega) (G := G) hz ho hl hh
    rw [e1, e2, hv]
    simp only [Option.bind_some, beq_self_eq_true, Bool.and_self, cond_true]
  · rw [bifd_pos (by omega), hv]; rfl
theorem FactsApply : St.FactsApply := by
  intro op w x n G z o l h _ _ hx0 _ _ hz ho hl hh
  obtain ⟨x, rfl, hx⟩ := u64_of hx0
  have q := @apply_abs (fun a => saturatelaw14_lives.f) ⟨saturatelaw14_lives.con⟩ lives14_true (fuel0 + 1) op w x n hx G z o l h (nums_of hz) (nums_of ho) (nums_of hl) (nums_of hh)
  delta saturatelaw14_FactsApply.f
  exact q
end Go.Proofs.YtcihbcffokjgjaaGreat.Th
