/- A package-level table of strings that a row lists: its cells hold the strings. After the kit's law for tables of numbers. -/
import Derived.LaidLaws
import Derived.ChangeArms
import Derived.Lib.LaidTab
import Derived.FnData
import Derived.Test.YtkmehmlcccdnbaaDoorOpn
namespace Go.Proofs.YtkmehmlcccdnbaaDoor.Ev
open Go
theorem cells_of_strs {H : Type} {enc : TypeId × Value → H} {P : Program} {w : World} {base : Nat} {sp : Nat → Bool} {held : Bool} {fuel : Nat} {t e : TypeId} {n : Nat} {cs : List Value} {bs : List (List UInt8)} {p : List MemPlace}
    (ht : P.underlying t = some (.array n e)) (he : P.underlying e = some .string) (hce : P.cellsOf e = 1) (hct : P.cellsOf t = n)
    (h : DataW.trod enc P w base sp held fuel t cs = some (.agg (bs.map fun b => .lit (.string b)), p)) : cs = bs.map fun b => Value.string ⟨b.toArray⟩ := by
  cases fuel with
  | zero => simp [DataW.trod] at h
  | succ fuel =>
    simp only [DataW.trod, ht, hce, hct, Nat.mul_one] at h
    split at h
    · rename_i hl
      obtain ⟨xs, hm, hx⟩ := Option.map_eq_some_iff.1 h
      have hxs : xs.map (·.1) = bs.map fun b => (DataW.lit (.string b) : DataW H) := by
        have := congrArg Prod.fst hx
        simpa using this
      have hxl : xs.length = n := by simpa using Lib.mapM_length hm
      have hzl : bs.length = n := by
        have := congrArg List.length hxs
        simp at this
        omega
      apply List.ext_getElem?
      intro i
      by_cases hi : i < n
      · obtain ⟨b, hb, hf⟩ := Lib.mapM_at hm i i (by simp [hi])
        obtain ⟨s, hc, hz, _⟩ := DataW.trod_string he hf
        have h1 : cs[i]? = some (.string s) := by
          have := congrArg (·[0]?) hc
          simpa [List.getElem?_take, List.getElem?_drop] using this
        have h2 : (xs.map (·.1))[i]? = some (DataW.lit (.string s.data.toList) : DataW H) := by simp [hb, hz]
        rw [hxs] at h2
        simp only [List.getElem?_map, Option.map_eq_some_iff, DataW.lit.injEq, Lit.string.injEq] at h2
        obtain ⟨b', hb', hb2⟩ := h2
        rw [h1, List.getElem?_map, hb', hb2]
        simp
      · rw [List.getElem?_eq_none (by omega), List.getElem?_eq_none (by simp; omega)]
    · cases h
theorem strsIs_of_head {P : Program} {W : World} {name : String} {bs : List (List UInt8)} {rest : List (String × DataW Unit)} {g : Nat} {t e : TypeId} {n : Nat}
    (hg : P.globalNamed name = some g) (hty : (P.globals[g]?).map (·.type) = some t) (ht : P.underlying t = some (.array n e)) (he : P.underlying e = some .string) (hce : P.cellsOf e = 1) (hct : P.cellsOf t = n)
    (h : laidMet P ((name, .agg (bs.map fun b => .lit (.string b))) :: rest) W) (i : Nat) (hi : i < bs.length) : W.cell? ⟨g, i, none⟩ = some (.string ((bs.map fun b => (⟨b.toArray⟩ : ByteArray)).getD i ⟨#[]⟩)) := by
  obtain ⟨ps, ⟨g', t', cs, fuel, p, q, hg', ht', hvar, hd, _, _⟩, _⟩ := h
  obtain rfl := Option.some.inj (hg.symm.trans hg')
  obtain rfl := Option.some.inj (hty.symm.trans ht')
  have hc := cells_of_strs ht he hce hct hd
  rw [World.var?_cell hg hvar i]
  have : cs[i]? = cs.toList[i]? := by simp
  rw [this, hc, List.getElem?_map, List.getElem?_eq_getElem hi]
  simp [List.getD, hi]
theorem pairsIs_of_head {P : Program} {W : World} {name : String} {k : IntKind} {rs : List (List UInt8 × Int)} {rest : List (String × DataW Unit)} {g : Nat} {t e : TypeId} {n : Nat} {f0 f1 : Field}
    (hg : P.globalNamed name = some g) (hty : (P.globals[g]?).map (·.type) = some t) (ht : P.underlying t = some (.array n e)) (he : P.underlying e = some (.struct #[f0, f1])) (ho0 : f0.offset = 0) (ho1 : f1.offset = 1) (hc0 : P.cellsOf f0.type = 1) (hc1 : P.cellsOf f1.type = 1)
    (hu0 : P.underlying f0.type = some .string) (hu1 : P.underlying f1.type = some (.int k)) (hce : P.cellsOf e = 2)
    (h : laidMet P ((name, .agg (rs.map fun r => .agg [.lit (.string r.1), .lit (.int k r.2)])) :: rest) W) (i : Nat) (hi : i < rs.length) :
    W.cell? ⟨g, i * 2, none⟩ = some (.string ((rs.map fun r => (⟨r.1.toArray⟩ : ByteArray)).getD i ⟨#[]⟩)) ∧ W.cell? ⟨g, i * 2 + 1, none⟩ = some (.int k ((rs.map fun r => r.2).getD i 0)) := by
  obtain ⟨ps, ⟨g', t', cs, fuel, p, q, hg', ht', hvar, hd, _, _⟩, _⟩ := h
  obtain rfl := Option.some.inj (hg.symm.trans hg')
  obtain rfl := Option.some.inj (hty.symm.trans ht')
  obtain ⟨xs, m, _, hy, hc, hx, hf⟩ := DataW.trod_array ht hd
  have hxs : xs.map (·.1) = rs.map fun r => DataW.agg [.lit (.string r.1), .lit (.int k r.2)] := by
    have := congrArg Prod.fst hy
    simp only [DataW.agg.injEq] at this
    exact this.symm
  have hxl : xs.length = rs.length := by simpa using congrArg List.length hxs
  have h1 := hf i (by omega)
  rw [hce, List.getElem?_eq_getElem (by omega)] at h1
  obtain ⟨ys, m', _, hy', hc', hx', hf'⟩ := DataW.trod_struct he h1
  have hys : DataW.agg (ys.map (·.1)) = DataW.agg [.lit (.string (rs[i]).1), .lit (.int k (rs[i]).2)] := by
    have e1 : (xs.map (·.1))[i]? = some (xs[i]).1 := by rw [List.getElem?_map, List.getElem?_eq_getElem (by omega)]; rfl
    rw [hxs, List.getElem?_map, List.getElem?_eq_getElem hi] at e1
    simp only [Option.map_some, Option.some.injEq] at e1
    rw [e1, hy']
  simp only [DataW.agg.injEq] at hys
  have g0 := hf' 0 f0 rfl
  have g1 := hf' 1 f1 rfl
  have hy2 : ys.length = 2 := hx'
  rw [ho0, hc0, List.getElem?_eq_getElem (by omega)] at g0
  rw [ho1, hc1, List.getElem?_eq_getElem (by omega)] at g1
  obtain ⟨s, e0, z0, _⟩ := DataW.trod_string hu0 g0
  obtain ⟨z, e1, z1, _⟩ := DataW.trod_int hu1 g1
  have y0 : (ys.map (·.1))[0]? = some (ys[0]).1 := by rw [List.getElem?_map, List.getElem?_eq_getElem (by omega)]; rfl
  have y1 : (ys.map (·.1))[1]? = some (ys[1]).1 := by rw [List.getElem?_map, List.getElem?_eq_getElem (by omega)]; rfl
  rw [hys] at y0 y1
  simp only [List.getElem?_cons_zero, List.getElem?_cons_succ, Option.some.injEq] at y0 y1
  rw [z0] at y0
  rw [z1] at y1
  simp only [DataW.lit.injEq, Lit.string.injEq, Lit.int.injEq, true_and] at y0 y1
  have c0 : cs.toList[i * 2]? = some (.string s) := by
    have := congrArg (·[0]?) e0
    simpa [List.getElem?_take, List.getElem?_drop] using this
  have c1 : cs.toList[i * 2 + 1]? = some (.int k z) := by
    have := congrArg (·[0]?) e1
    simpa [List.getElem?_take, List.getElem?_drop] using this
  refine ⟨?_, ?_⟩
  · rw [World.var?_cell hg hvar (i * 2)]
    have : cs[i * 2]? = cs.toList[i * 2]? := by simp
    rw [this, c0]
    simp [List.getD, hi, y0]
  · rw [World.var?_cell hg hvar (i * 2 + 1)]
    have : cs[i * 2 + 1]? = cs.toList[i * 2 + 1]? := by simp
    rw [this, c1]
    simp [List.getD, hi, y1]
end Go.Proofs.YtkmehmlcccdnbaaDoor.Ev
