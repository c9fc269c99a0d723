import Derived.Test.YtmkhglpfhnocaaaLa
import Derived.Test.YtmkhglpfhnocaaaOpn
namespace Go.Proofs.Ytmkhglpfhnocaaa.Fn
open Go Go.RowKit Go.Proofs Go.Proofs.Ytmkhglpfhnocaaa.Ev
theorem acts_of {W : World} {A : Option Addr} {n : Nat} {f0 : Nat → Bool} {f1 f2 f3 : Nat → Int} (h : RowsAt W 0 A n [.bool f0, .int .i64 f1, .int .i64 f2, .int .i64 f3]) : ActsAt W A n fun i => (f0 i, f1 i, f2 i, f3 i) := fun hn => by
  obtain ⟨ad, h1, h2, h3, h4, h5⟩ := h hn
  obtain ⟨blk, off, sp⟩ := ad
  obtain rfl : sp = none := h2
  refine ⟨blk, off, h1, h4, fun i hi => ⟨h5 i hi 0 _ rfl, h5 i hi 1 _ rfl, h5 i hi 2 _ rfl, h5 i hi 3 _ rfl⟩⟩
end Go.Proofs.Ytmkhglpfhnocaaa.Fn
