/- Opening what came in, for the rows of this seat: a slice of numbers. -/
import Derived.Test.YtpihldeikdiniaaDoorLaid
import Derived.Test.YtpihldeikdiniaaDoorSt8
import Derived.ShutString
import Derived.ChangeOld
namespace Go.Proofs.YtpihldeikdiniaaDoor
open Go.ChangeShapes Go.WideShapes Go.ChangeAt Go.RowKit
theorem laidOut : laidOutB Tryd.prog = true := by kernel_rfl
theorem intsIn_of {H : Type} {enc : TypeId × Value → H} {P : Program} {W : World} {t e : TypeId} {a : Option Addr} {len cap : Nat} {d : DataW H} {p : List MemPlace} (ht : P.underlying t = some (.slice e)) (he : P.underlying e = some (.int .i64)) (hc : P.cellsOf e = 1)
    (h : DataW.Trod enc P W 0 (fun _ => true) true t (.slice a len cap) d p) : ∃ zs, IntsIn W a len zs := by
  obtain ⟨fuel, hf⟩ := h
  rcases open_ints ht he hc hf with ⟨hcs, _⟩ | ⟨x, l, c, zs, hcs, _, hl, hm, hz, _, hcell, hwz⟩
  · simp [Value.cells] at hcs
    obtain ⟨rfl, rfl, rfl⟩ := hcs
    exact ⟨[], rfl, by omega, fun h => absurd h (by omega)⟩
  · simp [Value.cells] at hcs
    obtain ⟨rfl, rfl, rfl⟩ := hcs
    have hz' : zs.length = cap := by simpa using hz
    refine ⟨zs.take len, by simp; omega, by unfold maxLen at hm; omega, fun h0 => ?_⟩
    obtain ⟨b, o, rfl, hb⟩ := ints_at hcell (by omega)
    refine ⟨b, o, rfl, fun j hj => ?_⟩
    rw [hb j (by omega), List.getElem?_take_of_lt hj]
    simp
end Go.Proofs.YtpihldeikdiniaaDoor
