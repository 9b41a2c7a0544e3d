/- What the listed variable state.table gives the walks: its cells hold the table. -/
import Derived.Test.YtpihldeikdiniaaDoorRows
import Derived.Test.YtpihldeikdiniaaDoorSt3
import Derived.ProofKit
import Derived.LaidMore
import Derived.OpenShut
import Derived.Stop.Joined
namespace Go.Proofs.YtpihldeikdiniaaDoor
open Go.ChangeShapes Go.WideShapes Go.ChangeAt Go.RowKit
theorem own : ownKnob Tryd.prog.godebug = none := by kernel_rfl
theorem gTab : Tryd.prog.globalNamed "squint/state.table" = some 0 := by kernel_rfl
theorem tTab : (Tryd.prog.globals[0]?).map (·.type) = some 84 := by kernel_rfl
theorem cells_row : Tryd.prog.cellsOf 83 = 9 := by kernel_rfl
theorem cells_one : Tryd.prog.cellsOf 39 = 1 := by kernel_rfl
theorem cells_tab : Tryd.prog.cellsOf 84 = 45 := by kernel_rfl
def laidT : DataW Unit := Rows.laid_squint_state_table
/-- An array of states that reads as these numbers has these cells. -/
theorem row_of {enc : TypeId × Value → Unit} {w : World} {base : Nat} {spare : Nat → Bool} {held : Bool} {fuel : Nat} {cs : List Value} {x} {zs : List Int} (hz : zs.length = 9)
    (h : DataW.trod enc Tryd.prog w base spare held fuel 83 cs = some x) (hx : x.1 = .agg (zs.map fun z => .lit (.int .i64 z))) : ∀ j, j < 9 → cs[j]? = some (.int .i64 (zs[j]?.getD 0)) := by
  obtain ⟨xs, m, rfl, rfl, hl, hn, hel⟩ := DataW.trod_array Tryd.underlying83 h
  intro j hj
  have hj' := hel j hj
  rw [cells_one] at hj'
  obtain ⟨y, hy⟩ : ∃ y, xs[j]? = some y := ⟨xs[j]'(by omega), List.getElem?_eq_getElem _⟩
  rw [hy] at hj'
  obtain ⟨k, e1, e2, _⟩ := DataW.trod_int Tryd.underlying39 hj'
  have hx' : xs.map (·.1) = zs.map fun z => .lit (.int .i64 z) := by simpa using hx
  have h3 : (xs.map (·.1))[j]? = (zs.map fun z => (.lit (.int .i64 z) : DataW Unit))[j]? := by rw [hx']
  rw [List.getElem?_map, List.getElem?_map, hy, e2] at h3
  obtain ⟨z, hz'⟩ : ∃ z, zs[j]? = some z := ⟨zs[j]'(by omega), List.getElem?_eq_getElem _⟩
  rw [hz'] at h3
  have hk : k = z := by simpa using h3
  subst hk
  rw [hz']
  have h4 : ((cs.drop (j * 1)).take 1)[0]? = some (.int .i64 k) := by rw [e1]; rfl
  rw [List.getElem?_take_of_lt (by omega), List.getElem?_drop] at h4
  simpa using h4
theorem of_laid {W : World} (h : laidMetH Tryd.prog [("squint/state.table", laidT)] W) : TabOK W := by
  rw [MakeChecks.laidMetH_plain _ _ _ (by kernel_rfl)] at h
  obtain ⟨ps, ⟨g0, t0, cs0, f0, p0, q0, hg0, ht0, hv0, hd0, _, _⟩, _, _⟩ := h
  obtain rfl := Option.some.inj (gTab.symm.trans hg0)
  obtain rfl := Option.some.inj (tTab.symm.trans ht0)
  have hc : ∀ i, i < 45 → cs0[i]? = some (.int .i64 (tabL[i]?.getD 0)) := by
    obtain ⟨xs, m, rfl, hx, hl, hn, hel⟩ := DataW.trod_array Tryd.underlying84 hd0
    simp only [Prod.mk.injEq] at hx
    intro i hi
    have hr := hel (i / 9) (by omega)
    rw [cells_row] at hr
    obtain ⟨y, hy⟩ : ∃ y, xs[i / 9]? = some y := ⟨xs[i / 9]'(by omega), List.getElem?_eq_getElem _⟩
    rw [hy] at hr
    have hxs : xs.map (·.1) = [.agg (([1, -1, -1, -1, -2, -2, -2, -2, -2] : List Int).map fun z => .lit (.int .i64 z)), .agg (([1, 1, 3, 4, 1, 1, 2, 4, 1] : List Int).map fun z => .lit (.int .i64 z)), .agg (([2, 2, 4, 4, -3, -3, -3, 4, 2] : List Int).map fun z => .lit (.int .i64 z)), .agg (([-1, -1, -1, 4, 3, 3, 4, 4, 3] : List Int).map fun z => .lit (.int .i64 z)), .agg (([-1, -1, -1, -1, -3, -3, -3, 4, 4] : List Int).map fun z => .lit (.int .i64 z))] := by
      have := hx.1
      unfold laidT Rows.laid_squint_state_table at this
      simpa using this.symm
    have hy1 : y.1 = .agg (((tabL.drop (9 * (i / 9))).take 9).map fun z => .lit (.int .i64 z)) := by
      have e : (xs.map (·.1))[i / 9]? = some y.1 := by rw [List.getElem?_map, hy]; rfl
      rw [hxs] at e
      have : i / 9 < 5 := by omega
      generalize i / 9 = q at *
      match q, this with
      | 0, _ => exact (Option.some.inj e).symm
      | 1, _ => exact (Option.some.inj e).symm
      | 2, _ => exact (Option.some.inj e).symm
      | 3, _ => exact (Option.some.inj e).symm
      | 4, _ => exact (Option.some.inj e).symm
    have hlen : ((tabL.drop (9 * (i / 9))).take 9).length = 9 := by
      have : tabL.length = 45 := rfl
      simp only [List.length_take, List.length_drop, this]
      omega
    have := row_of hlen hr hy1 (i % 9) (by omega)
    rw [List.getElem?_take_of_lt (by omega), List.getElem?_drop] at this
    rw [List.getElem?_take_of_lt (by omega), List.getElem?_drop] at this
    rw [show i / 9 * 9 + i % 9 = i from by omega, show 9 * (i / 9) + i % 9 = i from by omega] at this
    simpa using this
  have hcell : ∀ i, i < 45 → W.cell? ⟨0, i, none⟩ = some (.int .i64 (tabL[i]?.getD 0)) := fun i hi => (World.var?_cell hg0 hv0 i).trans (hc i hi)
  exact ⟨World.block_lt_of_cell? W _ (hcell 0 (by decide)), hcell⟩
/-- The row's end: the call wrote nothing that was there: whatever reads before it reads so behind it. -/
theorem post_of_below {H : Type} {enc : TypeId × Value → H} {P : Program} {f : Func} {s : ChangeSpec} {apart fresh handsOn : Bool} {W W' : World} {args : Array Value} {v : Value} {ds gs : List (DataW H)} {before pa pv : List MemPlace}
    (hW : DataW.Whole enc P f.params.toList s.vars apart W args.toList ds gs before)
    (hres : ∀ (b : Nat) (sp : Nat → Bool) (hd : Bool), DataW.TrodAll enc P W' b sp hd f.resultTypes.toList (v.resultList f.resultTypes.size) (s.fn H (ds ++ gs)).results [])
    (hargs : ∀ sp : Nat → Bool, (∀ p ∈ before, sp p.block = true) → DataW.TrodAll enc P W' 0 sp true f.params.toList args.toList (s.fn H (ds ++ gs)).args pa)
    (hvars : ∀ sp : Nat → Bool, (∀ p ∈ before, sp p.block = true) → DataW.TrodVars enc P W' sp s.vars (s.fn H (ds ++ gs)).vars pv)
    (hps : before = pa ++ pv) (hk : W.keptBut W' (· ∈ before)) :
    s.post enc P f apart fresh handsOn false W args v W' := by
  have hold : ∀ p ∈ before, (fun b => decide (b < W.heap.size)) p.block = true := fun p hp => by simpa using hW.lt p hp
  refine ⟨ds, gs, before, [], pa, pv, hW, hres _ _ _, hargs _ hold, hvars _ hold, World.keptBut_mono (fun p hp => ⟨hp, ?_⟩) hk, fun h => by cases h⟩
  rw [hps, List.mem_append] at hp
  exact Or.inr hp
theorem door_met (os : Os) (args : Array Value) : laidMetH Tryd.prog [("squint/state.table", laidT)] ((World.doorLaid Tryd.prog 19 os).forCall (fun _ _ => 0) ⟨#[], args, []⟩).memory :=
  laidMetH_of_parts3 (fuel := 8) (laidMet_of_run' 8 (by kernel_rfl) (by kernel_rfl)) (by kernel_rfl) (by kernel_rfl)
end Go.Proofs.YtpihldeikdiniaaDoor
